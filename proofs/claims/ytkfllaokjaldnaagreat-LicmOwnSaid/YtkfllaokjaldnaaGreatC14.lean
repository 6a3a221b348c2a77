import Derived.Test.YtkfllaokjaldnaaGreatC13
import Derived.Test.YtkfllaokjaldnaaGreatC7
import Derived.Test.YtkfllaokjaldnaaGreatC8
import Derived.Test.YtkfllaokjaldnaaGreatC12
import Derived.Test.YtkfllaokjaldnaaGreatC10
import Derived.Test.YtkfllaokjaldnaaGreatC9
/- Part of the proof. -/
set_option linter.unusedVariables false
set_option linter.unusedSimpArgs false
set_option maxRecDepth 10000
set_option maxHeartbeats 8000000
namespace Go.Vw
open Go.Proofs Go.RowKit
attribute [-simp] List.map_set
abbrev blkE:List Ty:=[.c, .s (List.replicate 4 .c), .c, .c, .s (List.replicate 2 .c), .c]
def YP (S:Store) (g:Ss.Fn) (r:V) (T:Store):Prop:=Agree S T∧T.Wf ∧ ∃ (ot ob:Nat) (cells:List V) (ids:List Nat),r = .agg [vl vint g.sig.inn,vl vint g.sig.out, .slice ot 0 g.types.length, .slice ob 0 g.blocks.length]∧T.get ot=some (1,g.types.map vint)∧T.get ob=some (6,cells)∧OwL T (reps g.blocks.length blkE) cells (je jb g.blocks) ids∧(ot::ob::ids).Nodup ∧ ∀ o∈ot::ob::ids,S.nx≤o∧o<T.nx
theorem RReplaceE_v (S:Store) (f:Ss.Fn) (to:List Int) (hf:f.Fits) (hs:f.small=true) (hto:to.length<2^63):VCalls Tryz.prog 57 [ql f,vl vint to] S (YP S (Ss.replace f to)):=by
 have csm:=Ke f hf;rw [hs] at csm;obtain ⟨hh,hbk,hcnt⟩:=(Ss.small_iff f).1 hs;simp only [Ss.Fn.heads,Bool.and_eq_true,decide_eq_true_eq] at hh;obtain ⟨sm,hsm⟩ : ∃ sm,sm=true:=⟨_,rfl⟩
 rw [←hsm] at csm;have cfi:=Ku f.sig.inn (by omega);have cfo:=Ku f.sig.out (by omega);have cft:=fun S=>swapNO_v S f.types (by omega)
 have csw:=fun l hl=>swap_v l to hl hto
 have cpu:=fun v=>put_v v to hto
 have hX:Ss.replace f to=⟨f.sig,f.types,f.blocks.map (Ss.repBlock to)⟩:=rfl;rw [hX];clear hX;have hbF:=hf.2.2.2;obtain ⟨⟨fi,fo⟩,ts,bs⟩:=f;simp only at hh hbk hbF hcnt cfi cfo cft ⊢;have csm':VPure Tryz.prog 35 [.agg [vl vint fi,vl vint fo,vl vint ts,vl jb bs]] (.bool sm):=csm;refine qd (c:=jd Tryz.f57) Tryz.func57 rfl (by conv=>lhs; reduce) (by simp [Tryz.ntmps57]) ?_;rw [Tryz.ntmps57];intro hwf
 repeat first|refine QG ?_|refine QY ?_
 refine QH 2 0 ?_;refine QT ?_;refine QP ?_;refine QL (csm') ?_;refine QM (by conv=>lhs;simp[QV,hsm]) ?_;refine QN ?_
 repeat first|refine QG ?_|refine QY ?_ (r:=by conv=>lhs;simp[QV,hsm])
 refine QO [1,2,4] ?_;refine QK [1] ?_;have cft':=cft (St S [] [some (4,[.nils, .nils, .nils, .nils])]);have cft2:=cft (St S [] [some (4,[.nils, .nils, .nils, .nils]),some (4,[.nils, .nils, .nils, .nils])]);rw [jE,jZ, ←Jf] at cft' cft2;simp only [List.cons_append,List.nil_append,List.length_cons,List.length_nil,Nat.zero_add,Nat.add_zero] at cft' cft2;refine QT ?_;refine Jh (St S [] []) (St S [] []) [10028] 11 11 13 [11,12,13,14] [13,11,12,14] rfl (by kernel_rfl) (by conv=>lhs; reduce) (by kernel_rfl) (by decide) (by kernel_rfl) (by kernel_rfl) (by kernel_rfl) (by kernel_rfl) (by kernel_rfl) (by kernel_rfl) (by kernel_rfl) rfl rfl (by kernel_rfl) (JG (by simp [subU,shpU,subL,shpL])) (by conv=>lhs; reduce) (by conv=>lhs; reduce) (by conv=>lhs; reduce) ?_;refine QZ ?_;refine QL (cfi) ?_;refine QZ ?_;refine QL (cfo) ?_;refine QW ?_;refine ⟨?sm, ?Sm, ?H3, ?H1, ?H2⟩
 case H1 =>
  refine JR rfl (cft') (by rfl) (Kf (zt _ _ (by simp [subU])) (by simp [subL])) (JG (by simp [subU,shpU,subL,shpL])) ?_;refine QZ ?_;refine QI ?_;refine QZ ?_;refine QI ?_;refine QW ?_;refine zu [1,2,4,5] (Eq.trans (b := ?_) ?_ rfl)
  rotate_left
  conv=>lhs; simp [Fr.only,Fr.look]
 case H2 =>
  refine QI ?_;refine QZ ?_;refine JR rfl (cft2) (by rfl) (Kf (zt _ _ (by simp [subU])) (by simp [subL])) (JG (by simp [subU,shpU,subL,shpL])) ?_;refine QZ ?_;refine QI ?_;refine QW ?_;exact zD [1,2,4,5] [0,2,1] (by conv=>lhs; simp [Fr.only,Fr.look]) hwf (by decide) (by simp) (by conv=>lhs; simp) (by conv=>lhs; simp) (by conv=>lhs; simp)
 repeat first|refine QG ?_|refine QY ?_
 apply jo
 ·exact Reach.voidCell 6 (k:=2) (i:=3) (by simp) (by rfl) (by rfl)
 simp only [List.cons_append,List.nil_append,List.length_cons,List.length_nil,List.set_cons_succ,List.set_cons_zero];refine QO [1,2,4,5,6] ?_;refine QK [1,0,2,3] ?_;obtain ⟨ot,hot⟩ : ∃ ot,ot=lid S.nx 0:=⟨_,rfl⟩
 rw [←hot];refine QT ?_;refine jc [1,2,4,5,6] rfl (fun c σ S' => ∃ (B:Store) (k:Nat) (out:List Ss.Block) (cells:List V) (ids:List Nat),Agree S B∧B.Wf∧(B.get ot=some (1,ts.map vint)∧S.nx≤ot∧ot<B.nx∧ot∉ids)∧k≤bs.length∧c=bs.length-k∧out=(bs.take k).map (Ss.repBlock to)∧out.length=k∧OwL B (reps k blkE) cells (je jb out) ids∧ids.Nodup∧(∀ o∈ids,S.nx≤o∧o<B.nx)∧σ=[(1,vl vint to),(2, .ref (.agg [vl vint fi,vl vint fo,vl vint ts,vl jb bs])),(4, .ptr (lid B.nx 0) 0),(5, .ptr (lid B.nx 1) 0),(6,vnat k)]∧S'=St B [] [some (4,[.nils, .nils, .nils, .nils]),some (4,[vl vint fi,vl vint fo, .slice ot 0 ts.length, .slice (lid B.nx 2) 0 k]),some (6,cells)]) bs.length ?_ ?_
 ·have hotg:(St S [] [some (1,ts.map vint)]).get ot=some (1,ts.map vint):=by rw [hot,jv]; rfl
  refine ⟨St S [] [some (1,ts.map vint)],0,[],[],[],Jn,jaU hwf (by simp),⟨hotg,by rw [hot,lid]; omega,by rw [hot,jE]; simp [lid],by simp⟩,by omega,rfl,by simp,rfl, .nil,by simp,by simp,by simp [Fr.only,jE,jZ], ?_⟩;refine (ZE).trans ?_;simp [jE,jZ]
 ·rintro c σ T ⟨B,k,out,cells,ids,hag,hwfB,⟨hotg,hots,hotB,hotn⟩,hk,rfl,ho,hol,how,hnd,hids,rfl,rfl⟩;have hwfS:=hwf;clear hwf;have hwf:=hwfB;refine zy hag.1 ?_;have hci:=fun ks=>(how.old (fun o ho=>(hids o ho).2) ks).1
  have gtP:=fun ks=>zz (n:=B.nx) ks hotB
  have gtT:=fun ks=>qX (n:=B.nx) ks hotB
  have hcr:=fun ks=>(how.old (fun o ho=>(hids o ho).2) ks).2
  by_cases hkt:k<bs.length
  case neg =>
   have hke:k=bs.length:=by omega
   subst hke;rw [List.take_length] at ho
   repeat first|refine QG ?_|refine QY ?_ (r:=by conv=>lhs;simp[QV,hkt])
   refine Zp (xs:=[.agg [vl vint fi,vl vint fo, .slice ot 0 ts.length, .slice (lid B.nx 2) 0 bs.length]]) (by simp) ?_;rw [jbl];have hlb:(bs.map (Ss.repBlock to)).length=bs.length:=List.length_map _;have hcw:V.idsL (fun o=>decide (o<lid B.nx 3)) cells=true:=how.ids_lt fun o ho=>decide_eq_true (Nat.lt_of_lt_of_le (hids o ho).2 (by rw [lid]; omega))
   have hotw:ot<lid B.nx 3:=Nat.lt_of_lt_of_le hotB (by rw [lid]; omega);refine qZ ⟨hag.St,jaU hwf (by simp [hcw,lid_lt,hotw]),ot,lid B.nx 2,cells,ids,by rw [hlb],by rw [jk hotB]; exact hotg,by rw [jv]; rfl, ?_, ?_, ?_⟩
   ·rw [hlb, ←ho];exact how.mono fun o ho=>by rw [jk (hids o ho).2]; rfl
   ·refine List.nodup_cons.2 ⟨fun hm => ?_,List.nodup_cons.2 ⟨fun hm => ?_,hnd⟩⟩
    ·rcases List.mem_cons.1 hm with e | hm
     ·rw [e,lid] at hotB; omega
     ·exact hotn hm
    ·have:=(hids _ hm).2;simp only [lid] at this; omega
   ·intro o ho;have hle:=hag.1;rw [jE];rcases List.mem_cons.1 ho with rfl | ho
    ·simp only [lid,List.length_cons,List.length_nil]; omega
    rcases List.mem_cons.1 ho with rfl | ho
    ·simp only [lid,List.length_cons,List.length_nil]; omega
    ·have:=hids o ho;simp only [lid,List.length_cons,List.length_nil]; omega
  have hw:=ji hkt (by omega);have hbF':=hbF _ (List.getElem_mem hkt);have hbk':=hbk _ (List.getElem_mem hkt);have htk:(bs.take (k+1)).map (Ss.repBlock to)=(bs.take k).map (Ss.repBlock to)++[Ss.repBlock to bs[k]]:=by rw [List.take_add_one,List.getElem?_eq_getElem hkt,List.map_append]; rfl
  obtain ⟨⟨ps,code,⟨tk,ta,tt,az⟩⟩,hx⟩ : ∃ b,bs[k]=b:=⟨_,rfl⟩
  rw [hx] at hbF' hbk' htk;simp only [Ss.Block.small,Bool.and_eq_true,List.all_eq_true,Ss.Ins.small,Ss.Edge.small,decide_eq_true_eq] at hbk';obtain ⟨⟨⟨⟨hps,htt⟩,haz⟩,hcode⟩,hto2⟩:=hbk';have hcl:=hcnt;have hcb:code.length≤4096:=by
   have:=count_mem (List.getElem_mem hkt);rw [hx] at this;simp only at this;omega
  have cps:=Ku ps (by omega)
  repeat first|refine QG ?_|refine QY ?_ (r:=by conv=>lhs;simp[QV,hkt,hx])
  refine QH 7 3 ?_;refine QT ?_;refine QP ?_;refine QL (cps) ?_;refine QW ?_
  repeat first|refine QG ?_|refine QY ?_
  apply jo
  ·exact Reach.voidCell 4 (k:=4) (i:=1) (by simp) (by rfl) (by rfl)
  simp only [List.cons_append,List.nil_append,List.length_cons,List.length_nil,List.set_cons_succ,List.set_cons_zero];refine QO [1,2,4,5,6,7,8,9] ?_;refine Wx [0,1,2,4,5] hwf (by decide) (by simp [gtP,gtT,hci,hcr]) (by conv=>lhs; simp [gtP,gtT,hci,hcr]) (by conv=>lhs; simp [gtP,gtT,hci,hcr]) (by conv=>lhs; simp [gtP,gtT,hci,hcr]) ?_;refine QT ?_;refine jc [1,2,4,5,6,7,8,9] rfl (fun c σ S' => ∃ (j:Nat) (co:List Ss.Ins),j≤code.length∧c=code.length-j∧co=(code.take j).map (Ss.repIns to)∧co.length=j∧σ=[(1,vl vint to),(2, .ref (.agg [vl vint fi,vl vint fo,vl vint ts,vl jb bs])),(4, .ptr (lid B.nx 0) 0),(5, .ptr (lid B.nx 1) 0),(6,vnat k),(7, .ref (.agg [vl vint ps,vl jg code, .int .i64 tk, .int .i64 ta,vl jf tt,vl vint az])),(8, .ptr (lid B.nx 3) 0),(9,vnat j)]∧S'=St B [] [some (4,[.nils, .nils, .nils, .nils]),some (4,[vl vint fi,vl vint fo, .slice ot 0 ts.length, .slice (lid B.nx 2) 0 k]),some (6,cells),some (6,[vl vint ps, .slice (lid B.nx 4) 0 j, .int .i64 0, .int .i64 0, .nils, .nils]),some (4,je jg co)]) code.length ?_ ?_
  ·exact ⟨0,[],by omega,rfl,by simp,rfl,by simp [Fr.only],by simp [je]⟩
  ·rintro c σ T ⟨j,co,hj,rfl,hco,hcol,rfl,rfl⟩
   by_cases hjt:j<code.length
   case neg =>
    have hje:j=code.length:=by omega
    subst hje;rw [List.take_length] at hco;have cza:=csw az (by omega);have cta:=cpu ta;generalize hgz:az.map (Ss.putv to)=gz at *
    generalize hgt:Ss.putv to ta=gt at *
    repeat first|refine QG ?_|refine QY ?_ (r:=by conv=>lhs;simp[QV,hjt])
    refine QH 11 5 ?_;refine QT ?_;refine QJ (St B [] []) (St B [] [none,none,none,some (6,[])]) [] ?_ (r:=by conv=>lhs; simp [QV]);refine QL (cza) ?_;refine QZ ?_;refine QI ?_;refine QW ?_;refine QO [1,2,4,5,6,8,11] ?_;refine Wx [0,1,2,3,4] hwf (by decide) (by simp [gtP,gtT,hci,hcr,js,jq]) (by conv=>lhs; simp [gtP,gtT,hci,hcr,js,jq]) (by conv=>lhs; simp [gtP,gtT,hci,hcr,js,jq]) (by conv=>lhs; simp [gtP,gtT,hci,hcr,js,jq]) ?_;refine Jg rfl ?_;refine Wc (fun σ S'=>σ=[(1,vl vint to),(2, .ref (.agg [vl vint fi,vl vint fo,vl vint ts,vl jb bs])),(4, .ptr (lid B.nx 0) 0),(5, .ptr (lid B.nx 1) 0),(6,vnat k),(8, .ptr (lid B.nx 3) 0),(11, .ref (.agg [.int .i64 tk, .int .i64 ta,vl jf tt,vl vint az]))]∧S'=St B [] [some (4,[.nils, .nils, .nils, .nils]),some (4,[vl vint fi,vl vint fo, .slice ot 0 ts.length, .slice (lid B.nx 2) 0 k]),some (6,cells),some (6,[vl vint ps, .slice (lid B.nx 4) 0 code.length, .int .i64 tk, .int .i64 (if tk=2∨tk=3 then gt else ta), .nils,vl vint gz]),some (4,je jg co)]) [1,2,4,5,6,8,11] ?_ ?_
    ·by_cases h2:tk=2
     ·repeat first|refine QG ?_|refine QY ?_ (r:=by conv=>lhs;simp[QV,h2])
      refine QT ?_;refine QP ?_;refine QL (cta) ?_;refine QW ?_
      repeat first|refine QG ?_|refine QY ?_
      exact ⟨by simp [Fr.only,h2],by simp [h2]⟩
     by_cases h3:tk=3
     ·repeat first|refine QG ?_|refine QY ?_ (r:=by conv=>lhs;simp[QV,h2,h3])
      refine QT ?_;refine QP ?_;refine QL (cta) ?_;refine QW ?_
      repeat first|refine QG ?_|refine QY ?_
      exact ⟨by simp [Fr.only,h3],by simp [h3]⟩
     ·repeat first|refine QG ?_|refine QY ?_ (r:=by conv=>lhs;simp[QV,h2,h3])
      exact ⟨by simp [Fr.only],by simp [h2,h3]⟩
    rintro σ S' ⟨rfl,rfl⟩;generalize hgg:(if tk=2∨tk=3 then gt else ta)=gg
    repeat first|refine QG ?_|refine QY ?_
    apply jo
    ·exact Reach.voidCell 2 (k:=3) (i:=4) (by simp) (by rfl) (by rfl)
    simp only [List.cons_append,List.nil_append,List.length_cons,List.length_nil,List.set_cons_succ,List.set_cons_zero];refine QT ?_;refine jc [1,2,4,5,6,8,11,12] rfl (fun c σ S' => ∃ (j:Nat) (eo:List Ss.Edge),j≤tt.length∧c=tt.length-j∧eo=(tt.take j).map (Ss.repEdge to)∧eo.length=j∧σ=[(1,vl vint to),(2, .ref (.agg [vl vint fi,vl vint fo,vl vint ts,vl jb bs])),(4, .ptr (lid B.nx 0) 0),(5, .ptr (lid B.nx 1) 0),(6,vnat k),(8, .ptr (lid B.nx 3) 0),(11, .ref (.agg [.int .i64 tk, .int .i64 ta,vl jf tt,vl vint az])),(12,vnat j)]∧S'=St B [] [some (4,[.nils, .nils, .nils, .nils]),some (4,[vl vint fi,vl vint fo, .slice ot 0 ts.length, .slice (lid B.nx 2) 0 k]),some (6,cells),some (6,[vl vint ps, .slice (lid B.nx 4) 0 code.length, .int .i64 tk, .int .i64 gg, .slice (lid B.nx 5) 0 j,vl vint gz]),some (4,je jg co),some (2,je jf eo)]) tt.length ?_ ?_
    ·exact ⟨0,[],by omega,rfl,by simp,rfl,by simp [Fr.only],by simp [je]⟩
    ·rintro c σ T ⟨j,eo,hj,rfl,heo,heol,rfl,rfl⟩
     by_cases hjt:j<tt.length
     case neg =>
      have hje:j=tt.length:=by omega
      subst hje;rw [List.take_length] at heo
      repeat first|refine QG ?_|refine QY ?_ (r:=by conv=>lhs;simp[QV,hjt])
      have hcel:cells.length=k*6:=by rw [how.len.1,qL]; rfl
      have hb:(k+1)*112≤140737488355328:=by omega
      have hb':k+1≤140737488355328:=by omega
      repeat first|refine QG ?_|refine QY ?_ (r:=by conv=>lhs;simp[QV,hb,hb',hcel,rep0,hw])
      show jp _ _ _ _ _ _ _;refine JO hag.1 ?_;have hblk:Ss.repBlock to ⟨ps,code,⟨tk,ta,tt,az⟩⟩=⟨ps,co,⟨tk,gg,eo,gz⟩⟩:=by
       simp only [Ss.repBlock,Ss.repTerm,hgt,hgz,hgg,hco,heo]
      have hB' : ∀ o,o<B.nx→(St B [] [some (4,je jg co),some (2,je jf eo)]).get o=B.get o:=fun o ho=>by rw [jk ho]; rfl
      have hnew:OwL (St B [] [some (4,je jg co),some (2,je jf eo)]) blkE [vl vint ps, .slice (lid B.nx 0) 0 code.length, .int .i64 tk, .int .i64 gg, .slice (lid B.nx 1) 0 tt.length,vl vint gz] (jb ⟨ps,co,⟨tk,gg,eo,gz⟩⟩).cells [lid B.nx 0,lid B.nx 1]:=by
       rw [jz, ←hcol, ←heol];exact .c rfl (OwL.slice (fun _=>by rw [jJ]; rfl) qo co (by rw [jv]; rfl) (.c rfl (.c rfl (OwL.slice (fun _=>by rw [qq]; rfl) qp eo (by rw [jv]; rfl) (.c rfl .nil)))))
      have hown:OwL (St B [] [some (4,je jg co),some (2,je jf eo)]) (reps (k+1) blkE) (cells++[vl vint ps, .slice (lid B.nx 0) 0 code.length, .int .i64 tk, .int .i64 gg, .slice (lid B.nx 1) 0 tt.length,vl vint gz]) (je jb (out++[⟨ps,co,⟨tk,gg,eo,gz⟩⟩])) (ids++[lid B.nx 0,lid B.nx 1]):=by
       rw [Kx,qK];exact (how.mono fun o ho=>hB' o (hids o ho).2).append hnew
      have hotN:(St B [] [some (4,je jg co),some (2,je jf eo)]).get ot=some (1,ts.map vint)∧S.nx≤ot∧ot<(St B [] [some (4,je jg co),some (2,je jf eo)]).nx∧ot∉ids++[lid B.nx 0,lid B.nx 1]:=by
       refine ⟨by rw [hB' ot hotB]; exact hotg,hots,by rw [jE]; simp only [lid,List.length_cons,List.length_nil]; omega,fun hm => ?_⟩;rcases List.mem_append.1 hm with hm | hm
       ·exact hotn hm
       ·simp only [List.mem_cons,List.not_mem_nil,or_false] at hm;rcases hm with hm | hm<;>(rw [hm,lid] at hotB; omega)
      refine qR [4,5,0,1,7] (by conv=>lhs; simp [Fr.only]) hwf (by decide) (by simp [gtP,gtT,hci,hcr,js,jq,qJ,qC]) (by conv=>lhs; simp [gtP,gtT,hci,hcr,js,jq,qJ,qC]) (by conv=>lhs; simp [gtP,gtT,hci,hcr,js,jq,qJ,qC]) (by conv=>lhs; simp [gtP,gtT,hci,hcr,js,jq,qJ,qC]) ⟨?_,St B [] [some (4,je jg co),some (2,je jf eo)],k+1,out++[⟨ps,co,⟨tk,gg,eo,gz⟩⟩],cells++[vl vint ps, .slice (lid B.nx 0) 0 code.length, .int .i64 tk, .int .i64 gg, .slice (lid B.nx 1) 0 tt.length,vl vint gz],ids++[lid B.nx 0,lid B.nx 1],hag.St,jaU hwf (by simp [jq,qC]),hotN,hkt,rfl,by rw [htk,hblk,ho],by simp [hol],hown, ?_, ?_,by simp [jE,jZ],(by refine (Jf (l:=[_,_])).trans ?_; simp [jE,jZ])⟩
      ·omega
      ·refine List.nodup_append.2 ⟨hnd,by simp [lid],fun a ha b hb e => ?_⟩;have:=(hids a ha).2;simp only [List.mem_cons,List.not_mem_nil,or_false] at hb;rcases hb with hb | hb<;>(rw [hb,lid] at e; omega)
      ·intro o ho;have hle:=hag.1;rw [jE];rcases List.mem_append.1 ho with ho | ho
       ·have:=hids o ho;simp only [lid,List.length_cons,List.length_nil]; omega
       ·simp only [List.mem_cons,List.not_mem_nil,or_false] at ho;rcases ho with ho | ho<;>(rw [ho]; simp only [lid,List.length_cons,List.length_nil]; omega)
     have hwj:=ji hjt (by omega);have hej:=hto2 _ (List.getElem_mem hjt);have hcj:(tt.take (j+1)).map (Ss.repEdge to)=(tt.take j).map (Ss.repEdge to)++[Ss.repEdge to tt[j]]:=by rw [List.take_add_one,List.getElem?_eq_getElem hjt,List.map_append]; rfl
     obtain ⟨⟨xt,xa⟩,hx2⟩ : ∃ x,tt[j]=x:=⟨_,rfl⟩
     rw [hx2] at hcj hej;simp only at hej;have cxa:=csw xa (by omega);have hfl:(je jf eo).length=j*2:=by rw [zm (s:=2) (fun _=>by rw [qq]; rfl),heol]
     have hb:(j+1)*32≤140737488355328:=by omega
     have hb':j+1≤140737488355328:=by omega
     generalize hga:xa.map (Ss.putv to)=ga at *
     repeat first|refine QG ?_|refine QY ?_ (r:=by conv=>lhs;simp[QV,hjt])
     refine QT ?_;refine QJ (St B [] []) (St B [] [none,none,none,some (6,[])]) [110] ?_ (r:=by conv=>lhs; simp [QV,hjt,hx2]);refine QL (cxa) ?_;refine QZ ?_;refine QI ?_ (r:=by conv=>lhs;simp[QV,rep0]);refine QZ ?_;refine QI ?_ (r:=by conv=>lhs;simp[QV,hb,hb',hfl]);refine QZ ?_;refine QI ?_;refine QW ?_
     repeat first|refine QG ?_|refine QY ?_ (r:=by conv=>lhs;simp[QV,hwj])
     refine qR [0,1,2,3,4,7] (by conv=>lhs; simp [Fr.only]) hwf (by decide) (by simp [gtP,gtT,hci,hcr,js,jq,qJ,qC]) (by conv=>lhs; simp [gtP,gtT,hci,hcr,js,jq,qJ,qC]) (by conv=>lhs; simp [gtP,gtT,hci,hcr,js,jq,qJ,qC]) (by conv=>lhs; simp [gtP,gtT,hci,hcr,js,jq,qJ,qC]) ⟨?_,j+1,eo++[Ss.repEdge to ⟨xt,xa⟩],hjt,rfl,by rw [hcj,heo],by simp [heol],by simp [hwj],by simp [qK,Ss.repEdge,hga]⟩;omega
   have hwj:=ji hjt (by omega);have hcj:(code.take (j+1)).map (Ss.repIns to)=(code.take j).map (Ss.repIns to)++[Ss.repIns to code[j]]:=by rw [List.take_add_one,List.getElem?_eq_getElem hjt,List.map_append]; rfl
   have hsj:=hcode _ (List.getElem_mem hjt);obtain ⟨⟨xo,xn,xa,xu⟩,hx2⟩ : ∃ x,code[j]=x:=⟨_,rfl⟩
   rw [hx2] at hcj hsj;simp only at hsj;have cxa:=csw xa (by omega);have cxu:=Ku xu (by omega);have hfl:(je jg co).length=j*4:=by rw [zm (s:=4) (fun _=>by rw [jJ]; rfl),hcol]
   have hb:(j+1)*64≤140737488355328:=by omega
   have hb':j+1≤140737488355328:=by omega
   generalize hga:xa.map (Ss.putv to)=ga at *
   repeat first|refine QG ?_|refine QY ?_ (r:=by conv=>lhs;simp[QV,hjt,hx2])
   refine QH 10 5 ?_;refine QT ?_;refine QJ (St B [] []) (St B [] [none,none,none,some (6,[])]) [59] ?_ (r:=by conv=>lhs; simp [QV]);refine QL (cxa) ?_;refine QZ ?_;refine QL (cxu) ?_;refine QZ ?_;refine QI ?_ (r:=by conv=>lhs;simp[QV,rep0]);refine QZ ?_;refine QI ?_ (r:=by conv=>lhs;simp[QV,hb,hb',hfl]);refine QZ ?_;refine QI ?_;refine QW ?_
   repeat first|refine QG ?_|refine QY ?_ (r:=by conv=>lhs;simp[QV,hwj])
   refine qR [0,1,2,3,7] (by conv=>lhs; simp [Fr.only]) hwf (by decide) (by simp [gtP,gtT,hci,hcr,js,jq]) (by conv=>lhs; simp [gtP,gtT,hci,hcr,js,jq]) (by conv=>lhs; simp [gtP,gtT,hci,hcr,js,jq]) (by conv=>lhs; simp [gtP,gtT,hci,hcr,js,jq]) ⟨?_,j+1,co++[Ss.repIns to ⟨xo,xn,xa,xu⟩],hjt,rfl,by rw [hcj,hco],by simp [hcol],by simp [hwj],by simp [qK,Ss.repIns,hga]⟩;omega
theorem RCopyE_v (S:Store) (f:Ss.Fn) (hf:f.Fits) (hs:f.small=true):VCalls Tryz.prog 18 [ql f] S (YP S f):=by
 have cr : ∀ S,VCalls Tryz.prog 57 [ql f, .nils] S (YP S f):=fun S=>by
  have h:=RReplaceE_v S f [] hf hs (by simp);rw [Ss.replace_nil] at h;exact qI (GhostArgs.one [ql f] [] (Ghost.nils_list S)) h
 obtain ⟨⟨fi,fo⟩,ts,bs⟩:=f;have cr' : ∀ S,VCalls Tryz.prog 57 [.agg [vl vint fi,vl vint fo,vl vint ts,vl jb bs], .nils] S (YP S ⟨⟨fi,fo⟩,ts,bs⟩):=cr
 refine qd (c:=jd Tryz.f18) Tryz.func18 rfl (by conv=>lhs; reduce) (by simp [Tryz.ntmps18]) ?_;rw [Tryz.ntmps18];intro hwf
 repeat first|refine QG ?_|refine QY ?_
 refine QH 1 0 ?_;refine QT ?_;refine QP ?_;refine jT rfl (cr' _) ?_;rintro X T ⟨hag,hwT,ot,ob,cells,ids,rfl,hot,hob,how,hnd,hids⟩;have hc:T.get (lid S.nx 1)=some (4,[.nils, .nils, .nils, .nils]):=by
  rw [hag.2 _ (by rw [jE]; simp [lid]),jv]; rfl
 have hcn:=jy hwT hc;have oc:=fun u l => @jk T u l _ hcn
 have uo:=fun u l c => @zp T u l c _ hcn
 refine Wy hwT ?_;refine QM (by conv=>lhs;simp[QV,hc,oc,uo]) ?_;refine QN ?_
 repeat first|refine QG ?_|refine QY ?_
 refine Zp (xs:=[.agg [vl vint fi,vl vint fo, .slice ot 0 ts.length, .slice ob 0 bs.length]]) (by simp [oc]) ?_;rw [jbl,YO hwT hcn];have hne : ∀ o∈ot::ob::ids,o≠lid S.nx 1:=fun o ho e=>by
  have:=(hids o ho).1;rw [e,jE] at this;simp [lid] at this
 have hag0:Agree S T:=⟨Nat.le_trans (by rw [jE,lid]; omega) hag.1,fun o ho=>(hag.2 o (by rw [jE,lid]; omega)).trans (by rw [jk ho]; rfl)⟩
 refine qZ ⟨⟨hag0.1,fun o ho => ?_⟩,jbk hwT hcn (by simp [(hids ob (by simp)).2,(hids ot (by simp)).2]),ot,ob,cells,ids,rfl, ?_, ?_, ?_,hnd,fun o ho=>⟨?_,(hids o ho).2⟩⟩
 ·rw [ju (by rw [lid]; omega)]; exact hag0.2 o ho
 ·rw [ju (hne ot (by simp))]; exact hot
 ·rw [ju (hne ob (by simp))]; exact hob
 ·exact how.mono fun o ho=>ju (hne o (by simp [ho]))
 ·have:=(hids o ho).1;rw [jE,lid] at this;omega
end Go.Vw
namespace Ss
abbrev on (need:List Bool) (v:Int):Bool:=need.getD v.toNat false
def dfs (asks:List (List Int)):Nat→List Bool→List Int→List Bool
 | 0,need,_=>need
 | _+1,need,[]=>need
 | n+1,need,v::r=>if on need v then dfs asks (n+1) need r else dfs asks (n+1) (dfs asks n (need.set v.toNat true) (asks.getD v.toNat [])) r
termination_by n _ l=>(n,l.length)
def off (need:List Bool):Nat:=need.countP fun b => !b
structure Marks (asks:List (List Int)) (need:List Bool) (l:List Int) (R:List Bool):Prop where
 len:R.length=need.length
 mono : ∀ i:Nat,need[i]? = some true→R[i]? = some true
 all : ∀ v∈l,on R v=true
 shut : ∀ i:Nat,R[i]? = some true→need[i]? = some true ∨ ∀ u∈asks.getD i [],on R u=true
 least : ∀ P:Nat→Prop,(∀ i:Nat,need[i]? = some true→P i)→(∀ v∈l,P v.toNat)→(∀ i:Nat,P i → ∀ u∈asks.getD i [],P u.toNat) → ∀ i:Nat,R[i]? = some true→P i
def cutB (b:Block) (k:Nat):Block:=⟨b.params,b.code.take k++b.code.drop (k+1),b.term⟩
def cut (f:Fn) (i k:Nat):Fn:=⟨f.sig,f.types,f.blocks.set i (cutB (f.blocks.getD i default) k)⟩
end Ss
namespace Go.Vw
open Go.Proofs Go.RowKit
theorem blk_split {T:Store} {bs:List Ss.Block} {cells:List V} {ids:List Nat} {n i:Nat} (h:OwL T (reps n blkT) cells (je jb bs) ids) (hn:bs.length=n) (hi:i<n) {b:Ss.Block} (hb:bs[i]? = some b) :
  ∃ (c1 c2:List V) (oc:Nat) (i1 i2:List Nat),cells=c1++([vl vint b.params, .slice oc 0 b.code.length,vint b.term.kind,vint b.term.arg,vl jf b.term.to,vl vint b.term.args]++c2)∧c1.length=i*6∧ids=i1++oc::i2∧T.get oc=some (4,je jg b.code) ∧
   OwL T (reps i blkT) c1 (je jb (bs.take i)) i1∧OwL T (reps (n-i-1) blkT) c2 (je jb (bs.drop (i+1))) i2:=by
 have e1:reps n blkT=reps i blkT++(blkT++reps (n-i-1) blkT):=by
  rw [←zI, ←jch]; congr 1; omega
 have e2:je jb bs=je jb (bs.take i)++((jb b).cells++je jb (bs.drop (i+1))):=by
  have hlt:i<bs.length:=by omega
  have:bs=bs.take i++b::bs.drop (i+1):=by
   have hbi:bs[i]=b:=by rw [List.getElem?_eq_getElem hlt] at hb; exact Option.some.inj hb
   rw [←hbi,List.getElem_cons_drop,List.take_append_drop]
  conv=>lhs; rw [this]
  simp [je]
 rw [e1,e2] at h;obtain ⟨r1,r2,x1,x2,i1,i2,rfl,hx,rfl,k1,k2⟩:=h.split;have hl1:(je jb (bs.take i)).length=x1.length:=by
  rw [zm (s:=6) (fun _=>by rw [jz]; rfl),k1.len.2,qL,List.length_take];show min i bs.length*6=i*6;rw [Nat.min_eq_left (by omega)]
 obtain ⟨rfl,rfl⟩:=List.append_inj hx hl1;obtain ⟨r3,r4,x3,x4,i3,i4,rfl,hx2,rfl,k3,k4⟩:=k2.split;have hl2:(jb b).cells.length=x3.length:=by rw [jz,k3.len.2]; rfl
 obtain ⟨rfl,rfl⟩:=List.append_inj hx2 hl2;rw [jz] at k3
 cases k3 with
 | c hp k3 =>
  generalize hL:vl jg b.code=L at k3
  cases k3 with
  | @s _ _ _ _ cells' ys ii jj oc ho hs d t =>
  have hy:ys=b.code.map jg:=by
   have:V.list (b.code.map jg)=V.list ys:=hL;exact (V.list.inj this).symm
  subst hy
  cases t with
  | c _ t=>cases t with
   | c _ t=>cases t with
    | c _ t=>cases t with
     | c _ t=>cases t with
      | nil =>
       have hd:cells'=je jg b.code∧ii=[]:=by
        rw [List.length_map,qN,KW] at d;exact zf d
       obtain ⟨rfl,rfl⟩:=hd;refine ⟨r1,r4,oc,i1,i4, ?_, ?_, ?_, ?_,k1,k4⟩
       ·simp
       ·rw [k1.len.1,qL]; rfl
       ·simp
       ·rw [ho]; rfl
theorem blk_join {T:Store} {bs:List Ss.Block} {c1 c2:List V} {i1 i2:List Nat} {n i oc:Nat} {b:Ss.Block} (h1:OwL T (reps i blkT) c1 (je jb (bs.take i)) i1) (h2:OwL T (reps (n-i-1) blkT) c2 (je jb (bs.drop (i+1))) i2) (hn:bs.length=n) (hi:i<n) (ho:T.get oc=some (4,je jg b.code)) :
  OwL T (reps n blkT) (c1++([vl vint b.params, .slice oc 0 b.code.length,vint b.term.kind,vint b.term.arg,vl jf b.term.to,vl vint b.term.args]++c2)) (je jb (bs.set i b)) (i1++oc::i2):=by
 have e1:reps n blkT=reps i blkT++(blkT++reps (n-i-1) blkT):=by
  rw [←zI, ←jch]; congr 1; omega
 have e2:je jb (bs.set i b)=je jb (bs.take i)++((jb b).cells++je jb (bs.drop (i+1))):=by
  rw [List.set_eq_take_append_cons_drop,if_pos (by omega)];simp [je]
 rw [e1,e2,jz];refine h1.append (OwL.append (i:=[oc]) ?_ h2);exact .c rfl (OwL.slice (fun _=>by rw [jJ]; rfl) qo b.code ho (.c rfl (.c rfl (.c rfl (.c rfl .nil)))))
end Go.Vw
namespace Ss
def mark1 (o:List Bool) (v:Int):List Bool:=if 0≤v∧v<o.length then o.set v.toNat true else o
def mark (o:List Bool) (l:List Int):List Bool:=l.foldl mark1 o
def usedB (o:List Bool) (b:Block):List Bool :=
 b.term.to.foldl (fun o t=>mark o t.args) (if branches b.term then mark (mark (b.code.foldl (fun o x=>mark o x.args) o) b.term.args) [b.term.arg] else mark (b.code.foldl (fun o x=>mark o x.args) o) b.term.args)
def usedOf (f:Fn):List Bool:=f.blocks.foldl usedB (List.replicate f.types.length false)
end Ss
namespace Go.Vw
open Go.Proofs Go.RowKit
end Go.Vw
namespace Ss
def asksT (t:Term):List Int:=(if t.kind=2∨t.kind=3 then [t.arg] else [])++t.to.flatMap (fun x=>x.args)++t.args
def asksB (b:Block):List Int:=asksT b.term++b.code.flatMap (fun x=>x.args)
def rusedOf (f:Fn):List Bool:=f.blocks.foldl (fun o b=>mark o (asksB b)) (List.replicate f.types.length false)
end Ss
namespace Go.Vw
open Go.Proofs Go.RowKit
theorem qu (l:List Int):je vint l=l.map vint:=by
 induction l with
 | nil=>rfl
 | cons x l ih =>
  simp only [je,List.flatMap_cons,List.map_cons] at ih ⊢;rw [ih]; rfl
theorem renL_repb (f:Nat→Nat) (n:Nat) (b:Bool):V.renL f (List.replicate n (V.bool b))=List.replicate n (V.bool b):=by rw [rep_bool,jac]
theorem idsL_repb (p:Nat→Bool) (n:Nat) (b:Bool):V.idsL p (List.replicate n (V.bool b))=true:=by rw [rep_bool,jaB]
end Go.Vw
namespace Go.Vw
open Go.Proofs Go.RowKit
attribute [-simp] List.map_set
theorem Check_v (e:Ss.Env) (f:Ss.Fn) (he:e.Fits) (hf:f.Fits):VPure Tryz.prog 23 [zk e,ql f] (.bool (Ss.check e f)):=by
 intro S;have cer:=EnvRight_v e he;have csm:=jbV f hf;have hsb := @jX f;have ckt:VPure Tryz.prog 65 [.int .i64 2048,vl vint f.types] (.bool (Ss.kinds 2048 f.types)):=jcr 2048 f.types (by have:=hf.2.1.1; omega);have csr:=jbn f.sig hf.1;have cpa:=AnyB_v f.blocks (fun b=>decide (256<b.params.length)) 68 [] rfl (by have:=hf.2.2.1; omega) (fun b _=>check1_v b);have hpa:(f.blocks.all fun b=>decide (b.params.length≤256)) = !(f.blocks.any fun b=>decide (256<b.params.length)):=by
  rw [List.not_any_eq_all_not]; congr 1; funext b; by_cases h:b.params.length≤256<;>simp [h]<;>omega
 have hH:Ss.checkHead e f=(e.right&&f.small&&decide (f.blocks.length≤256)&&Ss.kinds 2048 f.types&&f.sig.right && !(f.blocks.any fun b=>decide (256<b.params.length))):=by rw [←hpa]; rfl
 have hX:Ss.check e f=(Ss.checkHead e f&&match Ss.defsOf f with
  | none=>false
  | some ds=>Ss.shapeOk f&&Ss.checkBlocks e f ds (G.nearI (Ss.succs f.blocks)) 0 f.blocks):=rfl
 have hks:Ss.kinds 2048 f.types=true→f.types.length≤2048:=by
  intro h; simp only [Ss.kinds,Bool.and_eq_true,decide_eq_true_eq] at h; exact h.1
 have her:e.right=true→e.muts.length=e.globals.length:=by
  intro h; simp only [Ss.Env.right,Bool.and_eq_true,decide_eq_true_eq] at h; exact h.1.1.2
 rw [hX,hH];generalize (f.blocks.any fun b=>decide (256<b.params.length))=pa at *
 generalize e.right=er at *
 generalize hsm:f.small=sm at *
 generalize Ss.kinds 2048 f.types=kt at *
 generalize f.sig.right=sr at *
 have hsl:=he.1.1;have hgl:=he.2.2.1.1;obtain ⟨sg,im,gl,mu,me⟩:=e;obtain ⟨⟨fi,fo⟩,ts,bs⟩:=f;simp only at *
 have cer':VPure Tryz.prog 63 [.agg [vl jC sg, .int .i64 im,vl vint gl,vl V.bool mu, .bool me]] (.bool er):=cer;have csm':VPure Tryz.prog 64 [.agg [vl vint fi,vl vint fo,vl vint ts,vl jb bs]] (.bool sm):=csm;have csr':VPure Tryz.prog 66 [.agg [vl vint fi,vl vint fo]] (.bool sr):=csr;generalize hZ:(match Ss.defsOf ⟨⟨fi,fo⟩,ts,bs⟩ with
  | none=>false
  | some ds=>Ss.shapeOk ⟨⟨fi,fo⟩,ts,bs⟩&&Ss.checkBlocks ⟨sg,im,gl,mu,me⟩ ⟨⟨fi,fo⟩,ts,bs⟩ ds (G.nearI (Ss.succs bs)) 0 bs)=Z
 refine QB (c:=jd Tryz.f23) Tryz.func23 Tryz.ntmps23 fun hwf=>?_
 repeat first|refine QG ?_|refine QY ?_
 refine QT ?_;refine QP ?_;refine QL (cer') ?_
 by_cases h1:er=true
 case neg =>
  have h1':er=false:=by simpa using h1
  refine QM (by conv=>lhs;simp[QV,h1']) ?_;refine QN ?_
  repeat first|refine QG ?_|refine QY ?_
  exact ja hwf (by simp [h1']) rfl
 refine QM (by conv=>lhs;simp[QV,h1]) ?_;refine QL (csm') ?_
 by_cases h2:sm=true
 case neg =>
  have h2':sm=false:=by simpa using h2
  refine QM (by conv=>lhs;simp[QV,h2']) ?_;refine QN ?_
  repeat first|refine QG ?_|refine QY ?_
  exact ja hwf (by simp [h2']) rfl
 by_cases h3:(256:Int)<(bs.length:Int)
 ·refine QM (by conv=>lhs;simp[QV,h2,h3]) ?_;refine QN ?_
  repeat first|refine QG ?_|refine QY ?_
  exact ja hwf (by rw [show decide (bs.length≤256)=false by simp; omega]; simp) rfl
 have h3':bs.length≤256:=by omega
 refine QM (by conv=>lhs;simp[QV,h2,h3]) ?_;refine QL (ckt) ?_
 by_cases h4:kt=true
 case neg =>
  have h4':kt=false:=by simpa using h4
  refine QM (by conv=>lhs;simp[QV,h4']) ?_;refine QN ?_
  repeat first|refine QG ?_|refine QY ?_
  exact ja hwf (by simp [h4']) rfl
 refine QM (by conv=>lhs;simp[QV,h4]) ?_;refine QL (csr') ?_
 by_cases h5:sr=true
 case neg =>
  have h5':sr=false:=by simpa using h5
  refine QM (by conv=>lhs;simp[QV,h5']) ?_;refine QN ?_
  repeat first|refine QG ?_|refine QY ?_
  exact ja hwf (by simp [h5']) rfl
 rw [h1,h2,h4,h5,decide_eq_true h3'];simp only [Bool.true_and];have htl:=hks h4;obtain ⟨_,_,hsf,_⟩:=hsb h2;refine QM (by conv=>lhs;simp[QV,h5]) ?_;refine QN ?_
 repeat first|refine QG ?_|refine QY ?_
 refine QT ?_;refine QP ?_;refine QL (cpa) ?_
 by_cases h6:pa=true
 ·refine QM (by conv=>lhs;simp[QV,h6]) ?_;refine QN ?_
  repeat first|refine QG ?_|refine QY ?_
  exact ja hwf (by simp [h6]) rfl
 have h6':pa=false:=by simpa using h6
 rw [h6'];simp only [Bool.not_false,Bool.true_and];refine QM (by conv=>lhs;simp[QV,h6']) ?_;refine jT rfl (define_v _ ⟨sg,im,gl,mu,me⟩ ⟨⟨fi,fo⟩,ts,bs⟩ (lid S.nx 2) hf (by simp only; omega) (by simp)) ?_;rintro X S' ⟨ds,hdl,rfl,hdd,rfl⟩;rw [St_St (by rw [jE]; simp [lid]),JP (by simp),Yf,jE,lid_lid];simp only [List.set_cons_succ,List.set_cons_zero,List.cons_append,List.nil_append,List.length_cons,List.length_nil,Nat.zero_add,Nat.add_zero]
 cases hdf:Ss.defsOf ⟨⟨fi,fo⟩,ts,bs⟩ with
 | none =>
  rw [hdf] at hZ;simp only at hZ;obtain ⟨z,hz⟩ : ∃ z,(none:Option (List Ss.Def)).isSome=z:=⟨_,rfl⟩
  have hz':z=false:=by rw [←hz]; rfl
  rw [hz];refine QM (by conv=>lhs;simp[QV,hz']) ?_;refine QN ?_
  repeat first|refine QG ?_|refine QY ?_
  exact ja hwf (by simp [←hZ]) rfl
 | some ds2 =>
  obtain rfl:=hdd _ hdf;rw [hdf] at hZ;simp only at hZ;obtain ⟨hdl2,hdin⟩:=Ss.defs_in hdf;simp only at hdin;obtain ⟨z,hz⟩ : ∃ z,(some ds:Option (List Ss.Def)).isSome=z:=⟨_,rfl⟩
  have hz':z=true:=by rw [←hz]; rfl
  rw [hz];refine QM (by conv=>lhs;simp[QV,hz']) ?_;refine jT rfl (shape_v _ ⟨sg,im,gl,mu,me⟩ ⟨⟨fi,fo⟩,ts,bs⟩ (lid S.nx 2) (lid S.nx 3) hf (hsm.trans h2) (by simp [hdl]) (by simp [lid]) (fun b hb=>(hdin b hb).1)) ?_;rintro X S' ⟨nv,hnv,rfl,hnvv,rfl⟩;rw [JP (by simp)];simp only [List.set_cons_succ,List.set_cons_zero];generalize hso:Ss.shapeOk ⟨⟨fi,fo⟩,ts,bs⟩=so at *
  by_cases h7:so=true
  case neg =>
   have h7':so=false:=by simpa using h7
   refine QM (by conv=>lhs;simp[QV,h7']) ?_;refine QN ?_
   repeat first|refine QG ?_|refine QY ?_
   exact ja hwf (by simp [←hZ,h7']) rfl
  have hnv2:=hnvv h7;subst hnv2;rw [h7,Bool.true_and] at hZ;have hright:G.right (Ss.succs bs)=true:=by
   have:=hso.trans h7;simp only [Ss.shapeOk,Bool.and_eq_true] at this;exact this.1.1.1.1
  have hto:=Ss.right_to (f:=⟨⟨fi,fo⟩,ts,bs⟩) hright;simp only at hto;have hnl:=G.nearI_len (Ss.succs bs);generalize hnr:G.nearI (Ss.succs bs)=near at *
  refine QM (by conv=>lhs;simp[QV,h7]) ?_;refine QN ?_
  apply jo
  ·exact Reach.frzCellS (enc:=qV) (s:=3) (fun _=>rfl) zL (k:=2) (j:=3) (i:=9) ds (by decide) (by simp) (by simp) (by rfl) (by rw [hdl]; rfl) (by rfl)
  simp only [List.set_cons_succ,List.set_cons_zero];refine QH 5 2 ?_
  repeat first|refine QG ?_|refine QY ?_
  refine QO [5,54,55,56] ?_;refine QK [] ?_;have ci : ∀ (i k:Nat) (b:Ss.Block) (x:Ss.Ins),b∈bs→x∈b.code→VPure Tryz.prog 71 [ckV ⟨sg,im,gl,mu,me⟩ ⟨⟨fi,fo⟩,ts,bs⟩ ds near,vnat i,vnat k,jg x] (.bool (Ss.insOk ⟨sg,im,gl,mu,me⟩ ⟨⟨fi,fo⟩,ts,bs⟩ ds near i k x)):=by
   intro i k b x hb hx;have hbF:=hf.2.2.2 b hb;have hxF:=hbF.2.1.2 x hx;have hsmb:=((Ss.small_iff _).1 (hsm.trans h2)).2.1 b hb;simp only [Ss.Block.small,Bool.and_eq_true,List.all_eq_true,Ss.Ins.small,decide_eq_true_eq] at hsmb;have hxl:=(hsmb.1.2 x hx).2;exact ins_v ⟨sg,im,gl,mu,me⟩ ⟨⟨fi,fo⟩,ts,bs⟩ ds near i k x hsl hgl (her h1) hdl (by simp only; omega) (by omega) hxF (by omega) ((hdin b hb).2 x hx)
  have ctm : ∀ (i:Nat) (b:Ss.Block),b∈bs→VPure Tryz.prog 72 [ckV ⟨sg,im,gl,mu,me⟩ ⟨⟨fi,fo⟩,ts,bs⟩ ds near,vnat i,jb b] (.bool (Ss.termOk ⟨⟨fi,fo⟩,ts,bs⟩ ds near i b)):=fun i b hb =>
   term_v ⟨sg,im,gl,mu,me⟩ ⟨⟨fi,fo⟩,ts,bs⟩ ds near i b hdl (by simp only; omega) (by omega) (by simp only; omega) (by have:=hf.1.2.1; simp only at this ⊢; omega) (hf.2.2.2 b hb) (hto b hb) (fun b hb=>⟨by have:=(hsf b hb).1; omega,(hdin b hb).1⟩)
  refine QT ?_;refine jc [5,54,55,56] rfl (fun c σ S' => ∃ (k:Nat),k≤bs.length∧c=bs.length-k∧Ss.checkBlocks ⟨sg,im,gl,mu,me⟩ ⟨⟨fi,fo⟩,ts,bs⟩ ds near k (bs.drop k)=Z∧σ=[(5,ckV ⟨sg,im,gl,mu,me⟩ ⟨⟨fi,fo⟩,ts,bs⟩ ds near),(54,vl jb bs),(55,vnat bs.length),(56,vnat k)]∧S'=St S [] []) bs.length ?_ ?_
  ·exact ⟨0,by omega,rfl,hZ,by simp [Fr.only],rfl⟩
  ·rintro c σ T ⟨k,hk,rfl,hcb,rfl,rfl⟩
   by_cases hkt:k<bs.length
   ·have hw:=ji hkt (by omega);have hst:=jaO (e:=⟨sg,im,gl,mu,me⟩) (f:=⟨⟨fi,fo⟩,ts,bs⟩) (ds:=ds) (near:=near) hkt;have hmem:=List.getElem_mem hkt;have hcl:=(hsf _ hmem).2.2.2;have cti:=ctm k _ hmem;have cii:=fun j x=>ci k j _ x hmem
    obtain ⟨⟨ps,code,⟨tk,ta,to,az⟩⟩,hx⟩ : ∃ b,bs[k]=b:=⟨_,rfl⟩
    rw [hx] at hst hcl cti cii;simp only at hst hcl cii;rw [hst] at hcb;generalize Ss.termOk ⟨⟨fi,fo⟩,ts,bs⟩ ds near k ⟨ps,code,⟨tk,ta,to,az⟩⟩=tm at *
    repeat first|refine QG ?_|refine QY ?_ (r:=by conv=>lhs;simp[QV,hkt,hx])
    refine QT ?_;refine jc [5,6,7,54,55,56,62,63,64] rfl (fun c σ S' => ∃ (j:Nat),j≤code.length∧c=code.length-j∧Ss.checkCode ⟨sg,im,gl,mu,me⟩ ⟨⟨fi,fo⟩,ts,bs⟩ ds near k j (code.drop j)=Ss.checkCode ⟨sg,im,gl,mu,me⟩ ⟨⟨fi,fo⟩,ts,bs⟩ ds near k 0 code∧σ=[(5,ckV ⟨sg,im,gl,mu,me⟩ ⟨⟨fi,fo⟩,ts,bs⟩ ds near),(6,vnat k),(7, .ptr (lid S.nx 0) 0),(54,vl jb bs),(55,vnat bs.length),(56,vnat k),(62,vl jg code),(63,vnat code.length),(64,vnat j)]∧S'=St S [] [some (6,[vl vint ps,vl jg code, .int .i64 tk, .int .i64 ta,vl jf to,vl vint az])]) code.length ?_ ?_
    ·exact ⟨0,by omega,rfl,rfl,by simp [Fr.only],rfl⟩
    ·rintro c σ T ⟨j,hj,rfl,hcc,rfl,rfl⟩
     by_cases hjt:j<code.length
     ·have hwj:=ji hjt (by omega);have hsc:=jcA (e:=⟨sg,im,gl,mu,me⟩) (f:=⟨⟨fi,fo⟩,ts,bs⟩) (ds:=ds) (near:=near) (i:=k) hjt;have cij:=cii j _ (List.getElem_mem hjt);obtain ⟨⟨xo,xn,xa,xu⟩,hx2⟩ : ∃ x,code[j]=x:=⟨_,rfl⟩
      rw [hx2] at hsc cij;generalize Ss.insOk ⟨sg,im,gl,mu,me⟩ ⟨⟨fi,fo⟩,ts,bs⟩ ds near k j ⟨xo,xn,xa,xu⟩=io at *
      have cij':VPure Tryz.prog 71 [ckV ⟨sg,im,gl,mu,me⟩ ⟨⟨fi,fo⟩,ts,bs⟩ ds near,vnat k,vnat j, .agg [.int .i64 xo, .int .u64 xn,vl vint xa,vl vint xu]] (.bool io):=cij
      repeat first|refine QG ?_|refine QY ?_ (r:=by conv=>lhs;simp[QV,hjt,hx2])
      refine QT ?_;refine QP ?_ (r:=by conv=>lhs;simp[QV,hjt,hx2]);refine QL (cij') ?_
      by_cases hio:io=true
      ·refine QM (by conv=>lhs;simp[QV,hio]) ?_;refine QN ?_
       repeat first|refine QG ?_|refine QY ?_
       refine QA [0] (h:=⟨?_,j+1,hjt,rfl,by rw [←hcc,hsc,hio,Bool.true_and],by simp [hwj],rfl⟩);omega
      ·have hio':io=false:=by simpa using hio
       refine QM (by conv=>lhs;simp[QV,hio']) ?_;refine QN ?_
       repeat first|refine QG ?_|refine QY ?_
       exact ja hwf (by rw [←hcb, ←hcc,hsc,hio']; simp) rfl
     ·have e1:code.drop j=[]:=by rw [List.drop_eq_nil_iff]; omega
      rw [e1,Ss.checkCode] at hcc;rw [←hcc,Bool.true_and] at hcb;have cti':VPure Tryz.prog 72 [ckV ⟨sg,im,gl,mu,me⟩ ⟨⟨fi,fo⟩,ts,bs⟩ ds near,vnat k, .agg [vl vint ps,vl jg code, .int .i64 tk, .int .i64 ta,vl jf to,vl vint az]] (.bool tm):=cti
      repeat first|refine QG ?_|refine QY ?_ (r:=by conv=>lhs;simp[QV,hjt])
      refine QT ?_;refine QP ?_ (r:=by conv=>lhs;simp[QV,hjt]);refine QL (cti') ?_
      by_cases htm:tm=true
      ·refine QM (by conv=>lhs;simp[QV,htm]) ?_;refine QN ?_
       repeat first|refine QG ?_|refine QY ?_
       refine QA [] (h:=⟨?_,k+1,hkt,rfl,by rw [←hcb,htm,Bool.true_and],by simp [hw],rfl⟩);omega
      ·have htm':tm=false:=by simpa using htm
       refine QM (by conv=>lhs;simp[QV,htm']) ?_;refine QN ?_
       repeat first|refine QG ?_|refine QY ?_
       exact ja hwf (by rw [←hcb,htm']; simp) rfl
   ·have e1:bs.drop k=[]:=by rw [List.drop_eq_nil_iff]; omega
    rw [e1,Ss.checkBlocks] at hcb
    repeat first|refine QG ?_|refine QY ?_ (r:=by conv=>lhs;simp[QV,hkt])
    exact ja hwf (by simp [←hcb]) rfl
end Go.Vw
namespace Go.Vw
open Go.Proofs Go.RowKit
def sameFn (f g:Ss.Fn):Bool:=f.small&&g.small&&decide (f=g)
end Go.Vw
namespace Ss
def smallF:Fn:=⟨⟨[],[127]⟩,[127],[⟨[],[⟨258,0,[],[]⟩,⟨256,5,[],[0]⟩],⟨4,0,[],[0]⟩⟩]⟩
def env0:Env:=⟨[],0,[],[],false⟩
end Ss
namespace Go.Vw
open Go.Proofs Go.RowKit
theorem Reach.nilCell {N b0:Nat} {σ:Fr} {B:Store} {u:Upds} {l:List (Option (Nat × List V))} {k i s:Nat} {cs:List V} (hk:k<l.length) (hck:(l[k]?).join=some (s,cs)) (hi:cs[i]? = some .nils) :
  Reach N b0 σ (St B u l) σ (St B u (l.set k (some (s,cs.set i (.list []))))):=by
 have:=Reach.cell (N:=N) (b0:=b0) (σ:=σ) (o:=lid B.nx k) (i:=i) (s:=s) (cs:=cs) (Ghost.nils_list (St B u l)) (by simp [V.one]) (by rw [jv]; exact hck) hi (by rw [jv]; exact hck);rw [JP hk] at this;exact this
def NL (x y:V):Prop:=x=y∨(x = .nils∧y = .list [])
theorem Rep.nl {m:Imm} {β:Objs} {x y:V} {v:Value} (h:Rep m β x v) (hn:NL x y):Rep m β y v:=by
 rcases hn with rfl | ⟨rfl,rfl⟩
 ·exact h
 ·cases h with
  | imm h=>cases h with | nils a=>exact .imm (.list0 a 0 (Nat.zero_le _))
theorem Ghost.agg_nl {S:Store} {xs ys:List V} (hl:xs.length=ys.length) (h : ∀ (i:Nat) (x y:V),xs[i]? = some x→ys[i]? = some y→NL x y):Ghost (.agg xs) S (.agg ys) S:=by
 intro m β w v hS hr;obtain ⟨vs,rfl,hl2,hrr,h1⟩:=hr.inv_agg;refine ⟨m,β,hS,Ext.refl _ _ _, .agg ys vs (by omega) (fun i y u hy hu => ?_) h1⟩;have hi:i<xs.length:=by rw [hl]; exact (List.getElem?_eq_some_iff.1 hy).1
 exact (hrr i xs[i] u (List.getElem?_eq_getElem hi) hu).nl (h i _ y (List.getElem?_eq_getElem hi) hy)
end Go.Vw
namespace Ss
def askedO (u:List Bool) (l:List Int):Bool:=l.any fun o=>decide (0≤o)&&(decide (o<u.length)&&u.getD o.toNat false)
end Ss
namespace Go.Vw
open Go.Proofs Go.RowKit
end Go.Vw
namespace Ss
/-! ### Where values are made -/
def zS (l:List Ins):List Int:=l.flatMap fun x=>x.outs
def allB (b:Block):List Int:=b.params++zS b.code
def allL (bs:List Block):List Int:=bs.flatMap allB
abbrev dAt (ds:List Def) (v:Int):Def:=ds.getD v.toNat default
theorem jcy {ds:List Def} {v w:Int} {d:Def} (h0:0≤v) (h1:v<ds.length) (hw:0≤w):dAt (ds.set v.toNat d) w=if w=v then d else dAt ds w:=by
 by_cases h:w=v
 ·subst h;rw [if_pos rfl];simp only [dAt,List.getD_eq_getElem?_getD];rw [List.getElem?_set_self (by omega)]; rfl
 ·rw [if_neg h];simp only [dAt,List.getD_eq_getElem?_getD];rw [List.getElem?_set_ne (by omega)]
structure Puts (l:List Int) (ds d:List Def):Prop where
 nd:l.Nodup
 pos : ∀ v∈l,0≤v
 new : ∀ v∈l,(dAt ds v).made=false
 keep : ∀ w,0≤w→w∉l→dAt d w=dAt ds w
 made : ∀ v∈l,(dAt d v).made=true
theorem Puts.trans {l m:List Int} {ds d d':List Def} (h:Puts l ds d) (k:Puts m d d'):Puts (l++m) ds d':=by
 have hdis : ∀ v∈l,v∉m:=fun v hv hm=>by
  have h1:=k.new v hm;rw [h.made v hv] at h1; cases h1
 refine ⟨List.nodup_append.2 ⟨h.nd,k.nd,fun a ha b hb e=>hdis a ha (e▸hb)⟩,fun v hv => ?_,fun v hv => ?_,fun w h0 hw => ?_,fun v hv => ?_⟩
 ·rcases List.mem_append.1 hv with hv | hv
  ·exact h.pos v hv
  ·exact k.pos v hv
 ·rcases List.mem_append.1 hv with hv | hv
  ·exact h.new v hv
  ·by_cases hl:v∈l
   ·exact absurd hv (hdis v hl)
   ·rw [←h.keep v (k.pos v hv) hl]; exact k.new v hv
 ·simp only [List.mem_append,not_or] at hw;rw [k.keep w h0 hw.2,h.keep w h0 hw.1]
 ·rcases List.mem_append.1 hv with hv | hv
  ·rw [k.keep v (h.pos v hv) (hdis v hv)]; exact h.made v hv
  ·exact k.made v hv
theorem Puts.nil (ds:List Def):Puts [] ds ds:=⟨List.nodup_nil,by simp,by simp,fun _ _ _=>rfl,by simp⟩
theorem KN {block pos:Int} : ∀ {l:List Int} {ds d:List Def},put block pos ds l=some d→Puts l ds d ∧ ∀ v∈l,dAt d v=⟨true,block,pos⟩
 | [],ds,d,h=>by simp only [put,Option.some.injEq] at h; subst h; exact ⟨.nil _,by simp⟩
 | v::l,ds,d,h=>by
  simp only [put] at h;split at h
  ·cases h
  ·rename_i hn;have h0:0≤v:=by omega
   have h1:v<ds.length:=by omega
   have h2:(dAt ds v).made=false:=by
    cases hm:(dAt ds v).made with
    | false=>rfl
    | true=>exact absurd (.inr (.inr hm)) hn
   obtain ⟨k1,k2⟩:=KN h;have hp:Puts [v] ds (ds.set v.toNat ⟨true,block,pos⟩) :=
    ⟨by simp,by simpa using h0,by simpa using h2,fun w hw hnw=>by rw [jcy h0 h1 hw,if_neg (by simpa using hnw)],fun w hw=>by
     obtain rfl:w=v:=by simpa using hw
     rw [jcy h0 h1 h0,if_pos rfl]⟩
   refine ⟨hp.trans k1,fun w hw => ?_⟩
   by_cases hl:w∈l
   ·exact k2 w hl
   ·obtain rfl:w=v:=by simpa [hl] using hw
    rw [k1.keep w h0 hl,jcy h0 h1 h0,if_pos rfl]
theorem JB {i:Int} : ∀ {l:List Ins} {k:Nat} {ds d:List Def},putCode i k ds l=some d→Puts (zS l) ds d ∧ ∀ (j:Nat) (x:Ins),l[j]? = some x → ∀ v∈x.outs,dAt d v=⟨true,i,((k+j:Nat):Int)⟩
 | [],k,ds,d,h=>by simp only [putCode,Option.some.injEq] at h; subst h; exact ⟨.nil _,by simp⟩
 | x::l,k,ds,d,h=>by
  simp only [putCode] at h;obtain ⟨d1,h1,h2⟩:=Option.bind_eq_some_iff.1 h;obtain ⟨p1,q1⟩:=KN h1;obtain ⟨p2,q2⟩:=JB h2;refine ⟨p1.trans p2,fun j y hj v hv => ?_⟩
  cases j with
  | zero =>
   simp only [List.getElem?_cons_zero,Option.some.injEq] at hj;subst hj;have hn:v∉zS l:=fun hm=>by
    have:=p2.new v hm;rw [p1.made v hv] at this; cases this
   rw [p2.keep v (p1.pos v hv) hn,q1 v hv]; rfl
  | succ j =>
   have:=q2 j y (by simpa using hj) v hv;rw [this]; congr 2; omega
theorem JF : ∀ {l:List Block} {i:Nat} {ds d:List Def},putBlocks i ds l=some d→Puts (allL l) ds d ∧ ∀ (j:Nat) (b:Block),l[j]? = some b → ∀ (k:Nat) (x:Ins),b.code[k]? = some x → ∀ v∈x.outs,dAt d v=⟨true,((i+j:Nat):Int),(k:Int)⟩
 | [],i,ds,d,h=>by simp only [putBlocks,Option.some.injEq] at h; subst h; exact ⟨.nil _,by simp⟩
 | b::l,i,ds,d,h=>by
  simp only [putBlocks] at h;obtain ⟨d2,h1,h2⟩:=Option.bind_eq_some_iff.1 h;obtain ⟨d1,h3,h4⟩:=Option.bind_eq_some_iff.1 h1;obtain ⟨p1,_⟩:=KN h3;obtain ⟨p2,q2⟩:=JB h4;obtain ⟨p3,q3⟩:=JF h2;refine ⟨(p1.trans p2).trans p3,fun j y hj k x hk v hv => ?_⟩
  cases j with
  | zero =>
   simp only [List.getElem?_cons_zero,Option.some.injEq] at hj;subst hj;have hm:v∈zS b.code:=List.mem_flatMap.2 ⟨x,List.mem_of_getElem? hk,hv⟩;have hn:v∉allL l:=fun hm'=>by
    have:=p3.new v hm';rw [p2.made v hm] at this; cases this
   rw [p3.keep v (p2.pos v hm) hn,q2 k x hk v hv]; simp
  | succ j =>
   have:=q3 j y (by simpa using hj) k x hk v hv;rw [this]; congr 2; omega
theorem dAt_rep (n:Nat) (v:Int):(dAt (List.replicate n ⟨false,0,0⟩) v).made=false:=by
 simp only [dAt,List.getD_eq_getElem?_getD,List.getElem?_replicate];split<;>rfl
theorem Jc {f:Fn} {ds:List Def} (h:defsOf f=some ds):(allL f.blocks).Nodup∧(∀ v,0≤v→(dAt ds v).made=true→v∈allL f.blocks) ∧ ∀ (i:Nat) (b:Block),f.blocks[i]? = some b → ∀ (k:Nat) (x:Ins),b.code[k]? = some x → ∀ v∈x.outs,dAt ds v=⟨true,(i:Int),(k:Int)⟩:=by
 obtain ⟨p,q⟩:=JF h;refine ⟨p.nd,fun v h0 hm => ?_,fun i b hb k x hx v hv=>by simpa using q i b hb k x hx v hv⟩;refine Classical.byContradiction fun hn => ?_
 rw [p.keep v h0 hn,dAt_rep] at hm
 cases hm
/-! ### Who asks -/
theorem jaI {α:Type} {p:α→α→Bool} : ∀ {l m:List α},Go.Vw.eqF p l m=true → ∀ x∈l, ∃ y,p x y=true
 | [],_,_,x,hx=>by cases hx
 | a::l,[],h,x,hx=>by simp [Go.Vw.eqF] at h
 | a::l,b::m,h,x,hx=>by
  simp only [Go.Vw.eqF,Bool.and_eq_true] at h;rcases List.mem_cons.1 hx with rfl | hx
  ·exact ⟨b,h.1⟩
  ·exact jaI h.2 x hx
theorem zo {e:Env} {f:Fn} {ds:List Def} {near:List Int} {i:Int} : ∀ {l:List Ins} {k j:Nat} {x:Ins},checkCode e f ds near i k l=true→l[j]? = some x→insOk e f ds near i ((k+j:Nat):Int) x=true
 | [],k,j,x,_,hx=>by simp at hx
 | y::l,k,j,x,h,hx=>by
  simp only [checkCode,Bool.and_eq_true] at h
  cases j with
  | zero=>simp only [List.getElem?_cons_zero,Option.some.injEq] at hx; subst hx; exact h.1
  | succ j =>
   have:=zo h.2 (j:=j) (x:=x) (by simpa using hx);rw [show k+(j+1)=k+1+j by omega]; exact this
theorem qA {e:Env} {f:Fn} {ds:List Def} {near:List Int} : ∀ {l:List Block} {i j:Nat} {b:Block},checkBlocks e f ds near i l=true→l[j]? = some b→checkCode e f ds near ((i+j:Nat):Int) 0 b.code=true∧termOk f ds near ((i+j:Nat):Int) b=true
 | [],i,j,b,_,hb=>by simp at hb
 | y::l,i,j,b,h,hb=>by
  simp only [checkBlocks,Bool.and_eq_true] at h
  cases j with
  | zero=>simp only [List.getElem?_cons_zero,Option.some.injEq] at hb; subst hb; exact h.1
  | succ j =>
   have:=qA h.2 (j:=j) (b:=b) (by simpa using hb);rw [show i+(j+1)=i+1+j by omega]; exact this
theorem insOk_asks {e:Env} {f:Fn} {ds:List Def} {near:List Int} {i k:Int} {x:Ins} (h:insOk e f ds near i k x=true):asks f.types ds near i k x.args (form e x.op x.n (insOut f.types x)).inn=true:=by
 simp only [insOk,Bool.and_eq_true] at h;exact h.2
theorem check_spec {e:Env} {f:Fn} (h:check e f=true):checkHead e f=true ∧ ∃ ds,defsOf f=some ds∧shapeOk f=true∧checkBlocks e f ds (Go.Vw.G.nearI (succs f.blocks)) 0 f.blocks=true:=by
 simp only [check,Bool.and_eq_true] at h;refine ⟨h.1, ?_⟩
 cases hd:defsOf f with
 | none=>rw [hd] at h; simp at h
 | some ds =>
  rw [hd] at h;simp only [Bool.and_eq_true] at h;exact ⟨ds,rfl,h.2.1,h.2.2⟩
end Ss
namespace Go.Vw
open Go.Proofs Go.RowKit
end Go.Vw
namespace Ss
def InR (n:Nat) (v:Int):Prop:=0≤v∧v<n
structure DOk (f:Fn):Prop where
 ne:f.blocks≠[]
 outs : ∀ b∈f.blocks, ∀ x∈b.code, ∀ v∈x.outs,InR f.types.length v
 one : ∀ b∈f.blocks, ∀ x∈b.code,pure x.op=true → ∃ o,x.outs=[o]
 args : ∀ b∈f.blocks, ∀ x∈b.code, ∀ v∈x.args,InR f.types.length v
 pars : ∀ b∈f.blocks, ∀ v∈b.params,InR f.types.length v
 targs : ∀ b∈f.blocks, ∀ v∈b.term.args,InR f.types.length v
 targ : ∀ b∈f.blocks,branches b.term=true→InR f.types.length b.term.arg
 eargs : ∀ b∈f.blocks, ∀ e∈b.term.to, ∀ v∈e.args,InR f.types.length v
 etos : ∀ b∈f.blocks, ∀ e∈b.term.to,0≤e.to∧e.to<f.blocks.length∧e.args.length=(f.blocks.getD e.to.toNat default).params.length
 u1 : ∀ b∈f.blocks, ∀ c∈f.blocks, ∀ x∈b.code, ∀ y∈c.code,pure x.op=true→pure y.op=true→x.outs=y.outs→x.args=y.args
 u2 : ∀ b∈f.blocks, ∀ c∈f.blocks, ∀ p∈b.params, ∀ y∈c.code,p∉y.outs
def askIns (t:List (List Int)) (x:Ins):List (List Int):=if pure x.op then t.set (x.outs.getD 0 0).toNat x.args else t
def askPar (t:List (List Int)) (q:Int × Int):List (List Int):=t.set q.1.toNat (t.getD q.1.toNat []++[q.2])
def askEdge (bs:List Block) (t:List (List Int)) (e:Edge):List (List Int):=((bs.getD e.to.toNat default).params.zip e.args).foldl askPar t
def askBlock (bs:List Block) (t:List (List Int)) (b:Block):List (List Int):=b.term.to.foldl (askEdge bs) (b.code.foldl askIns t)
def askTab (f:Fn):List (List Int):=f.blocks.foldl (askBlock f.blocks) (List.replicate f.types.length [])
def Asks (f:Fn) (v u:Int):Prop:=(∃ b∈f.blocks, ∃ x∈b.code,pure x.op=true∧x.outs=[v]∧u∈x.args) ∨ ∃ b∈f.blocks, ∃ e∈b.term.to,(v,u)∈(f.blocks.getD e.to.toNat default).params.zip e.args
end Ss
namespace Go.Vw
open Go.Proofs Go.RowKit
attribute [-simp] List.map_set
theorem ZG (S:Store) (l:List Int) (hl:l.length≤1048576):VCalls Tryz.prog 75 [vl vint l] S (fun r T=>r = .slice (lid S.nx 0) 0 l.length∧T=St S [] [some (1,l.map vint)]):=by
 refine QB (c:=jd Tryz.f75) Tryz.func75 Tryz.ntmps75 fun hwf=>?_
 refine QT ?_;refine QY ?_;refine QT ?_;refine vw_isnil (l:=l.map vint) rfl rfl (by rfl) rfl rfl rfl rfl (by rfl) rfl rfl Tryz.underlying23 rfl ?_;intro b hb;simp only [Fr.set]
 by_cases h:b=true
 ·have hl0:l=[]:=by simpa using hb h
  subst hl0;subst h
  repeat first|refine QG ?_|refine QY ?_
  exact ⟨_,_,(Ghost.nils (St S [] []) 1).toB _,by rw [jE]; rfl,by rw [Yf]; rfl⟩
 ·have h':b=false:=by simpa using h
  subst h';have hb1:l.length*8≤140737488355328:=by omega
  have hb2:l.length≤140737488355328:=by omega
  repeat first|refine QG ?_|refine QY ?_ (r:=by conv=>lhs;simp[QV,hb1,hb2,jao,nc_vint,qu,rep0])
  exact done_gc [1] hwf (by decide) (by simp) (by simp; rfl) (by simp; rfl) ⟨by simp,by simp⟩
theorem Clone_v (l:List Int) (hl:l.length≤1048576):VPure Tryz.prog 75 [vl vint l] (vl vint l):=by
 intro S;refine zG fun hwf=>qT ((ZG S l hl).mono ?_)
 rintro r T ⟨rfl,rfl⟩;exact jh hwf ((frz1 (k:=0) (by simp) (by rfl) (jF vint (fun _=>rfl) _) (by simp)).toB _) rfl
theorem one_v (v:Int) (to:List Int) (ht:to.length<2^63):VPure Tryz.prog 73 ([vint v]++[.ref (vl vint to)]) (vint (Ss.putv to v)):=by
 intro S;refine QB (c:=jd Tryz.f73) Tryz.func73 Tryz.ntmps73 fun hwf=>?_
 by_cases h1:0≤v
 ·obtain ⟨n,rfl⟩ : ∃ n:Nat,v=n:=⟨v.toNat,by omega⟩
  by_cases h2:n<to.length
  ·repeat first|refine QG ?_|refine QY ?_ (r:=by conv=>lhs;simp[QV,h2])
   exact ja hwf (by simp [Ss.putv,h2]) rfl
  ·repeat first|refine QG ?_|refine QY ?_ (r:=by conv=>lhs;simp[QV,h2])
   exact ja hwf (by simp [Ss.putv,h2]) rfl
 ·repeat first|refine QG ?_|refine QY ?_ (r:=by conv=>lhs;simp[QV,h1])
  exact ja hwf (by simp [Ss.putv,h1]) rfl
theorem allO_v (S:Store) (l to:List Int) (ps:Nat) (hps:S.get ps=some (1,[.func 73 [.ref (vl vint to)]])) (hl:l.length≤1048576) (ht:to.length<2^63):VCalls Tryz.prog 74 ([vl vint l]++[.ptr ps 0]) S (fun r T=>r = .slice (lid S.nx 0) 0 l.length∧T=St S [] [some (1,(l.map (Ss.putv to)).map vint)]):=by
 have cp:=fun v=>one_v v to ht
 generalize Ss.putv to=g at *
 refine QB (c:=jd Tryz.f74) Tryz.func74 Tryz.ntmps74 fun hwf=>?_
 have hpn:=jy hwf hps;have p1:=fun u l => @jk S u l _ hpn
 have pP:=fun ks=>zz (n:=S.nx) ks hpn
 have pT:=fun ks=>qX (n:=S.nx) ks hpn
 refine QT ?_;refine QY ?_;refine QT ?_;refine QY ?_;refine qW 4 1 rfl (by conv=>lhs; simp [Fr.set]) ?_
 repeat first|refine QG ?_|refine QY ?_
 refine QT ?_;refine jc [1,4,7,8,9] rfl (fun c σ S' => ∃ (k:Nat) (out:List Int),k≤l.length∧c=l.length-k∧out=(l.take k).map g∧out.length=k∧σ=[(1, .ptr ps 0),(4, .slice (lid S.nx 0) 0 k),(7,vl vint l),(8,vnat l.length),(9,vnat k)]∧S'=St S [] [some (1,out.map vint)]) l.length ?_ ?_
 ·exact ⟨0,[],by omega,rfl,by simp,rfl,by simp [Fr.only],by simp⟩
 ·rintro c σ T ⟨k,out,hk,rfl,ho,hlen,rfl,rfl⟩
  by_cases hkt:k<l.length
  ·have hw:=ji hkt (by omega);have cpk:=cp l[k];have htk:(l.take (k+1)).map g=(l.take k).map g++[g l[k]]:=by rw [List.take_add_one,List.getElem?_eq_getElem hkt,List.map_append]; rfl
   generalize g l[k]=gv at *
   have hb:(k+1)*8≤140737488355328:=by omega
   have hb':k+1≤140737488355328:=by omega
   repeat first|refine QG ?_|refine QY ?_ (r:=by conv=>lhs;simp[QV,hkt])
   refine QT ?_;refine QP ?_ (r:=by conv=>lhs;simp[QV,hkt,p1,hps]);refine ZQ (cpk) (by rfl) (by rfl) (by rfl) ?_;refine QM (by conv=>lhs;simp[QV,hb,hb',hlen]) ?_;refine QN ?_
   repeat first|refine QG ?_|refine QY ?_ (r:=by conv=>lhs;simp[QV,hb,hb',hlen,hw])
   refine qR [2] (by conv=>lhs; simp [Fr.only]) hwf (by decide) (by simp [pP,pT]) (by conv=>lhs; simp [pP,pT]) (by conv=>lhs; simp [pP,pT]) (by conv=>lhs; simp [pP,pT]) ⟨?_,k+1,out++[gv],hkt,rfl,by rw [htk,ho],by simp [hlen],by simp [hw],by simp⟩;omega
  ·have hke:k=l.length:=by omega
   subst hke;rw [List.take_length] at ho
   repeat first|refine QG ?_|refine QY ?_ (r:=by conv=>lhs;simp[QV,hkt])
   rw [←ho];exact qZ ⟨by simp,rfl⟩
end Go.Vw
