import Derived.Test.YtkfllaokjaldnaaGreatC22
import Derived.Test.YtkfllaokjaldnaaGreatC12
import Derived.Test.YtkfllaokjaldnaaGreatC11
import Derived.Test.YtkfllaokjaldnaaGreatC14
import Derived.Test.YtkfllaokjaldnaaGreatC21
/-
  Part of the proof (texts ECopy, DNeed, SCut, SUsed, SRUsed).
-/
set_option linter.unusedVariables false
set_option linter.unusedSimpArgs false
namespace Go.Vw
open Go.Proofs Go.RowKit
set_option maxRecDepth 10000
set_option maxHeartbeats 2000000
abbrev blkE:List Ty:=[.c, .s (List.replicate 4 .c), .c, .c, .s (List.replicate 2 .c), .c]
def YL (S:Store) (g:Ss.Fn) (r:V) (T:Store):Prop:=Agree S T∧T.Wf ∧ ∃ (ot ob:Nat) (cells:List V) (ids:List Nat),r = .agg [vl vint g.sig.inn,vl vint g.sig.out, .slice ot 0 g.types.length, .slice ob 0 g.blocks.length]∧T.get ot=some (1,g.types.map vint)∧T.get ob=some (6,cells)∧OwL T (reps g.blocks.length blkE) cells (jh jd g.blocks) ids∧(ot::ob::ids).Nodup ∧ ∀ o∈ot::ob::ids,S.nx≤o∧o<T.nx
theorem RReplaceE_v (S:Store) (f:Ss.Fn) (to:List Int) (hf:f.Fits) (hs:f.small=true) (hto:to.length<2^63):VCalls Tryz.prog 57 [qD f,vl vint to] S (YL S (Ss.replace f to)):=by
 have csm:=KQ f hf;rw [hs] at csm;obtain ⟨hh,hbk,hcnt⟩:=(Ss.small_iff f).1 hs;simp only [Ss.Fn.heads,Bool.and_eq_true,decide_eq_true_eq] at hh;obtain ⟨sm,hsm⟩ : ∃ sm,sm=true:=⟨_,rfl⟩
 rw [←hsm] at csm;have cfi:=jbP f.sig.inn (by omega);have cfo:=jbP f.sig.out (by omega);have cft:=fun S=>swapNO_v S f.types (by omega)
 have csw:=fun l hl=>swap_v l to hl hto
 have cpu:=fun v=>put_v v to hto
 have hX:Ss.replace f to=⟨f.sig,f.types,f.blocks.map (Ss.repBlock to)⟩:=rfl;rw [hX];clear hX;have hbF:=hf.2.2.2;obtain ⟨⟨fi,fo⟩,ts,bs⟩:=f;simp only at hh hbk hbF hcnt cfi cfo cft ⊢;have csm':VPure Tryz.prog 35 [.agg [vl vint fi,vl vint fo,vl vint ts,vl jd bs]] (.bool sm):=csm;refine qw (c:=jg Tryz.f57) Tryz.func57 rfl (by conv=>lhs; reduce) (by simp [Tryz.ntmps57]) ?_;rw [Tryz.ntmps57];intro hwf
 repeat first|refine QG ?_|refine QY ?_
 refine QH 2 0 ?_
 repeat refine QS ?_
 refine QP ?_;refine jc (csm') (by rfl) ?_;refine QM (by conv=>lhs;simp[-List.map_set,QV,hsm]) ?_;refine QN ?_
 repeat first|refine QG ?_|refine QY ?_ (r:=by conv=>lhs;simp[-List.map_set,QV,hsm])
 refine jE [1,2,4] (by conv=>lhs; simp [Fr.only,Fr.look]) ?_;refine zp [1] hwf (by decide) (by simp [-List.map_set]) (by conv=>lhs; simp [-List.map_set]) (by conv=>lhs; simp [-List.map_set]) (by conv=>lhs; simp [-List.map_set]) ?_;have cft':=cft (St S [] [some (4,[.nils, .nils, .nils, .nils])]);have cft2:=cft (St S [] [some (4,[.nils, .nils, .nils, .nils]),some (4,[.nils, .nils, .nils, .nils])]);rw [jQ,qy, ←JC] at cft' cft2;simp only [List.cons_append,List.nil_append,List.length_cons,List.length_nil,Nat.zero_add,Nat.add_zero] at cft' cft2
 repeat refine QS ?_
 refine JV (St S [] []) (St S [] []) [10028] 11 11 13 [11,12,13,14] [13,11,12,14] rfl (by kernel_rfl) (by conv=>lhs; reduce) (by kernel_rfl) (by decide) (by kernel_rfl) (by kernel_rfl) (by kernel_rfl) (by kernel_rfl) (by kernel_rfl) (by kernel_rfl) (by kernel_rfl) rfl rfl (by kernel_rfl) (jv (by simp [subU,shpU,subL,shpL])) (by conv=>lhs; reduce) (by conv=>lhs; reduce) (by conv=>lhs; reduce) ?_;refine QZ ?_;refine jc (cfi) (by rfl) ?_;refine QZ ?_;refine jc (cfo) (by rfl) ?_;refine QW ?_;refine ⟨?sm, ?Sm, ?H3, ?H1, ?H2⟩
 case H1 =>
  refine Wc rfl (cft') (by rfl) (KV (zI _ _ (by simp [subU])) (by simp [subL])) (jv (by simp [subU,shpU,subL,shpL])) ?_;refine QZ ?_;refine jf rfl (by conv=>lhs;simp[-List.map_set,QV]) (jv (by simp [subU,shpU,subL,shpL])) ?_;refine QZ ?_;refine jf rfl (by conv=>lhs;simp[-List.map_set,QV]) (jv (by simp [subU,shpU,subL,shpL])) ?_;refine QW ?_;refine zD [1,2,4,5] (Eq.trans (b := ?_) ?_ rfl)
  rotate_left
  conv=>lhs; simp [Fr.only,Fr.look]
 case H2 =>
  refine jf rfl (by conv=>lhs;simp[-List.map_set,QV]) (jv (by simp [subU,shpU,subL,shpL])) ?_;refine QZ ?_;refine Wc rfl (cft2) (by rfl) (KV (zI _ _ (by simp [subU])) (by simp [subL])) (jv (by simp [subU,shpU,subL,shpL])) ?_;refine QZ ?_;refine jf rfl (by conv=>lhs;simp[-List.map_set,QV]) (jv (by simp [subU,shpU,subL,shpL])) ?_;refine QW ?_;exact zV [1,2,4,5] [0,2,1] (by conv=>lhs; simp [Fr.only,Fr.look]) hwf (by decide) (by simp [-List.map_set]) (by conv=>lhs; simp [-List.map_set]) (by conv=>lhs; simp [-List.map_set]) (by conv=>lhs; simp [-List.map_set])
 repeat first|refine QG ?_|refine QY ?_
 apply ju
 ·exact Reach.voidCell 6 (k:=2) (i:=3) (by simp) (by rfl) (by rfl)
 simp only [List.cons_append,List.nil_append,List.length_cons,List.length_nil,List.set_cons_succ,List.set_cons_zero];refine jE [1,2,4,5,6] (by conv=>lhs; simp [Fr.only,Fr.look]) ?_;refine zp [1,0,2,3] hwf (by decide) (by simp [-List.map_set]) (by conv=>lhs; simp [-List.map_set]) (by conv=>lhs; simp [-List.map_set]) (by conv=>lhs; simp [-List.map_set]) ?_;obtain ⟨ot,hot⟩ : ∃ ot,ot=lid S.nx 0:=⟨_,rfl⟩
 rw [←hot]
 repeat refine QS ?_
 refine je [1,2,4,5,6] rfl (fun c σ S' => ∃ (B:Store) (k:Nat) (out:List Ss.Block) (cells:List V) (ids:List Nat),Agree S B∧B.Wf∧(B.get ot=some (1,ts.map vint)∧S.nx≤ot∧ot<B.nx∧ot∉ids)∧k≤bs.length∧c=bs.length-k∧out=(bs.take k).map (Ss.repBlock to)∧out.length=k∧OwL B (reps k blkE) cells (jh jd out) ids∧ids.Nodup∧(∀ o∈ids,S.nx≤o∧o<B.nx)∧σ=[(1,vl vint to),(2, .ref (.agg [vl vint fi,vl vint fo,vl vint ts,vl jd bs])),(4, .ptr (lid B.nx 0) 0),(5, .ptr (lid B.nx 1) 0),(6,vnat k)]∧S'=St B [] [some (4,[.nils, .nils, .nils, .nils]),some (4,[vl vint fi,vl vint fo, .slice ot 0 ts.length, .slice (lid B.nx 2) 0 k]),some (6,cells)]) bs.length ?_ ?_
 ·have hotg:(St S [] [some (1,ts.map vint)]).get ot=some (1,ts.map vint):=by rw [hot,jC]; rfl
  refine ⟨St S [] [some (1,ts.map vint)],0,[],[],[],JH,St_wf hwf (by simp),⟨hotg,by rw [hot,lid]; omega,by rw [hot,jQ]; simp [lid],by simp⟩,by omega,rfl,by simp,rfl, .nil,by simp,by simp,by simp [Fr.only,jQ,qy], ?_⟩;refine (St_sink1).trans ?_;simp [jQ,qy]
 ·rintro c σ T ⟨B,k,out,cells,ids,hag,hwfB,⟨hotg,hots,hotB,hotn⟩,hk,rfl,ho,hol,how,hnd,hids,rfl,rfl⟩;have hwfS:=hwf;clear hwf;have hwf:=hwfB;refine Yh hag.1 ?_;have hci:=fun ks=>(how.old (fun o ho=>(hids o ho).2) ks).1
  have gtP:=fun ks=>zO (n:=B.nx) ks hotB
  have gtT:=fun ks=>zh (n:=B.nx) ks hotB
  have hcr:=fun ks=>(how.old (fun o ho=>(hids o ho).2) ks).2
  by_cases hkt:k<bs.length
  case neg =>
   have hke:k=bs.length:=by omega
   subst hke;rw [List.take_length] at ho
   repeat first|refine QG ?_|refine QY ?_ (r:=by conv=>lhs;simp[-List.map_set,QV,hkt])
   refine jaY (xs:=[.agg [vl vint fi,vl vint fo, .slice ot 0 ts.length, .slice (lid B.nx 2) 0 bs.length]]) (by simp) ?_;rw [tupV_1];have hlb:(bs.map (Ss.repBlock to)).length=bs.length:=List.length_map _;have hcw:V.idsL (fun o=>decide (o<lid B.nx 3)) cells=true:=how.ids_lt fun o ho=>decide_eq_true (Nat.lt_of_lt_of_le (hids o ho).2 (by rw [lid]; omega))
   have hotw:ot<lid B.nx 3:=Nat.lt_of_lt_of_le hotB (by rw [lid]; omega);refine zm ⟨hag.St,St_wf hwf (by simp [hcw,lid_lt,hotw]),ot,lid B.nx 2,cells,ids,by rw [hlb],by rw [jt hotB]; exact hotg,by rw [jC]; rfl, ?_, ?_, ?_⟩
   ·rw [hlb, ←ho];exact how.mono fun o ho=>by rw [jt (hids o ho).2]; rfl
   ·refine List.nodup_cons.2 ⟨fun hm => ?_,List.nodup_cons.2 ⟨fun hm => ?_,hnd⟩⟩
    ·rcases List.mem_cons.1 hm with e | hm
     ·rw [e,lid] at hotB; omega
     ·exact hotn hm
    ·have:=(hids _ hm).2;simp only [lid] at this; omega
   ·intro o ho;have hle:=hag.1;rw [jQ];rcases List.mem_cons.1 ho with rfl | ho
    ·simp only [lid,List.length_cons,List.length_nil]; omega
    rcases List.mem_cons.1 ho with rfl | ho
    ·simp only [lid,List.length_cons,List.length_nil]; omega
    ·have:=hids o ho;simp only [lid,List.length_cons,List.length_nil]; omega
  have hw:=jo hkt (by omega);have hbF':=hbF _ (List.getElem_mem hkt);have hbk':=hbk _ (List.getElem_mem hkt);have htk:(bs.take (k+1)).map (Ss.repBlock to)=(bs.take k).map (Ss.repBlock to)++[Ss.repBlock to bs[k]]:=by rw [List.take_add_one,List.getElem?_eq_getElem hkt,List.map_append]; rfl
  obtain ⟨⟨ps,code,⟨tk,ta,tt,az⟩⟩,hx⟩ : ∃ b,bs[k]=b:=⟨_,rfl⟩
  rw [hx] at hbF' hbk' htk;simp only [Ss.Block.small,Bool.and_eq_true,List.all_eq_true,Ss.Ins.small,Ss.Edge.small,decide_eq_true_eq] at hbk';obtain ⟨⟨⟨⟨hps,htt⟩,haz⟩,hcode⟩,hto2⟩:=hbk';have hcl:=hcnt;have hcb:code.length≤4096:=by
   have:=count_mem (List.getElem_mem hkt);rw [hx] at this;simp only at this;omega
  have cps:=jbP ps (by omega)
  repeat first|refine QG ?_|refine QY ?_ (r:=by conv=>lhs;simp[-List.map_set,QV,hkt,hx])
  refine QH 7 3 ?_
  repeat refine QS ?_
  refine QP ?_;refine jc (cps) (by rfl) ?_;refine QW ?_
  repeat first|refine QG ?_|refine QY ?_
  apply ju
  ·exact Reach.voidCell 4 (k:=4) (i:=1) (by simp) (by rfl) (by rfl)
  simp only [List.cons_append,List.nil_append,List.length_cons,List.length_nil,List.set_cons_succ,List.set_cons_zero];refine jE [1,2,4,5,6,7,8,9] (by conv=>lhs; simp [Fr.only,Fr.look]) ?_;refine zp [0,1,2,4,5] hwf (by decide) (by simp [-List.map_set,gtP,gtT,hci,hcr]) (by conv=>lhs; simp [-List.map_set,gtP,gtT,hci,hcr]) (by conv=>lhs; simp [-List.map_set,gtP,gtT,hci,hcr]) (by conv=>lhs; simp [-List.map_set,gtP,gtT,hci,hcr]) ?_
  repeat refine QS ?_
  refine je [1,2,4,5,6,7,8,9] rfl (fun c σ S' => ∃ (j:Nat) (co:List Ss.Ins),j≤code.length∧c=code.length-j∧co=(code.take j).map (Ss.repIns to)∧co.length=j∧σ=[(1,vl vint to),(2, .ref (.agg [vl vint fi,vl vint fo,vl vint ts,vl jd bs])),(4, .ptr (lid B.nx 0) 0),(5, .ptr (lid B.nx 1) 0),(6,vnat k),(7, .ref (.agg [vl vint ps,vl jm code, .int .i64 tk, .int .i64 ta,vl jk tt,vl vint az])),(8, .ptr (lid B.nx 3) 0),(9,vnat j)]∧S'=St B [] [some (4,[.nils, .nils, .nils, .nils]),some (4,[vl vint fi,vl vint fo, .slice ot 0 ts.length, .slice (lid B.nx 2) 0 k]),some (6,cells),some (6,[vl vint ps, .slice (lid B.nx 4) 0 j, .int .i64 0, .int .i64 0, .nils, .nils]),some (4,jh jm co)]) code.length ?_ ?_
  ·exact ⟨0,[],by omega,rfl,by simp,rfl,by simp [Fr.only],by simp [jh]⟩
  ·rintro c σ T ⟨j,co,hj,rfl,hco,hcol,rfl,rfl⟩
   by_cases hjt:j<code.length
   case neg =>
    have hje:j=code.length:=by omega
    subst hje;rw [List.take_length] at hco;have cza:=csw az (by omega);have cta:=cpu ta;generalize hgz:az.map (Ss.putv to)=gz at *
    generalize hgt:Ss.putv to ta=gt at *
    repeat first|refine QG ?_|refine QY ?_ (r:=by conv=>lhs;simp[-List.map_set,QV,hjt])
    refine QH 11 5 ?_
    repeat refine QS ?_
    refine jN (St B [] []) (St B [] [none,none,none,some (6,[])]) [] rfl (by kernel_rfl) (by conv=>lhs; reduce) (by conv=>lhs; reduce) (by kernel_rfl) (by kernel_rfl) (jv (by simp [subU,shpU,subL,shpL])) (by conv=>lhs; simp [-List.map_set,QV]) ?_;refine jc (cza) (by rfl) ?_;refine QZ ?_;refine jf rfl (by conv=>lhs;simp[-List.map_set,QV]) (jv (by simp [subU,shpU,subL,shpL])) ?_;refine QW ?_;refine jE [1,2,4,5,6,8,11] (by conv=>lhs; simp [Fr.only,Fr.look]) ?_;refine zp [0,1,2,3,4] hwf (by decide) (by simp [-List.map_set,gtP,gtT,hci,hcr,qu,qo]) (by conv=>lhs; simp [-List.map_set,gtP,gtT,hci,hcr,qu,qo]) (by conv=>lhs; simp [-List.map_set,gtP,gtT,hci,hcr,qu,qo]) (by conv=>lhs; simp [-List.map_set,gtP,gtT,hci,hcr,qu,qo]) ?_;refine JU rfl ?_;refine Yf (fun σ S'=>σ=[(1,vl vint to),(2, .ref (.agg [vl vint fi,vl vint fo,vl vint ts,vl jd bs])),(4, .ptr (lid B.nx 0) 0),(5, .ptr (lid B.nx 1) 0),(6,vnat k),(8, .ptr (lid B.nx 3) 0),(11, .ref (.agg [.int .i64 tk, .int .i64 ta,vl jk tt,vl vint az]))]∧S'=St B [] [some (4,[.nils, .nils, .nils, .nils]),some (4,[vl vint fi,vl vint fo, .slice ot 0 ts.length, .slice (lid B.nx 2) 0 k]),some (6,cells),some (6,[vl vint ps, .slice (lid B.nx 4) 0 code.length, .int .i64 tk, .int .i64 (if tk=2∨tk=3 then gt else ta), .nils,vl vint gz]),some (4,jh jm co)]) [1,2,4,5,6,8,11] ?_ ?_
    ·by_cases h2:tk=2
     ·repeat first|refine QG ?_|refine QY ?_ (r:=by conv=>lhs;simp[-List.map_set,QV,h2])
      repeat refine QS ?_
      refine QP ?_;refine jc (cta) (by rfl) ?_;refine QW ?_
      repeat first|refine QG ?_|refine QY ?_
      exact ⟨by simp [Fr.only,h2],by simp [h2]⟩
     by_cases h3:tk=3
     ·repeat first|refine QG ?_|refine QY ?_ (r:=by conv=>lhs;simp[-List.map_set,QV,h2,h3])
      repeat refine QS ?_
      refine QP ?_;refine jc (cta) (by rfl) ?_;refine QW ?_
      repeat first|refine QG ?_|refine QY ?_
      exact ⟨by simp [Fr.only,h3],by simp [h3]⟩
     ·repeat first|refine QG ?_|refine QY ?_ (r:=by conv=>lhs;simp[-List.map_set,QV,h2,h3])
      exact ⟨by simp [Fr.only],by simp [h2,h3]⟩
    rintro σ S' ⟨rfl,rfl⟩;generalize hgg:(if tk=2∨tk=3 then gt else ta)=gg
    repeat first|refine QG ?_|refine QY ?_
    apply ju
    ·exact Reach.voidCell 2 (k:=3) (i:=4) (by simp) (by rfl) (by rfl)
    simp only [List.cons_append,List.nil_append,List.length_cons,List.length_nil,List.set_cons_succ,List.set_cons_zero]
    repeat refine QS ?_
    refine je [1,2,4,5,6,8,11,12] rfl (fun c σ S' => ∃ (j:Nat) (eo:List Ss.Edge),j≤tt.length∧c=tt.length-j∧eo=(tt.take j).map (Ss.repEdge to)∧eo.length=j∧σ=[(1,vl vint to),(2, .ref (.agg [vl vint fi,vl vint fo,vl vint ts,vl jd bs])),(4, .ptr (lid B.nx 0) 0),(5, .ptr (lid B.nx 1) 0),(6,vnat k),(8, .ptr (lid B.nx 3) 0),(11, .ref (.agg [.int .i64 tk, .int .i64 ta,vl jk tt,vl vint az])),(12,vnat j)]∧S'=St B [] [some (4,[.nils, .nils, .nils, .nils]),some (4,[vl vint fi,vl vint fo, .slice ot 0 ts.length, .slice (lid B.nx 2) 0 k]),some (6,cells),some (6,[vl vint ps, .slice (lid B.nx 4) 0 code.length, .int .i64 tk, .int .i64 gg, .slice (lid B.nx 5) 0 j,vl vint gz]),some (4,jh jm co),some (2,jh jk eo)]) tt.length ?_ ?_
    ·exact ⟨0,[],by omega,rfl,by simp,rfl,by simp [Fr.only],by simp [jh]⟩
    ·rintro c σ T ⟨j,eo,hj,rfl,heo,heol,rfl,rfl⟩
     by_cases hjt:j<tt.length
     case neg =>
      have hje:j=tt.length:=by omega
      subst hje;rw [List.take_length] at heo
      repeat first|refine QG ?_|refine QY ?_ (r:=by conv=>lhs;simp[-List.map_set,QV,hjt])
      have hcel:cells.length=k*6:=by rw [how.len.1,zL]; rfl
      have hb:(k+1)*112≤140737488355328:=by omega
      have hb':k+1≤140737488355328:=by omega
      repeat first|refine QG ?_|refine QY ?_ (r:=by conv=>lhs;simp[-List.map_set,QV,hb,hb',hcel,rep0,hw])
      show jx _ _ _ _ _ _ _;refine KP hag.1 ?_;have hblk:Ss.repBlock to ⟨ps,code,⟨tk,ta,tt,az⟩⟩=⟨ps,co,⟨tk,gg,eo,gz⟩⟩:=by
       simp only [Ss.repBlock,Ss.repTerm,hgt,hgz,hgg,hco,heo]
      have hB' : ∀ o,o<B.nx→(St B [] [some (4,jh jm co),some (2,jh jk eo)]).get o=B.get o:=fun o ho=>by rw [jt ho]; rfl
      have hnew:OwL (St B [] [some (4,jh jm co),some (2,jh jk eo)]) blkE [vl vint ps, .slice (lid B.nx 0) 0 code.length, .int .i64 tk, .int .i64 gg, .slice (lid B.nx 1) 0 tt.length,vl vint gz] (jd ⟨ps,co,⟨tk,gg,eo,gz⟩⟩).cells [lid B.nx 0,lid B.nx 1]:=by
       rw [jK, ←hcol, ←heol];exact .c rfl (OwL.slice (fun _=>by rw [jV]; rfl) qC co (by rw [jC]; rfl) (.c rfl (.c rfl (OwL.slice (fun _=>by rw [qP]; rfl) qF eo (by rw [jC]; rfl) (.c rfl .nil)))))
      have hown:OwL (St B [] [some (4,jh jm co),some (2,jh jk eo)]) (reps (k+1) blkE) (cells++[vl vint ps, .slice (lid B.nx 0) 0 code.length, .int .i64 tk, .int .i64 gg, .slice (lid B.nx 1) 0 tt.length,vl vint gz]) (jh jd (out++[⟨ps,co,⟨tk,gg,eo,gz⟩⟩])) (ids++[lid B.nx 0,lid B.nx 1]):=by
       rw [WB,zw];exact (how.mono fun o ho=>hB' o (hids o ho).2).append hnew
      have hotN:(St B [] [some (4,jh jm co),some (2,jh jk eo)]).get ot=some (1,ts.map vint)∧S.nx≤ot∧ot<(St B [] [some (4,jh jm co),some (2,jh jk eo)]).nx∧ot∉ids++[lid B.nx 0,lid B.nx 1]:=by
       refine ⟨by rw [hB' ot hotB]; exact hotg,hots,by rw [jQ]; simp only [lid,List.length_cons,List.length_nil]; omega,fun hm => ?_⟩;rcases List.mem_append.1 hm with hm | hm
       ·exact hotn hm
       ·simp only [List.mem_cons,List.not_mem_nil,or_false] at hm;rcases hm with hm | hm<;>(rw [hm,lid] at hotB; omega)
      refine jS [4,5,0,1,7] (by conv=>lhs; simp [Fr.only]) hwf (by decide) (by simp [-List.map_set,gtP,gtT,hci,hcr,qu,qo,zC,zu]) (by conv=>lhs; simp [-List.map_set,gtP,gtT,hci,hcr,qu,qo,zC,zu]) (by conv=>lhs; simp [-List.map_set,gtP,gtT,hci,hcr,qu,qo,zC,zu]) (by conv=>lhs; simp [-List.map_set,gtP,gtT,hci,hcr,qu,qo,zC,zu]) ⟨?_,St B [] [some (4,jh jm co),some (2,jh jk eo)],k+1,out++[⟨ps,co,⟨tk,gg,eo,gz⟩⟩],cells++[vl vint ps, .slice (lid B.nx 0) 0 code.length, .int .i64 tk, .int .i64 gg, .slice (lid B.nx 1) 0 tt.length,vl vint gz],ids++[lid B.nx 0,lid B.nx 1],hag.St,St_wf hwf (by simp [qo,zu]),hotN,hkt,rfl,by rw [htk,hblk,ho],by simp [hol],hown, ?_, ?_,by simp [jQ,qy],(by refine (JC (l:=[_,_])).trans ?_; simp [jQ,qy])⟩
      ·omega
      ·refine List.nodup_append.2 ⟨hnd,by simp [lid],fun a ha b hb e => ?_⟩;have:=(hids a ha).2;simp only [List.mem_cons,List.not_mem_nil,or_false] at hb;rcases hb with hb | hb<;>(rw [hb,lid] at e; omega)
      ·intro o ho;have hle:=hag.1;rw [jQ];rcases List.mem_append.1 ho with ho | ho
       ·have:=hids o ho;simp only [lid,List.length_cons,List.length_nil]; omega
       ·simp only [List.mem_cons,List.not_mem_nil,or_false] at ho;rcases ho with ho | ho<;>(rw [ho]; simp only [lid,List.length_cons,List.length_nil]; omega)
     have hwj:=jo hjt (by omega);have hej:=hto2 _ (List.getElem_mem hjt);have hcj:(tt.take (j+1)).map (Ss.repEdge to)=(tt.take j).map (Ss.repEdge to)++[Ss.repEdge to tt[j]]:=by rw [List.take_add_one,List.getElem?_eq_getElem hjt,List.map_append]; rfl
     obtain ⟨⟨xt,xa⟩,hx2⟩ : ∃ x,tt[j]=x:=⟨_,rfl⟩
     rw [hx2] at hcj hej;simp only at hej;have cxa:=csw xa (by omega);have hfl:(jh jk eo).length=j*2:=by rw [zP (s:=2) (fun _=>by rw [qP]; rfl),heol]
     have hb:(j+1)*32≤140737488355328:=by omega
     have hb':j+1≤140737488355328:=by omega
     generalize hga:xa.map (Ss.putv to)=ga at *
     repeat first|refine QG ?_|refine QY ?_ (r:=by conv=>lhs;simp[-List.map_set,QV,hjt])
     repeat refine QS ?_
     refine jN (St B [] []) (St B [] [none,none,none,some (6,[])]) [110] rfl (by kernel_rfl) (by conv=>lhs; reduce) (by conv=>lhs; reduce) (by kernel_rfl) (by kernel_rfl) (jv (by simp [subU,shpU,subL,shpL])) (by conv=>lhs; simp [-List.map_set,QV,hjt,hx2]) ?_;refine jc (cxa) (by rfl) ?_;refine QZ ?_;refine jf rfl (by conv=>lhs;simp[-List.map_set,QV,rep0]) (jv (by simp [subU,shpU,subL,shpL])) ?_;refine QZ ?_;refine jf rfl (by conv=>lhs;simp[-List.map_set,QV,hb,hb',hfl]) (jv (by simp [subU,shpU,subL,shpL])) ?_;refine QZ ?_;refine jf rfl (by conv=>lhs;simp[-List.map_set,QV]) (jv (by simp [subU,shpU,subL,shpL])) ?_;refine QW ?_
     repeat first|refine QG ?_|refine QY ?_ (r:=by conv=>lhs;simp[-List.map_set,QV,hwj])
     refine jS [0,1,2,3,4,7] (by conv=>lhs; simp [Fr.only]) hwf (by decide) (by simp [-List.map_set,gtP,gtT,hci,hcr,qu,qo,zC,zu]) (by conv=>lhs; simp [-List.map_set,gtP,gtT,hci,hcr,qu,qo,zC,zu]) (by conv=>lhs; simp [-List.map_set,gtP,gtT,hci,hcr,qu,qo,zC,zu]) (by conv=>lhs; simp [-List.map_set,gtP,gtT,hci,hcr,qu,qo,zC,zu]) ⟨?_,j+1,eo++[Ss.repEdge to ⟨xt,xa⟩],hjt,rfl,by rw [hcj,heo],by simp [heol],by simp [hwj],by simp [zw,Ss.repEdge,hga]⟩;omega
   have hwj:=jo hjt (by omega);have hcj:(code.take (j+1)).map (Ss.repIns to)=(code.take j).map (Ss.repIns to)++[Ss.repIns to code[j]]:=by rw [List.take_add_one,List.getElem?_eq_getElem hjt,List.map_append]; rfl
   have hsj:=hcode _ (List.getElem_mem hjt);obtain ⟨⟨xo,xn,xa,xu⟩,hx2⟩ : ∃ x,code[j]=x:=⟨_,rfl⟩
   rw [hx2] at hcj hsj;simp only at hsj;have cxa:=csw xa (by omega);have cxu:=jbP xu (by omega);have hfl:(jh jm co).length=j*4:=by rw [zP (s:=4) (fun _=>by rw [jV]; rfl),hcol]
   have hb:(j+1)*64≤140737488355328:=by omega
   have hb':j+1≤140737488355328:=by omega
   generalize hga:xa.map (Ss.putv to)=ga at *
   repeat first|refine QG ?_|refine QY ?_ (r:=by conv=>lhs;simp[-List.map_set,QV,hjt,hx2])
   refine QH 10 5 ?_
   repeat refine QS ?_
   refine jN (St B [] []) (St B [] [none,none,none,some (6,[])]) [59] rfl (by kernel_rfl) (by conv=>lhs; reduce) (by conv=>lhs; reduce) (by kernel_rfl) (by kernel_rfl) (jv (by simp [subU,shpU,subL,shpL])) (by conv=>lhs; simp [-List.map_set,QV]) ?_;refine jc (cxa) (by rfl) ?_;refine QZ ?_;refine jc (cxu) (by rfl) ?_;refine QZ ?_;refine jf rfl (by conv=>lhs;simp[-List.map_set,QV,rep0]) (jv (by simp [subU,shpU,subL,shpL])) ?_;refine QZ ?_;refine jf rfl (by conv=>lhs;simp[-List.map_set,QV,hb,hb',hfl]) (jv (by simp [subU,shpU,subL,shpL])) ?_;refine QZ ?_;refine jf rfl (by conv=>lhs;simp[-List.map_set,QV]) (jv (by simp [subU,shpU,subL,shpL])) ?_;refine QW ?_
   repeat first|refine QG ?_|refine QY ?_ (r:=by conv=>lhs;simp[-List.map_set,QV,hwj])
   refine jS [0,1,2,3,7] (by conv=>lhs; simp [Fr.only]) hwf (by decide) (by simp [-List.map_set,gtP,gtT,hci,hcr,qu,qo]) (by conv=>lhs; simp [-List.map_set,gtP,gtT,hci,hcr,qu,qo]) (by conv=>lhs; simp [-List.map_set,gtP,gtT,hci,hcr,qu,qo]) (by conv=>lhs; simp [-List.map_set,gtP,gtT,hci,hcr,qu,qo]) ⟨?_,j+1,co++[Ss.repIns to ⟨xo,xn,xa,xu⟩],hjt,rfl,by rw [hcj,hco],by simp [hcol],by simp [hwj],by simp [zw,Ss.repIns,hga]⟩;omega
theorem RCopyE_v (S:Store) (f:Ss.Fn) (hf:f.Fits) (hs:f.small=true):VCalls Tryz.prog 18 [qD f] S (YL S f):=by
 have cr : ∀ S,VCalls Tryz.prog 57 [qD f, .nils] S (YL S f):=fun S=>by
  have h:=RReplaceE_v S f [] hf hs (by simp);rw [Ss.replace_nil] at h;exact qZ (GhostArgs.one [qD f] [] (Ghost.nils_list S)) h
 obtain ⟨⟨fi,fo⟩,ts,bs⟩:=f;have cr' : ∀ S,VCalls Tryz.prog 57 [.agg [vl vint fi,vl vint fo,vl vint ts,vl jd bs], .nils] S (YL S ⟨⟨fi,fo⟩,ts,bs⟩):=cr
 refine qw (c:=jg Tryz.f18) Tryz.func18 rfl (by conv=>lhs; reduce) (by simp [Tryz.ntmps18]) ?_;rw [Tryz.ntmps18];intro hwf
 repeat first|refine QG ?_|refine QY ?_
 refine QH 1 0 ?_
 repeat refine QS ?_
 refine QP ?_;refine qb rfl (cr' _) ?_;rintro X T ⟨hag,hwT,ot,ob,cells,ids,rfl,hot,hob,how,hnd,hids⟩;have hc:T.get (lid S.nx 1)=some (4,[.nils, .nils, .nils, .nils]):=by
  rw [hag.2 _ (by rw [jQ]; simp [lid]),jC]; rfl
 have hcn:=jA hwT hc;have oc:=fun u l => @jt T u l _ hcn
 have uo:=fun u l c => @zz T u l c _ hcn
 refine jbN hwT ?_;refine QM (by conv=>lhs;simp[-List.map_set,QV,hc,oc,uo]) ?_;refine QN ?_
 repeat first|refine QG ?_|refine QY ?_
 refine jaY (xs:=[.agg [vl vint fi,vl vint fo, .slice ot 0 ts.length, .slice ob 0 bs.length]]) (by simp [oc]) ?_;rw [tupV_1,jaP hwT hcn];have hne : ∀ o∈ot::ob::ids,o≠lid S.nx 1:=fun o ho e=>by
  have:=(hids o ho).1;rw [e,jQ] at this;simp [lid] at this
 have hag0:Agree S T:=⟨Nat.le_trans (by rw [jQ,lid]; omega) hag.1,fun o ho=>(hag.2 o (by rw [jQ,lid]; omega)).trans (by rw [jt ho]; rfl)⟩
 refine zm ⟨⟨hag0.1,fun o ho => ?_⟩,upd_wf hwT hcn (by simp [(hids ob (by simp)).2,(hids ot (by simp)).2]),ot,ob,cells,ids,rfl, ?_, ?_, ?_,hnd,fun o ho=>⟨?_,(hids o ho).2⟩⟩
 ·rw [jT (by rw [lid]; omega)]; exact hag0.2 o ho
 ·rw [jT (hne ot (by simp))]; exact hot
 ·rw [jT (hne ob (by simp))]; exact hob
 ·exact how.mono fun o ho=>jT (hne o (by simp [ho]))
 ·have:=(hids o ho).1;rw [jQ,lid] at this;omega
end Go.Vw

namespace Ss
abbrev on (need:List Bool) (v:Int):Bool:=need.getD v.toNat false
def dfs (asks:List (List Int)):Nat→List Bool→List Int→List Bool
 | 0,need,_=>need
 | _+1,need,[]=>need
 | n+1,need,v::r=>if on need v then dfs asks (n+1) need r else dfs asks (n+1) (dfs asks n (need.set v.toNat true) (asks.getD v.toNat [])) r
termination_by n _ l=>(n,l.length)
def off (need:List Bool):Nat:=need.countP fun b => !b
structure Marks (asks:List (List Int)) (need:List Bool) (l:List Int) (R:List Bool):Prop where
 len:R.length=need.length
 mono : ∀ i:Nat,need[i]? = some true→R[i]? = some true
 all : ∀ v∈l,on R v=true
 shut : ∀ i:Nat,R[i]? = some true→need[i]? = some true ∨ ∀ u∈asks.getD i [],on R u=true
 least : ∀ P:Nat→Prop,(∀ i:Nat,need[i]? = some true→P i)→(∀ v∈l,P v.toNat)→(∀ i:Nat,P i → ∀ u∈asks.getD i [],P u.toNat) → ∀ i:Nat,R[i]? = some true→P i
end Ss

namespace Ss
def cutB (b:Block) (k:Nat):Block:=⟨b.params,b.code.take k++b.code.drop (k+1),b.term⟩
def cut (f:Fn) (i k:Nat):Fn:=⟨f.sig,f.types,f.blocks.set i (cutB (f.blocks.getD i default) k)⟩
end Ss
namespace Go.Vw
open Go.Proofs Go.RowKit
set_option maxRecDepth 10000
set_option maxHeartbeats 2000000
theorem blk_split {T:Store} {bs:List Ss.Block} {cells:List V} {ids:List Nat} {n i:Nat} (h:OwL T (reps n blkT) cells (jh jd bs) ids) (hn:bs.length=n) (hi:i<n) {b:Ss.Block} (hb:bs[i]? = some b) :
  ∃ (c1 c2:List V) (oc:Nat) (i1 i2:List Nat),cells=c1++([vl vint b.params, .slice oc 0 b.code.length,vint b.term.kind,vint b.term.arg,vl jk b.term.to,vl vint b.term.args]++c2)∧c1.length=i*6∧ids=i1++oc::i2∧T.get oc=some (4,jh jm b.code) ∧
   OwL T (reps i blkT) c1 (jh jd (bs.take i)) i1∧OwL T (reps (n-i-1) blkT) c2 (jh jd (bs.drop (i+1))) i2:=by
 have e1:reps n blkT=reps i blkT++(blkT++reps (n-i-1) blkT):=by
  rw [←zK, ←jcc]; congr 1; omega
 have e2:jh jd bs=jh jd (bs.take i)++((jd b).cells++jh jd (bs.drop (i+1))):=by
  have hlt:i<bs.length:=by omega
  have:bs=bs.take i++b::bs.drop (i+1):=by
   have hbi:bs[i]=b:=by rw [List.getElem?_eq_getElem hlt] at hb; exact Option.some.inj hb
   rw [←hbi,List.getElem_cons_drop,List.take_append_drop]
  conv=>lhs; rw [this]
  simp [jh]
 rw [e1,e2] at h;obtain ⟨r1,r2,x1,x2,i1,i2,rfl,hx,rfl,k1,k2⟩:=h.split;have hl1:(jh jd (bs.take i)).length=x1.length:=by
  rw [zP (s:=6) (fun _=>by rw [jK]; rfl),k1.len.2,zL,List.length_take];show min i bs.length*6=i*6;rw [Nat.min_eq_left (by omega)]
 obtain ⟨rfl,rfl⟩:=List.append_inj hx hl1;obtain ⟨r3,r4,x3,x4,i3,i4,rfl,hx2,rfl,k3,k4⟩:=k2.split;have hl2:(jd b).cells.length=x3.length:=by rw [jK,k3.len.2]; rfl
 obtain ⟨rfl,rfl⟩:=List.append_inj hx2 hl2;rw [jK] at k3
 cases k3 with
 | c hp k3 =>
  generalize hL:vl jm b.code=L at k3
  cases k3 with
  | @s _ _ _ _ cells' ys ii jj oc ho hs d t =>
  have hy:ys=b.code.map jm:=by
   have:V.list (b.code.map jm)=V.list ys:=hL;exact (V.list.inj this).symm
  subst hy
  cases t with
  | c _ t=>cases t with
   | c _ t=>cases t with
    | c _ t=>cases t with
     | c _ t=>cases t with
      | nil =>
       have hd:cells'=jh jm b.code∧ii=[]:=by
        rw [List.length_map,qT,WC] at d;exact zt d
       obtain ⟨rfl,rfl⟩:=hd;refine ⟨r1,r4,oc,i1,i4, ?_, ?_, ?_, ?_,k1,k4⟩
       ·simp
       ·rw [k1.len.1,zL]; rfl
       ·simp
       ·rw [ho]; rfl
theorem blk_join {T:Store} {bs:List Ss.Block} {c1 c2:List V} {i1 i2:List Nat} {n i oc:Nat} {b:Ss.Block} (h1:OwL T (reps i blkT) c1 (jh jd (bs.take i)) i1) (h2:OwL T (reps (n-i-1) blkT) c2 (jh jd (bs.drop (i+1))) i2) (hn:bs.length=n) (hi:i<n) (ho:T.get oc=some (4,jh jm b.code)) :
  OwL T (reps n blkT) (c1++([vl vint b.params, .slice oc 0 b.code.length,vint b.term.kind,vint b.term.arg,vl jk b.term.to,vl vint b.term.args]++c2)) (jh jd (bs.set i b)) (i1++oc::i2):=by
 have e1:reps n blkT=reps i blkT++(blkT++reps (n-i-1) blkT):=by
  rw [←zK, ←jcc]; congr 1; omega
 have e2:jh jd (bs.set i b)=jh jd (bs.take i)++((jd b).cells++jh jd (bs.drop (i+1))):=by
  rw [List.set_eq_take_append_cons_drop,if_pos (by omega)];simp [jh]
 rw [e1,e2,jK];refine h1.append (OwL.append (i:=[oc]) ?_ h2);exact .c rfl (OwL.slice (fun _=>by rw [jV]; rfl) qC b.code ho (.c rfl (.c rfl (.c rfl (.c rfl .nil)))))
end Go.Vw

namespace Ss
def mark1 (o:List Bool) (v:Int):List Bool:=if 0≤v∧v<o.length then o.set v.toNat true else o
def mark (o:List Bool) (l:List Int):List Bool:=l.foldl mark1 o
def usedB (o:List Bool) (b:Block):List Bool :=
 b.term.to.foldl (fun o t=>mark o t.args) (if branches b.term then mark (mark (b.code.foldl (fun o x=>mark o x.args) o) b.term.args) [b.term.arg] else mark (b.code.foldl (fun o x=>mark o x.args) o) b.term.args)
def usedOf (f:Fn):List Bool:=f.blocks.foldl usedB (List.replicate f.types.length false)
end Ss
namespace Go.Vw
open Go.Proofs Go.RowKit
set_option maxRecDepth 10000
set_option maxHeartbeats 4000000
end Go.Vw

namespace Ss
def asksT (t:Term):List Int:=(if t.kind=2∨t.kind=3 then [t.arg] else [])++t.to.flatMap (fun x=>x.args)++t.args
def asksB (b:Block):List Int:=asksT b.term++b.code.flatMap (fun x=>x.args)
def rusedOf (f:Fn):List Bool:=f.blocks.foldl (fun o b=>mark o (asksB b)) (List.replicate f.types.length false)
end Ss
namespace Go.Vw
open Go.Proofs Go.RowKit
set_option maxRecDepth 10000
set_option maxHeartbeats 2000000
theorem qI (l:List Int):jh vint l=l.map vint:=by
 induction l with
 | nil=>rfl
 | cons x l ih =>
  simp only [jh,List.flatMap_cons,List.map_cons] at ih ⊢;rw [ih]; rfl
theorem renL_repb (f:Nat→Nat) (n:Nat) (b:Bool):V.renL f (List.replicate n (V.bool b))=List.replicate n (V.bool b):=by rw [rep_bool,ZW]
theorem idsL_repb (p:Nat→Bool) (n:Nat) (b:Bool):V.idsL p (List.replicate n (V.bool b))=true:=by rw [rep_bool,jaw]
end Go.Vw
