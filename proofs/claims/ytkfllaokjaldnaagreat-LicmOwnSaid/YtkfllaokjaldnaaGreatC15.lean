import Derived.Test.YtkfllaokjaldnaaGreatC14
import Derived.Test.YtkfllaokjaldnaaGreatC9
import Derived.Test.YtkfllaokjaldnaaGreatC12
import Derived.Test.YtkfllaokjaldnaaGreatC7
/- Part of the proof. -/
set_option linter.unusedVariables false
set_option linter.unusedSimpArgs false
set_option maxRecDepth 10000
set_option maxHeartbeats 2000000
namespace Go.Vw
open Go.Proofs Go.RowKit
attribute [-simp] List.map_set
abbrev insD:List Ty:=[.c, .c, .s [.c], .s [.c]]
abbrev Ko:List Ty:=[.c, .s [.c]]
abbrev blkD:List Ty:=[.s [.c], .s insD, .c, .c, .s Ko, .c]
def jaW (S:Store) (g:Ss.Fn) (r:V) (T:Store):Prop:=Agree S T∧T.Wf ∧ ∃ (ot ob:Nat) (cells:List V) (ids:List Nat),r = .agg [vl vint g.sig.inn,vl vint g.sig.out, .slice ot 0 g.types.length, .slice ob 0 g.blocks.length]∧T.get ot=some (1,g.types.map vint)∧T.get ob=some (6,cells)∧OwL T (reps g.blocks.length blkD) cells (je jb g.blocks) ids∧(ot::ob::ids).Nodup ∧ ∀ o∈ot::ob::ids,S.nx≤o∧o<T.nx
theorem SReplace_v (S:Store) (f:Ss.Fn) (to:List Int) (hf:f.Fits) (hs:f.small=true) (hto:to.length<2^63):VCalls Tryz.prog 24 [ql f,vl vint to] S (jaW S (Ss.replace f to)):=by
 have csm:=jbV f hf;rw [hs] at csm;obtain ⟨hh,hbk,hcnt⟩:=(Ss.small_iff f).1 hs;simp only [Ss.Fn.heads,Bool.and_eq_true,decide_eq_true_eq] at hh;obtain ⟨sm,hsm⟩ : ∃ sm,sm=true:=⟨_,rfl⟩
 rw [←hsm] at csm;have cfi:=Clone_v f.sig.inn (by omega);have cfo:=Clone_v f.sig.out (by omega);have cft:=fun S=>ZG S f.types (by omega)
 have hX:Ss.replace f to=⟨f.sig,f.types,f.blocks.map (Ss.repBlock to)⟩:=rfl;rw [hX];clear hX;obtain ⟨⟨fi,fo⟩,ts,bs⟩:=f;simp only at hh hbk hcnt cfi cfo cft ⊢;have csm':VPure Tryz.prog 64 [.agg [vl vint fi,vl vint fo,vl vint ts,vl jb bs]] (.bool sm):=csm;refine qd (c:=jd Tryz.f24) Tryz.func24 rfl (by conv=>lhs; reduce) (by simp [Tryz.ntmps24]) ?_;rw [Tryz.ntmps24];intro hwf
 repeat first|refine QG ?_|refine QY ?_
 refine QH 2 0 ?_;refine jx 3 rfl ((boxSt (k:=1) (by simp) (by rfl) (by rfl))) (by conv=>lhs; simp [Fr.set]) ?_;simp only [List.set_cons_succ,List.set_cons_zero];refine QT ?_;refine QP ?_;refine QL (csm') ?_;refine QM (by conv=>lhs;simp[QV,hsm]) ?_;refine QN ?_
 repeat first|refine QG ?_|refine QY ?_ (r:=by conv=>lhs;simp[QV,hsm])
 refine QO [2,4,5,6] ?_;refine QK [3,2] ?_;have cft':=cft (St S [] [some (1,[.func 73 [.ref (vl vint to)]]),some (4,[.nils, .nils, .nils, .nils])]);have cft2:=cft (St S [] [some (1,[.func 73 [.ref (vl vint to)]]),some (4,[.nils, .nils, .nils, .nils]),some (4,[.nils, .nils, .nils, .nils])]);rw [jE,jZ, ←Jf] at cft' cft2;simp only [List.cons_append,List.nil_append,List.length_cons,List.length_nil,Nat.zero_add,Nat.add_zero] at cft' cft2;refine QT ?_;refine Jh (St S [] []) (St S [] []) [10032] 11 11 13 [11,12,13,14] [13,11,12,14] rfl (by kernel_rfl) (by conv=>lhs; reduce) (by kernel_rfl) (by decide) (by kernel_rfl) (by kernel_rfl) (by kernel_rfl) (by kernel_rfl) (by kernel_rfl) (by kernel_rfl) (by kernel_rfl) rfl rfl (by kernel_rfl) (JG (by simp [subU,shpU,subL,shpL])) (by conv=>lhs; reduce) (by conv=>lhs; reduce) (by conv=>lhs; reduce) ?_;refine QZ ?_;refine QL (cfi) ?_
 refine QZ ?_;refine QL (cfo) ?_;refine QW ?_;refine ⟨?sm, ?Sm, ?H3, ?H1, ?H2⟩
 case H1 =>
  refine JR rfl (cft') (by rfl) (Kf (zt _ _ (by simp [subU])) (by simp [subL])) (JG (by simp [subU,shpU,subL,shpL])) ?_;refine QZ ?_;refine QI ?_;refine QZ ?_;refine QI ?_;refine QW ?_;refine zu [2,4,5,6,7] (Eq.trans (b := ?_) ?_ rfl)
  rotate_left
  conv=>lhs; simp [Fr.only,Fr.look]
 case H2 =>
  refine QI ?_;refine QZ ?_;refine JR rfl (cft2) (by rfl) (Kf (zt _ _ (by simp [subU])) (by simp [subL])) (JG (by simp [subU,shpU,subL,shpL])) ?_;refine QZ ?_;refine QI ?_;refine QW ?_;exact zD [2,4,5,6,7] [0,1,3,2] (by conv=>lhs; simp [Fr.only,Fr.look]) hwf (by decide) (by simp) (by conv=>lhs; simp) (by conv=>lhs; simp) (by conv=>lhs; simp)
 repeat first|refine QG ?_|refine QY ?_
 apply jo
 ·exact Reach.voidCell 6 (k:=3) (i:=3) (by simp) (by rfl) (by rfl)
 simp only [List.cons_append,List.nil_append,List.length_cons,List.length_nil,List.set_cons_succ,List.set_cons_zero];refine QO [4,5,6,7,35,36,37] ?_;refine QK [0,2,1,3,4] ?_;obtain ⟨pc,hpc⟩ : ∃ pc,pc=lid S.nx 0:=⟨_,rfl⟩
 obtain ⟨ot,hot⟩ : ∃ ot,ot=lid S.nx 1:=⟨_,rfl⟩
 rw [←hpc, ←hot];refine QT ?_;refine jc [4,5,6,7,35,36,37] rfl (fun c σ S' => ∃ (B:Store) (k:Nat) (out:List Ss.Block) (cells:List V) (ids:List Nat),Agree S B∧B.Wf∧(B.get pc=some (1,[.func 73 [.ref (vl vint to)]])∧pc<B.nx)∧(B.get ot=some (1,ts.map vint)∧S.nx≤ot∧ot<B.nx∧ot∉ids)∧k≤bs.length∧c=bs.length-k∧out=(bs.take k).map (Ss.repBlock to)∧out.length=k∧OwL B (reps k blkD) cells (je jb out) ids∧ids.Nodup∧(∀ o∈ids,S.nx≤o∧o<B.nx)∧σ=[(4, .ptr (lid B.nx 0) 0),(5, .ptr pc 0),(6, .func 74 [.ptr pc 0]),(7, .ptr (lid B.nx 1) 0),(35,vl jb bs),(36,vnat bs.length),(37,vnat k)]∧S'=St B [] [some (4,[.nils, .nils, .nils, .nils]),some (4,[vl vint fi,vl vint fo, .slice ot 0 ts.length, .slice (lid B.nx 2) 0 k]),some (6,cells)]) bs.length ?_ ?_
 ·refine ⟨St S [] [some (1,[.func 73 [.ref (vl vint to)]]),some (1,ts.map vint)],0,[],[],[],Jn,jaU hwf (by simp),⟨by rw [hpc,jv]; rfl,by rw [hpc,jE]; simp [lid]⟩,⟨by rw [hot,jv]; rfl,by rw [hot,lid]; omega,by rw [hot,jE]; simp [lid],by simp⟩,by omega,rfl,by simp,rfl, .nil,by simp,by simp,by simp [Fr.only,jE,jZ], ?_⟩;refine (Jf (l:=[_,_])).trans ?_;simp [jE,jZ]
 ·rintro c σ T ⟨B,k,out,cells,ids,hag,hwfB,⟨hpg,hpB⟩,⟨hotg,hots,hotB,hotn⟩,hk,rfl,ho,hol,how,hnd,hids,rfl,rfl⟩;have hwfS:=hwf;clear hwf;have hwf:=hwfB;refine zy hag.1 ?_;have hci:=fun ks=>(how.old (fun o ho=>(hids o ho).2) ks).1
  have hcr:=fun ks=>(how.old (fun o ho=>(hids o ho).2) ks).2
  have gtP:=fun ks=>zz (n:=B.nx) ks hotB
  have gtT:=fun ks=>qX (n:=B.nx) ks hotB
  have gpP:=fun ks=>zz (n:=B.nx) ks hpB
  have gpT:=fun ks=>qX (n:=B.nx) ks hpB
  by_cases hkt:k<bs.length
  case neg =>
   have hke:k=bs.length:=by omega
   subst hke;rw [List.take_length] at ho
   repeat first|refine QG ?_|refine QY ?_ (r:=by conv=>lhs;simp[QV,hkt])
   refine Zp (xs:=[.agg [vl vint fi,vl vint fo, .slice ot 0 ts.length, .slice (lid B.nx 2) 0 bs.length]]) (by simp) ?_;rw [jbl];have hlb:(bs.map (Ss.repBlock to)).length=bs.length:=List.length_map _;have hcw:V.idsL (fun o=>decide (o<lid B.nx 3)) cells=true:=how.ids_lt fun o ho=>decide_eq_true (Nat.lt_of_lt_of_le (hids o ho).2 (by rw [lid]; omega))
   have hotw:ot<lid B.nx 3:=Nat.lt_of_lt_of_le hotB (by rw [lid]; omega);refine qZ ⟨hag.St,jaU hwf (by simp [hcw,lid_lt,hotw]),ot,lid B.nx 2,cells,ids,by rw [hlb],by rw [jk hotB]; exact hotg,by rw [jv]; rfl, ?_, ?_, ?_⟩
   ·rw [hlb, ←ho];exact how.mono fun o ho=>by rw [jk (hids o ho).2]; rfl
   ·refine List.nodup_cons.2 ⟨fun hm => ?_,List.nodup_cons.2 ⟨fun hm => ?_,hnd⟩⟩
    ·rcases List.mem_cons.1 hm with e | hm
     ·rw [e,lid] at hotB; omega
     ·exact hotn hm
    ·have:=(hids _ hm).2;simp only [lid] at this; omega
   ·intro o ho;have hle:=hag.1;rw [jE];rcases List.mem_cons.1 ho with rfl | ho
    ·simp only [lid,List.length_cons,List.length_nil]; omega
    rcases List.mem_cons.1 ho with rfl | ho
    ·simp only [lid,List.length_cons,List.length_nil]; omega
    ·have:=hids o ho;simp only [lid,List.length_cons,List.length_nil]; omega
  have hw:=ji hkt (by omega);have hbk':=hbk _ (List.getElem_mem hkt);have hcb:=count_mem (List.getElem_mem hkt);have htk:(bs.take (k+1)).map (Ss.repBlock to)=(bs.take k).map (Ss.repBlock to)++[Ss.repBlock to bs[k]]:=by rw [List.take_add_one,List.getElem?_eq_getElem hkt,List.map_append]; rfl
  obtain ⟨⟨ps,code,⟨tk,ta,tt,az⟩⟩,hx⟩ : ∃ b,bs[k]=b:=⟨_,rfl⟩
  rw [hx] at hbk' htk hcb;simp only [Ss.Block.small,Bool.and_eq_true,List.all_eq_true,Ss.Ins.small,Ss.Edge.small,decide_eq_true_eq] at hbk';obtain ⟨⟨⟨⟨hps,htt⟩,haz⟩,hcode⟩,hto2⟩:=hbk';simp only at hcb;have hcl:code.length≤4096:=by omega
  have cps:=fun S=>ZG S ps (by omega)
  repeat first|refine QG ?_|refine QY ?_ (r:=by conv=>lhs;simp[QV,hkt,hx])
  refine QH 9 3 ?_;refine QO [4,5,6,7,9,35,36,37] ?_;refine Wx [0,1,2] hwf (by decide) (by simp [gpP,gpT,gtP,gtT,hci,hcr]) (by conv=>lhs; simp [gpP,gpT,gtP,gtT,hci,hcr]) (by conv=>lhs; simp [gpP,gpT,gtP,gtT,hci,hcr]) (by conv=>lhs; simp [gpP,gpT,gtP,gtT,hci,hcr]) ?_;have cps':=cps (St B [] [some (4,[.nils, .nils, .nils, .nils]),some (4,[vl vint fi,vl vint fo, .slice ot 0 ts.length, .slice (lid B.nx 2) 0 k]),some (6,cells)]);have cps2:=cps (St B [] [some (4,[.nils, .nils, .nils, .nils]),some (4,[vl vint fi,vl vint fo, .slice ot 0 ts.length, .slice (lid B.nx 2) 0 k]),some (6,cells),some (6,[.nils, .nils, .int .i64 0, .int .i64 0, .nils, .nils])]);rw [jE,jZ, ←Jf] at cps' cps2;simp only [List.cons_append,List.nil_append,List.length_cons,List.length_nil,Nat.zero_add,Nat.add_zero] at cps' cps2;refine QT ?_;refine Jh (St B [] []) (St B [] []) [10043] 2 2 6 [2,3,4,5,6,7] [6,2,3,4,5,7] rfl (by kernel_rfl) (by conv=>lhs; reduce) (by kernel_rfl) (by decide) (by kernel_rfl) (by kernel_rfl) (by kernel_rfl) (by kernel_rfl) (by kernel_rfl) (by kernel_rfl) (by kernel_rfl) rfl rfl (by kernel_rfl) (JG (by simp [subU,shpU,subL,shpL])) (by conv=>lhs; reduce) (by conv=>lhs; reduce) (by conv=>lhs; reduce) ?_
  refine QW ?_;refine ⟨?sm2, ?Sm2, ?H3b, ?H1b, ?H2b⟩
  case H1b =>
   refine JR rfl (cps') (by rfl) (Kf (zt _ _ (by simp [subU])) (by simp [subL])) (JG (by simp [subU,shpU,subL,shpL])) ?_;refine QZ ?_;refine QI ?_;refine QZ ?_;refine QI ?_;refine QW ?_;refine zu [4,5,6,7,9,10,35,36,37] (Eq.trans (b := ?_) ?_ rfl)
   rotate_left
   conv=>lhs; simp [Fr.only,Fr.look]
  case H2b =>
   refine QI ?_;refine QZ ?_;refine JR rfl (cps2) (by rfl) (Kf (zt _ _ (by simp [subU])) (by simp [subL])) (JG (by simp [subU,shpU,subL,shpL])) ?_;refine QZ ?_;refine QI ?_;refine QW ?_;exact zD [4,5,6,7,9,10,35,36,37] [0,1,2,4,3] (by conv=>lhs; simp [Fr.only,Fr.look]) hwf (by decide) (by simp [gpP,gpT,gtP,gtT,hci,hcr]) (by conv=>lhs; simp [gpP,gpT,gtP,gtT,hci,hcr]) (by conv=>lhs; simp [gpP,gpT,gtP,gtT,hci,hcr]) (by conv=>lhs; simp [gpP,gpT,gtP,gtT,hci,hcr])
  repeat first|refine QG ?_|refine QY ?_
  apply jo
  ·exact Reach.voidCell 4 (k:=4) (i:=1) (by simp) (by rfl) (by rfl)
  simp only [List.cons_append,List.nil_append,List.length_cons,List.length_nil,List.set_cons_succ,List.set_cons_zero];refine QT ?_;refine jc [4,5,6,7,9,10,35,36,37,48,49,50] rfl (fun c σ S' => ∃ (B2:Store) (j:Nat) (co:List Ss.Ins) (cc:List V) (ci:List Nat),Agree B B2∧B2.Wf∧j≤code.length∧c=code.length-j∧co=(code.take j).map (Ss.repIns to)∧co.length=j∧OwL B2 (reps j insD) cc (je jg co) ci∧ci.Nodup∧(∀ o∈ci,B.nx≤o∧o<B2.nx)∧σ=[(4, .ptr (lid B2.nx 0) 0),(5, .ptr pc 0),(6, .func 74 [.ptr pc 0]),(7, .ptr (lid B2.nx 1) 0),(9, .ref (.agg [vl vint ps,vl jg code, .int .i64 tk, .int .i64 ta,vl jf tt,vl vint az])),(10, .ptr (lid B2.nx 4) 0),(35,vl jb bs),(36,vnat bs.length),(37,vnat k),(48,vl jg code),(49,vnat code.length),(50,vnat j)]∧S'=St B2 [] [some (4,[.nils, .nils, .nils, .nils]),some (4,[vl vint fi,vl vint fo, .slice ot 0 ts.length, .slice (lid B2.nx 2) 0 k]),some (6,cells),some (1,ps.map vint),some (6,[.slice (lid B2.nx 3) 0 ps.length, .slice (lid B2.nx 5) 0 j, .int .i64 tk, .int .i64 ta,vl jf tt,vl vint az]),some (4,cc)]) code.length ?_ ?_
  ·exact ⟨B,0,[],[],[],⟨Nat.le_refl _,fun _ _=>rfl⟩,hwf,by omega,rfl,by simp,rfl, .nil,by simp,by simp,by simp [Fr.only],by simp⟩
  ·rintro c σ T ⟨B2,j,co,cc,ci,hag2,hwfB2,hj,rfl,hco,hcol,hwc,hcnd,hcid,rfl,rfl⟩;have hwfB1:=hwf;clear hwf;have hwf:=hwfB2;refine zy hag2.1 ?_;have hle2:=hag2.1;have hci2:=fun ks=>(how.old (n:=B2.nx) (fun o ho=>Nat.lt_of_lt_of_le (hids o ho).2 hle2) ks).1
   have hcr2:=fun ks=>(how.old (n:=B2.nx) (fun o ho=>Nat.lt_of_lt_of_le (hids o ho).2 hle2) ks).2
   have hcc2:=fun ks=>(hwc.old (fun o ho=>(hcid o ho).2) ks).1
   have hcw2:=fun ks=>(hwc.old (fun o ho=>(hcid o ho).2) ks).2
   have gtP2:=fun ks=>zz (n:=B2.nx) ks (Nat.lt_of_lt_of_le hotB hle2)
   have gtT2:=fun ks=>qX (n:=B2.nx) ks (Nat.lt_of_lt_of_le hotB hle2)
   have gpP2:=fun ks=>zz (n:=B2.nx) ks (Nat.lt_of_lt_of_le hpB hle2)
   have gpT2:=fun ks=>qX (n:=B2.nx) ks (Nat.lt_of_lt_of_le hpB hle2)
   have hpg2:B2.get pc=some (1,[.func 73 [.ref (vl vint to)]]):=(hag2.2 pc hpB).trans hpg;have hpc2 : ∀ l,(St B2 [] l).get pc=some (1,[.func 73 [.ref (vl vint to)]]):=fun l=>by rw [jk (Nat.lt_of_lt_of_le hpB hle2)]; exact hpg2
   by_cases hjt:j<code.length
   case neg =>
    have hje:j=code.length:=by omega
    subst hje;rw [List.take_length] at hco;have cbr:=jbL ⟨tk,ta,tt,az⟩;obtain ⟨br,hbr⟩ : ∃ br,Ss.branches ⟨tk,ta,tt,az⟩=br:=⟨_,rfl⟩
    rw [hbr] at cbr;have cbr':VPure Tryz.prog 76 [.agg [.int .i64 tk, .int .i64 ta,vl jf tt,vl vint az]] (.bool br):=cbr;have hbr2:br=true↔(tk=2∨tk=3):=by rw [←hbr]; simp [Ss.branches]
    have cone:=one_v ta to hto;generalize hgt:Ss.putv to ta=gt at *
    refine QT ?_;refine QY ?_ (r:=by conv=>lhs;simp[QV,hjt]);refine QT ?_;refine jH rfl rfl rfl ?_;refine QT ?_;refine jQ 2 rfl rfl ?_;refine Jg rfl ?_;refine Wc (fun σ S'=>σ=[(4, .ptr (lid B2.nx 0) 0),(5, .ptr pc 0),(6, .func 74 [.ptr pc 0]),(7, .ptr (lid B2.nx 1) 0),(9, .ref (.agg [vl vint ps,vl jg code, .int .i64 tk, .int .i64 ta,vl jf tt,vl vint az])),(10, .ptr (lid B2.nx 4) 0),(35,vl jb bs),(36,vnat bs.length),(37,vnat k)]∧S'=St B2 [] [some (4,[.nils, .nils, .nils, .nils]),some (4,[vl vint fi,vl vint fo, .slice ot 0 ts.length, .slice (lid B2.nx 2) 0 k]),some (6,cells),some (1,ps.map vint),some (6,[.slice (lid B2.nx 3) 0 ps.length, .slice (lid B2.nx 5) 0 code.length, .int .i64 tk, .int .i64 (if tk=2∨tk=3 then gt else ta),vl jf tt,vl vint az]),some (4,cc)]) [4,5,6,7,9,10,35,36,37] ?_ ?_
    ·refine QT ?_;refine QP ?_;refine QL (cbr') ?_
     by_cases h:br=true
     ·have h2:=hbr2.1 h;refine QM (by conv=>lhs;simp[QV,h]) ?_;refine QN ?_
      repeat first|refine QG ?_|refine QY ?_
      refine QT ?_;refine QP ?_ (r:=by conv=>lhs;simp[QV,hpc2]);refine ZQ (cone) (by rfl) (by rfl) (by rfl) ?_;refine QW ?_;exact ⟨by simp [Fr.only],by simp [h2]⟩
     ·have h':br=false:=by simpa using h
      have h2 : ¬ (tk=2∨tk=3):=fun e=>h (hbr2.2 e)
      refine QM (by conv=>lhs;simp[QV,h']) ?_;refine QN ?_
      repeat first|refine QG ?_|refine QY ?_
      exact ⟨by simp [Fr.only],by simp [h2]⟩
    rintro σ S' ⟨rfl,rfl⟩;refine zy hag2.1 ?_;generalize hgg:(if tk=2∨tk=3 then gt else ta)=gg;have cza:=allO_v (St B2 [] [some (4,[.nils, .nils, .nils, .nils]),some (4,[vl vint fi,vl vint fo, .slice ot 0 ts.length, .slice (lid B2.nx 2) 0 k]),some (6,cells),some (1,ps.map vint),some (6,[.slice (lid B2.nx 3) 0 ps.length, .slice (lid B2.nx 5) 0 code.length, .int .i64 tk, .int .i64 gg,vl jf tt,vl vint az]),some (4,cc)]) az to pc (hpc2 _) (by omega) hto;have hgzl:(az.map (Ss.putv to)).length=az.length:=List.length_map _;generalize hgz:az.map (Ss.putv to)=gz at *
    rw [jE,jZ, ←Jf] at cza;simp only [List.cons_append,List.nil_append,List.length_cons,List.length_nil,Nat.zero_add,Nat.add_zero] at cza;refine QT ?_;refine QP ?_;refine zQ (by rfl) (by rfl) (by rfl) cza ?_;rintro X T' ⟨rfl,rfl⟩;refine QW ?_
    apply jo
    ·exact Reach.frzCell (k:=4) (j:=6) (i:=5) (n:=az.length) (cells':=gz.map vint) (by decide) (by simp) (by simp) rfl rfl rfl (jF vint (fun _=>rfl) _) (by simp [hgzl])
    simp only [List.set_cons_succ,List.set_cons_zero]
    repeat first|refine QG ?_|refine QY ?_
    apply jo
    ·exact Reach.voidCell 2 (k:=4) (i:=4) (by simp) (by rfl) (by rfl)
    simp only [List.cons_append,List.nil_append,List.length_cons,List.length_nil,List.set_cons_succ,List.set_cons_zero];refine QO [4,5,6,7,10,35,36,37,91,92,93] ?_;refine Wx [0,1,2,3,4,5,7] hwf (by decide) (by simp [gpP2,gpT2,gtP2,gtT2,hci2,hcr2,hcc2,hcw2]) (by conv=>lhs; simp [gpP2,gpT2,gtP2,gtT2,hci2,hcr2,hcc2,hcw2]) (by conv=>lhs; simp [gpP2,gpT2,gtP2,gtT2,hci2,hcr2,hcc2,hcw2]) (by conv=>lhs; simp [gpP2,gpT2,gtP2,gtT2,hci2,hcr2,hcc2,hcw2]) ?_;refine QT ?_;refine jc [4,5,6,7,10,35,36,37,91,92,93] rfl (fun c σ S' => ∃ (B3:Store) (q:Nat) (eo:List Ss.Edge) (ec:List V) (ei:List Nat),Agree B2 B3∧B3.Wf∧q≤tt.length∧c=tt.length-q∧eo=(tt.take q).map (Ss.repEdge to)∧eo.length=q∧OwL B3 (reps q Ko) ec (je jf eo) ei∧ei.Nodup∧(∀ o∈ei,B2.nx≤o∧o<B3.nx)∧σ=[(4, .ptr (lid B3.nx 0) 0),(5, .ptr pc 0),(6, .func 74 [.ptr pc 0]),(7, .ptr (lid B3.nx 1) 0),(10, .ptr (lid B3.nx 4) 0),(35,vl jb bs),(36,vnat bs.length),(37,vnat k),(91,vl jf tt),(92,vnat tt.length),(93,vnat q)]∧S'=St B3 [] [some (4,[.nils, .nils, .nils, .nils]),some (4,[vl vint fi,vl vint fo, .slice ot 0 ts.length, .slice (lid B3.nx 2) 0 k]),some (6,cells),some (1,ps.map vint),some (6,[.slice (lid B3.nx 3) 0 ps.length, .slice (lid B3.nx 5) 0 code.length, .int .i64 tk, .int .i64 gg, .slice (lid B3.nx 6) 0 q,vl vint gz]),some (4,cc),some (2,ec)]) tt.length ?_ ?_
    ·exact ⟨B2,0,[],[],[],⟨Nat.le_refl _,fun _ _=>rfl⟩,hwf,by omega,rfl,by simp,rfl, .nil,by simp,by simp,by simp [Fr.only],by simp [vl]⟩
    ·rintro c σ T ⟨B3,q,eo,ec,ei,hag3,hwfB3,hq,rfl,heo,heol,hwe,hend,heid,rfl,rfl⟩;have hwfB2':=hwf;clear hwf;have hwf:=hwfB3;refine zy hag3.1 ?_;have hle3:=hag3.1;have hci3:=fun ks=>(how.old (n:=B3.nx) (fun o ho=>Nat.lt_of_lt_of_le (hids o ho).2 (Nat.le_trans hle2 hle3)) ks).1
     have hcr3:=fun ks=>(how.old (n:=B3.nx) (fun o ho=>Nat.lt_of_lt_of_le (hids o ho).2 (Nat.le_trans hle2 hle3)) ks).2
     have hcc3:=fun ks=>(hwc.old (n:=B3.nx) (fun o ho=>Nat.lt_of_lt_of_le (hcid o ho).2 hle3) ks).1
     have hcw3:=fun ks=>(hwc.old (n:=B3.nx) (fun o ho=>Nat.lt_of_lt_of_le (hcid o ho).2 hle3) ks).2
     have hce3:=fun ks=>(hwe.old (fun o ho=>(heid o ho).2) ks).1
     have hcx3:=fun ks=>(hwe.old (fun o ho=>(heid o ho).2) ks).2
     have hotB3:=Nat.lt_of_lt_of_le hotB (Nat.le_trans hle2 hle3);have hpB3:=Nat.lt_of_lt_of_le hpB (Nat.le_trans hle2 hle3);have gtP3:=fun ks=>zz (n:=B3.nx) ks hotB3
     have gtT3:=fun ks=>qX (n:=B3.nx) ks hotB3
     have gpP3:=fun ks=>zz (n:=B3.nx) ks hpB3
     have gpT3:=fun ks=>qX (n:=B3.nx) ks hpB3
     have hpc3 : ∀ l,(St B3 [] l).get pc=some (1,[.func 73 [.ref (vl vint to)]]):=fun l=>by rw [jk hpB3]; exact (hag3.2 pc (Nat.lt_of_lt_of_le hpB hle2)).trans hpg2
     by_cases hqt:q<tt.length
     case neg =>
      have hqe:q=tt.length:=by omega
      subst hqe;rw [List.take_length] at heo;have hcel:cells.length=k*6:=by rw [how.len.1,qL]; rfl
      have hb:(k+1)*112≤140737488355328:=by omega
      have hb':k+1≤140737488355328:=by omega
      repeat first|refine QG ?_|refine QY ?_ (r:=by conv=>lhs;simp[QV,hqt,hb,hb',hcel,rep0,hw])
      show jp _ _ _ _ _ _ _;refine JO (b':=B3.nx) (Nat.le_trans hag.1 (Nat.le_trans hle2 hle3)) ?_;have hblk:Ss.repBlock to ⟨ps,code,⟨tk,ta,tt,az⟩⟩=⟨ps,co,⟨tk,gg,eo,gz⟩⟩:=by
       simp only [Ss.repBlock,Ss.repTerm,hgt,hgz,hgg,hco,heo]
      have hagB:Agree S B3:=(hag.trans hag2).trans hag3;have hB4 : ∀ o,o<B3.nx→(St B3 [] [some (1,ps.map vint),some (4,cc),some (2,ec)]).get o=B3.get o:=fun o ho=>by rw [jk ho]; rfl
      have hgB : ∀ o,o<B.nx→(St B3 [] [some (1,ps.map vint),some (4,cc),some (2,ec)]).get o=B.get o:=fun o ho=>by
       rw [hB4 o (by omega),hag3.2 o (by omega),hag2.2 o ho]
      have hgB2 : ∀ o,o<B2.nx→(St B3 [] [some (1,ps.map vint),some (4,cc),some (2,ec)]).get o=B2.get o:=fun o ho=>by
       rw [hB4 o (by omega),hag3.2 o ho]
      have hnew:OwL (St B3 [] [some (1,ps.map vint),some (4,cc),some (2,ec)]) blkD [.slice (lid B3.nx 0) 0 ps.length, .slice (lid B3.nx 1) 0 code.length, .int .i64 tk, .int .i64 gg, .slice (lid B3.nx 2) 0 tt.length,vl vint gz] (jb ⟨ps,co,⟨tk,gg,eo,gz⟩⟩).cells (lid B3.nx 0::(lid B3.nx 1::(ci++(lid B3.nx 2::(ei++[]))))):=by
       rw [jz];refine OwL.slice (enc:=vint) (fun _=>rfl) (fun _=>rfl) ps (by rw [jv,qu]; rfl) ?_;have h1:=OwL.s (S:=St B3 [] [some (1,ps.map vint),some (4,cc),some (2,ec)]) (o:=lid B3.nx 1) (tys:=insD) (cells:=cc) (ys:=co.map jg) (by rw [jv]; rfl) (fun y hy=>(by
        obtain ⟨b,_,rfl⟩:=List.mem_map.1 hy;exact ⟨by rw [jJ]; rfl,qo b⟩)) (by rw [List.length_map,qN,hcol]; exact hwc.mono fun o ho=>hgB2 o (hcid o ho).2)
        (.c (x := .int .i64 tk) rfl (.c (x := .int .i64 gg) rfl (OwL.s (S:=St B3 [] [some (1,ps.map vint),some (4,cc),some (2,ec)]) (o:=lid B3.nx 2) (tys:=Ko) (cells:=ec) (ys:=eo.map jf) (by rw [jv]; rfl) (fun y hy=>(by
         obtain ⟨b,_,rfl⟩:=List.mem_map.1 hy;exact ⟨by rw [qq]; rfl,qp b⟩)) (by rw [List.length_map,qN,heol]; exact hwe.mono fun o ho=>hB4 o (heid o ho).2) (.c (x:=vl vint gz) rfl .nil))))
       rw [List.length_map,List.length_map,hcol,heol] at h1;exact h1
      have hown:OwL (St B3 [] [some (1,ps.map vint),some (4,cc),some (2,ec)]) (reps (k+1) blkD) (cells++[.slice (lid B3.nx 0) 0 ps.length, .slice (lid B3.nx 1) 0 code.length, .int .i64 tk, .int .i64 gg, .slice (lid B3.nx 2) 0 tt.length,vl vint gz]) (je jb (out++[⟨ps,co,⟨tk,gg,eo,gz⟩⟩])) (ids++lid B3.nx 0::(lid B3.nx 1::(ci++(lid B3.nx 2::(ei++[]))))):=by
       rw [Kx,qK];exact (how.mono fun o ho=>hgB o (hids o ho).2).append hnew
      have hmem : ∀ o,o∈lid B3.nx 0::(lid B3.nx 1::(ci++(lid B3.nx 2::(ei++[]))))→(o=lid B3.nx 0∨o=lid B3.nx 1∨o=lid B3.nx 2)∨(B.nx≤o∧o<B2.nx∧o∈ci)∨(B2.nx≤o∧o<B3.nx∧o∈ei):=by
       intro o ho;simp only [List.mem_cons,List.mem_append,List.not_mem_nil,or_false] at ho;rcases ho with h | h | h | h | h
       ·exact .inl (.inl h)
       ·exact .inl (.inr (.inl h))
       ·exact .inr (.inl ⟨(hcid o h).1,(hcid o h).2,h⟩)
       ·exact .inl (.inr (.inr h))
       ·exact .inr (.inr ⟨(heid o h).1,(heid o h).2,h⟩)
      have hge : ∀ o,o∈lid B3.nx 0::(lid B3.nx 1::(ci++(lid B3.nx 2::(ei++[]))))→B.nx≤o∧o<(St B3 [] [some (1,ps.map vint),some (4,cc),some (2,ec)]).nx:=by
       intro o ho;rw [jE];rcases hmem o ho with (h | h | h) | h | h
       ·rw [h]; simp only [lid,List.length_cons,List.length_nil]; omega
       ·rw [h]; simp only [lid,List.length_cons,List.length_nil]; omega
       ·rw [h]; simp only [lid,List.length_cons,List.length_nil]; omega
       ·simp only [lid,List.length_cons,List.length_nil]; omega
       ·simp only [lid,List.length_cons,List.length_nil]; omega
      have hndI:(lid B3.nx 0::(lid B3.nx 1::(ci++(lid B3.nx 2::(ei++[]))))).Nodup:=by
       have nci : ∀ q,lid B3.nx q∉ci:=fun q h=>by have:=(hcid _ h).2; simp only [lid] at this; omega
       have nei : ∀ q,lid B3.nx q∉ei:=fun q h=>by have:=(heid _ h).2; simp only [lid] at this; omega
       rw [List.append_nil];refine List.nodup_cons.2 ⟨?_,List.nodup_cons.2 ⟨?_,List.nodup_append.2 ⟨hcnd,List.nodup_cons.2 ⟨nei 2,hend⟩, ?_⟩⟩⟩
       ·simp only [List.mem_cons,List.mem_append,not_or];exact ⟨by simp [lid],nci 0,by simp [lid],nei 0⟩
       ·simp only [List.mem_cons,List.mem_append,not_or];exact ⟨nci 1,by simp [lid],nei 1⟩
       ·intro a ha b hb e;rcases List.mem_cons.1 hb with rfl | hb
        ·exact nci 2 (e▸ha)
        ·have h1:=(hcid a ha).2;have h2:=(heid b hb).1;omega
      have hndN:(ids++lid B3.nx 0::(lid B3.nx 1::(ci++(lid B3.nx 2::(ei++[]))))).Nodup:=by
       refine List.nodup_append.2 ⟨hnd,hndI,fun a ha b hb e => ?_⟩;have h1:=(hids a ha).2;have h2:=(hge b hb).1;omega
      have hidN : ∀ o∈ids++lid B3.nx 0::(lid B3.nx 1::(ci++(lid B3.nx 2::(ei++[])))),S.nx≤o∧o<(St B3 [] [some (1,ps.map vint),some (4,cc),some (2,ec)]).nx:=by
       intro o ho;have hle:=hag.1;rcases List.mem_append.1 ho with ho | ho
       ·have:=hids o ho;rw [jE]; simp only [lid,List.length_cons,List.length_nil]; omega
       ·have:=hge o ho;omega
      have hotN:(St B3 [] [some (1,ps.map vint),some (4,cc),some (2,ec)]).get ot=some (1,ts.map vint)∧S.nx≤ot∧ot<(St B3 [] [some (1,ps.map vint),some (4,cc),some (2,ec)]).nx∧ot∉ids++lid B3.nx 0::(lid B3.nx 1::(ci++(lid B3.nx 2::(ei++[])))):=by
       refine ⟨by rw [hgB ot hotB]; exact hotg,hots,by rw [jE]; simp only [lid,List.length_cons,List.length_nil]; omega,fun hm => ?_⟩;rcases List.mem_append.1 hm with hm | hm
       ·exact hotn hm
       ·have:=(hge ot hm).1; omega
      have hpN:(St B3 [] [some (1,ps.map vint),some (4,cc),some (2,ec)]).get pc=some (1,[.func 73 [.ref (vl vint to)]])∧pc<(St B3 [] [some (1,ps.map vint),some (4,cc),some (2,ec)]).nx:=⟨by rw [hgB pc hpB]; exact hpg,by rw [jE]; simp only [lid,List.length_cons,List.length_nil]; omega⟩
      have hcw':V.idsL (fun o=>decide (o<lid B3.nx 3)) cc=true:=hwc.ids_lt fun o ho=>decide_eq_true (by have:=(hcid o ho).2; simp only [lid]; omega)
      have hew':V.idsL (fun o=>decide (o<lid B3.nx 3)) ec=true:=hwe.ids_lt fun o ho=>decide_eq_true (by have:=(heid o ho).2; simp only [lid]; omega)
      refine qR [3,5,6,0,1,8] (by conv=>lhs; simp [Fr.only]) hwf (by decide) (by simp [gpP3,gpT3,gtP3,gtT3,hci3,hcr3,hcc3,hcw3,hce3,hcx3]) (by conv=>lhs; simp [gpP3,gpT3,gtP3,gtT3,hci3,hcr3,hcc3,hcw3,hce3,hcx3]) (by conv=>lhs; simp [gpP3,gpT3,gtP3,gtT3,hci3,hcr3,hcc3,hcw3,hce3,hcx3]) (by conv=>lhs; simp [gpP3,gpT3,gtP3,gtT3,hci3,hcr3,hcc3,hcw3,hce3,hcx3]) ⟨?_,St B3 [] [some (1,ps.map vint),some (4,cc),some (2,ec)],k+1,out++[⟨ps,co,⟨tk,gg,eo,gz⟩⟩],cells++[.slice (lid B3.nx 0) 0 ps.length, .slice (lid B3.nx 1) 0 code.length, .int .i64 tk, .int .i64 gg, .slice (lid B3.nx 2) 0 tt.length,vl vint gz],ids++lid B3.nx 0::(lid B3.nx 1::(ci++(lid B3.nx 2::(ei++[])))),hagB.St,jaU hwf (by simp [hcw',hew']),hpN,hotN,hkt,rfl,by rw [htk,hblk,ho],by simp [hol],hown,hndN,hidN,by simp [jE,jZ],(by refine (Jf (l:=[_,_,_])).trans ?_; simp [jE,jZ])⟩
      omega
     have hwq:=ji hqt (by omega);have heq:=hto2 _ (List.getElem_mem hqt);have hcq:(tt.take (q+1)).map (Ss.repEdge to)=(tt.take q).map (Ss.repEdge to)++[Ss.repEdge to tt[q]]:=by rw [List.take_add_one,List.getElem?_eq_getElem hqt,List.map_append]; rfl
     obtain ⟨⟨xt,xa⟩,hx2⟩ : ∃ x,tt[q]=x:=⟨_,rfl⟩
     rw [hx2] at hcq heq;simp only at heq;have hecl:ec.length=q*2:=by rw [hwe.len.1,qL]; rfl
     have hb:(q+1)*32≤140737488355328:=by omega
     have hb':q+1≤140737488355328:=by omega
     have cea:=allO_v (St B3 [] [some (4,[.nils, .nils, .nils, .nils]),some (4,[vl vint fi,vl vint fo, .slice ot 0 ts.length, .slice (lid B3.nx 2) 0 k]),some (6,cells),some (1,ps.map vint),some (6,[.slice (lid B3.nx 3) 0 ps.length, .slice (lid B3.nx 5) 0 code.length, .int .i64 tk, .int .i64 gg, .slice (lid B3.nx 6) 0 q,vl vint gz]),some (4,cc),some (2,ec),none]) xa to pc (hpc3 _) (by omega) hto;have hgal:(xa.map (Ss.putv to)).length=xa.length:=List.length_map _;generalize hga:xa.map (Ss.putv to)=ga at *
     rw [jE,jZ, ←Jf] at cea;simp only [List.cons_append,List.nil_append,List.length_cons,List.length_nil,Nat.zero_add,Nat.add_zero] at cea
     repeat first|refine QG ?_|refine QY ?_ (r:=by conv=>lhs;simp[QV,hqt,hx2])
     refine QH 14 7 ?_;refine QT ?_;refine QJ (St B3 [] []) (St B3 [] [none,none,none,none,some (6,[])]) [99,10105] ?_ (r:=by conv=>lhs; simp [QV]);refine vcallv_w (by rfl) (by rfl) (by rfl) (cea) (by rfl) (Kf (zt _ _ (by simp [subU])) (by simp [subL])) (JG (by simp [subU,shpU,subL,shpL])) ?_;refine QZ ?_;refine QI ?_ (r:=by conv=>lhs;simp[QV,rep0]);refine QZ ?_;refine QI ?_ (r:=by conv=>lhs;simp[QV,hb,hb',hecl]);refine QZ ?_;refine QI ?_;refine QW ?_
     repeat first|refine QG ?_|refine QY ?_ (r:=by conv=>lhs;simp[QV,hwq])
     show jp _ _ _ _ _ _ _;refine JO hag3.1 ?_;have hB4 : ∀ o,o<B3.nx→(St B3 [] [some (1,ga.map vint)]).get o=B3.get o:=fun o ho=>by rw [jk ho]; rfl
     have hnew:OwL (St B3 [] [some (1,ga.map vint)]) Ko [.int .i64 xt, .slice (lid B3.nx 0) 0 xa.length] (jf ⟨xt,ga⟩).cells [lid B3.nx 0]:=by
      rw [qq, ←hgal];exact .c rfl (OwL.slice (enc:=vint) (fun _=>rfl) (fun _=>rfl) ga (by rw [jv,qu]; rfl) .nil)
     have hown:OwL (St B3 [] [some (1,ga.map vint)]) (reps (q+1) Ko) (ec++[.int .i64 xt, .slice (lid B3.nx 0) 0 xa.length]) (je jf (eo++[⟨xt,ga⟩])) (ei++[lid B3.nx 0]):=by
      rw [Kx,qK];exact (hwe.mono fun o ho=>hB4 o (heid o ho).2).append hnew
     have hri:Ss.repEdge to ⟨xt,xa⟩=⟨xt,ga⟩:=by simp only [Ss.repEdge,hga]
     have hndN:(ei++[lid B3.nx 0]).Nodup:=by
      refine List.nodup_append.2 ⟨hend,by simp,fun a ha b hb e => ?_⟩;have:=(heid a ha).2;simp only [List.mem_singleton] at hb;rw [e,hb,lid] at this; omega
     have hidN : ∀ o∈ei++[lid B3.nx 0],B2.nx≤o∧o<(St B3 [] [some (1,ga.map vint)]).nx:=by
      intro o ho;rw [jE];rcases List.mem_append.1 ho with ho | ho
      ·have:=heid o ho;simp only [lid,List.length_cons,List.length_nil]; omega
      ·simp only [List.mem_singleton] at ho;rw [ho]; simp only [lid,List.length_cons,List.length_nil]; omega
     refine qR [8,0,1,2,3,4,5,10] (by conv=>lhs; simp [Fr.only]) hwf (by decide) (by simp [gpP3,gpT3,gtP3,gtT3,hci3,hcr3,hcc3,hcw3,hce3,hcx3]) (by conv=>lhs; simp [gpP3,gpT3,gtP3,gtT3,hci3,hcr3,hcc3,hcw3,hce3,hcx3]) (by conv=>lhs; simp [gpP3,gpT3,gtP3,gtT3,hci3,hcr3,hcc3,hcw3,hce3,hcx3]) (by conv=>lhs; simp [gpP3,gpT3,gtP3,gtT3,hci3,hcr3,hcc3,hcw3,hce3,hcx3]) ⟨?_,St B3 [] [some (1,ga.map vint)],q+1,eo++[⟨xt,ga⟩],ec++[.int .i64 xt, .slice (lid B3.nx 0) 0 xa.length],ei++[lid B3.nx 0],hag3.St,jaU hwf (by simp),hqt,rfl,by rw [hcq,hri,heo],by simp [heol],hown,hndN,hidN,by simp [jE,jZ],(by refine (ZE).trans ?_; simp [jE,jZ])⟩;omega
   have hwj:=ji hjt (by omega);have hcj:(code.take (j+1)).map (Ss.repIns to)=(code.take j).map (Ss.repIns to)++[Ss.repIns to code[j]]:=by rw [List.take_add_one,List.getElem?_eq_getElem hjt,List.map_append]; rfl
   have hsj:=hcode _ (List.getElem_mem hjt);obtain ⟨⟨xo,xn,xa,xu⟩,hx2⟩ : ∃ x,code[j]=x:=⟨_,rfl⟩
   rw [hx2] at hcj hsj;simp only at hsj;have hccl:cc.length=j*4:=by rw [hwc.len.1,qL]; rfl
   have hb:(j+1)*64≤140737488355328:=by omega
   have hb':j+1≤140737488355328:=by omega
   obtain ⟨LL,hLL⟩ : ∃ LL,LL=([some (4,[.nils, .nils, .nils, .nils]),some (4,[vl vint fi,vl vint fo, .slice ot 0 ts.length, .slice (lid B2.nx 2) 0 k]),some (6,cells),some (1,ps.map vint),some (6,[.slice (lid B2.nx 3) 0 ps.length, .slice (lid B2.nx 5) 0 j, .int .i64 tk, .int .i64 ta,vl jf tt,vl vint az]),some (4,cc),some (4,[.int .i64 xo, .int .u64 xn,vl vint xa,vl vint xu])]:List (Option (Nat × List V))):=⟨_,rfl⟩
   have ca1:=allO_v (St B2 [] LL) xa to pc (hpc2 _) (by omega) hto;have cc1:=ZG (St B2 [] (LL++[some (1,(xa.map (Ss.putv to)).map vint)])) xu (by omega);have hgal:(xa.map (Ss.putv to)).length=xa.length:=List.length_map _;generalize hga:xa.map (Ss.putv to)=ga at *
   rw [jE,jZ, ←Jf,hLL] at ca1 cc1;simp only [List.cons_append,List.nil_append,List.length_cons,List.length_nil,Nat.zero_add,Nat.add_zero] at ca1 cc1
   repeat first|refine QG ?_|refine QY ?_ (r:=by conv=>lhs;simp[QV,hjt,hx2])
   refine QT ?_;refine QJ (St B2 [] []) (St B2 [] [none,none,none,none,none,none,some (4,[])]) [56,59,10057,10060] ?_ (r:=by conv=>lhs; simp [QV]);refine vcallv_w (by rfl) (by rfl) (by rfl) (ca1) (by rfl) (Kf (zt _ _ (by simp [subU])) (by simp [subL])) (JG (by simp [subU,shpU,subL,shpL])) ?_;refine QZ ?_;refine JR rfl (cc1) (by rfl) (Kf (zt _ _ (by simp [subU])) (by simp [subL])) (JG (by simp [subU,shpU,subL,shpL])) ?_;refine QZ ?_;refine QI ?_;refine QZ ?_;refine QI ?_;refine QW ?_
   repeat first|refine QG ?_|refine QY ?_ (r:=by conv=>lhs;simp[QV,hb,hb',hccl,rep0,hwj])
   show jp _ _ _ _ _ _ _;refine JO hag2.1 ?_;have hB3 : ∀ o,o<B2.nx→(St B2 [] [some (1,ga.map vint),some (1,xu.map vint)]).get o=B2.get o:=fun o ho=>by rw [jk ho]; rfl
   have hnew:OwL (St B2 [] [some (1,ga.map vint),some (1,xu.map vint)]) insD [.int .i64 xo, .int .u64 xn, .slice (lid B2.nx 0) 0 xa.length, .slice (lid B2.nx 1) 0 xu.length] (jg ⟨xo,xn,ga,xu⟩).cells [lid B2.nx 0,lid B2.nx 1]:=by
    rw [jJ, ←hgal];exact .c rfl (.c rfl (OwL.slice (enc:=vint) (fun _=>rfl) (fun _=>rfl) ga (by rw [jv,qu]; rfl) (OwL.slice (enc:=vint) (fun _=>rfl) (fun _=>rfl) xu (by rw [jv,qu]; rfl) .nil)))
   have hown:OwL (St B2 [] [some (1,ga.map vint),some (1,xu.map vint)]) (reps (j+1) insD) (cc++[.int .i64 xo, .int .u64 xn, .slice (lid B2.nx 0) 0 xa.length, .slice (lid B2.nx 1) 0 xu.length]) (je jg (co++[⟨xo,xn,ga,xu⟩])) (ci++[lid B2.nx 0,lid B2.nx 1]):=by
    rw [Kx,qK];exact (hwc.mono fun o ho=>hB3 o (hcid o ho).2).append hnew
   have hri:Ss.repIns to ⟨xo,xn,xa,xu⟩=⟨xo,xn,ga,xu⟩:=by simp only [Ss.repIns,hga]
   have hndN:(ci++[lid B2.nx 0,lid B2.nx 1]).Nodup:=by
    refine List.nodup_append.2 ⟨hcnd,by simp [lid],fun a ha b hb e => ?_⟩;have:=(hcid a ha).2;simp only [List.mem_cons,List.not_mem_nil,or_false] at hb;rcases hb with rfl | rfl<;>(rw [e,lid] at this; omega)
   have hidN : ∀ o∈ci++[lid B2.nx 0,lid B2.nx 1],B.nx≤o∧o<(St B2 [] [some (1,ga.map vint),some (1,xu.map vint)]).nx:=by
    intro o ho;rw [jE];rcases List.mem_append.1 ho with ho | ho
    ·have:=hcid o ho;simp only [lid,List.length_cons,List.length_nil]; omega
    ·simp only [List.mem_cons,List.not_mem_nil,or_false] at ho;rcases ho with rfl | rfl<;>(simp only [lid,List.length_cons,List.length_nil]; omega)
   refine qR [7,8,0,1,2,3,4,10] (by conv=>lhs; simp [Fr.only]) hwf (by decide) (by simp [gpP2,gpT2,gtP2,gtT2,hci2,hcr2,hcc2,hcw2]) (by conv=>lhs; simp [gpP2,gpT2,gtP2,gtT2,hci2,hcr2,hcc2,hcw2]) (by conv=>lhs; simp [gpP2,gpT2,gtP2,gtT2,hci2,hcr2,hcc2,hcw2]) (by conv=>lhs; simp [gpP2,gpT2,gtP2,gtT2,hci2,hcr2,hcc2,hcw2]) ⟨?_,St B2 [] [some (1,ga.map vint),some (1,xu.map vint)],j+1,co++[⟨xo,xn,ga,xu⟩],cc++[.int .i64 xo, .int .u64 xn, .slice (lid B2.nx 0) 0 xa.length, .slice (lid B2.nx 1) 0 xu.length],ci++[lid B2.nx 0,lid B2.nx 1],hag2.St,jaU hwf (by simp),hjt,rfl,by rw [hcj,hri,hco],by simp [hcol],hown,hndN,hidN,by simp [jE,jZ],(by refine (Jf (l:=[_,_])).trans ?_; simp [jE,jZ])⟩;omega
end Go.Vw
/-
 Pure calls on what is owned: it stays owned. What is owned may be written to.
-/
namespace Go.Vw
open Go.RowKit
theorem VPure.thaw {P:Program} {f:FuncId} {xs xs':List V} {S S':Store} {b:Bool} (h:VPure P f xs' (.bool b)) (hg:GhostArgs xs S xs' S') (hcl : ∀ x∈xs',x.closed=true):VCalls P f xs S fun r T=>r = .bool b∧T=S:=by
 intro m β w vs hS hr;obtain ⟨m1,β1,h1,h2,h3⟩:=hg m β w vs hS hr;have h0:Holds ⟨fun _=>none,0⟩ m1 (fun _ => .fresh) w :=
  ⟨h1.imm,fun o b hb=>by simp [Loc.block?] at hb,fun o o' b hb=>by simp [Loc.block?] at hb,fun o=>by simp,fun o _=>rfl,fun o ho=>absurd ho (Nat.not_lt_zero _),fun o c hc=>by cases hc⟩
 have hr0:RepL m1 (fun _ => .fresh) xs' vs:=⟨h3.1,fun i x v hx hv => .imm ((h3.2 i x v hx hv).closed (hcl x (List.mem_of_getElem? hx)))⟩
 refine (h ⟨fun _=>none,0⟩ m1 _ w vs h0 hr0).mono ?_;rintro e w' ⟨v,x,S2,m2,β2,he,⟨rfl,rfl⟩,k1,k2,k3⟩;have hheap : ∀ b,b<w.heap.size→w'.heap[b]? = w.heap[b]? := by
  intro b hb
  cases hm:m1 b with
  | some ob=>rw [h1.imm b ob hm,k2.imm b ob (k3.imm b ob hm)]
  | none=>exact (k3.keep b hb hm fun o=>by simp [Loc.block?]).1
 have hsome : ∀ {b:Nat} {ob:Obj},w.heap[b]? = some ob→w'.heap[b]? = some ob:=by
  intro b ob hb;have hlt:b<w.heap.size:=by
   rcases Nat.lt_or_ge b w.heap.size with h | h
   ·exact h
   ·rw [Array.getElem?_eq_none h] at hb; cases hb
  rw [hheap b hlt,hb]
 have hbool:v = .bool b:=k1.inv_bool;refine ⟨v, .bool b,S,m,β,he,⟨rfl,rfl⟩,by rw [hbool]; exact .imm (.bool _),⟨fun b o hb=>hsome (hS.imm b o hb),hS.apart,hS.inj,hS.fresh,hS.gone,hS.dead,fun o c hc => ?_⟩,⟨fun _ _ h=>h,fun o _ => .inl rfl,k3.size,fun b hb hm hβ=>⟨hheap b hb,hm,hβ⟩,k3.os.trans (by rfl),k3.tape,k3.output⟩⟩;have hl:=hS.live o c hc
 cases hβ:β o with
 | fresh=>rw [hβ] at hl; exact hl.elim
 | dead=>rw [hβ] at hl; exact hl.elim
 | void=>rw [hβ] at hl; exact hl
 | lies b base s n =>
  rw [hβ] at hl;obtain ⟨e0,arr,T,e1,e2,e3,e4⟩:=hl;exact ⟨e0,arr,T,hsome e1,e2,e3,e4⟩
 | mp b =>
  rw [hβ] at hl;obtain ⟨es,clock,e1,e2,e3⟩:=hl;exact ⟨es,clock,hsome e1,e2,e3⟩
theorem OwL.write {S:Store} {ts:List Ty} {rs xs:List V} {ids:List Nat} (h:OwL S ts rs xs ids) {o s j:Nat} {cells:List V} {u v:V} (hg:S.get o=some (s,cells)) (hj:cells[j]? = some u) (hu:u.closed1=true) (hv:v.closed1=true) :
  ids.Nodup → ∃ xs',OwL (S.upd o (s,cells.set j v)) ts rs xs' ids:=by
 induction h with
 | nil=>exact fun _=>⟨[], .nil⟩
 | c h _ ih =>
  intro hn;obtain ⟨xs',h'⟩:=ih hn;exact ⟨_, .c h h'⟩
 | @s tys ts rs xs cells' ys i j' o' h' hs d t ih1 ih2 =>
  intro hn;obtain ⟨hno,hnij⟩:=List.nodup_cons.1 hn;obtain ⟨hni,hnj,_⟩:=List.nodup_append.1 hnij;obtain ⟨x2,t'⟩:=ih2 hnj
  by_cases e:o'=o
  ·subst e;rw [hg] at h'
   cases h'
   -- the object itself: its cells are owned in the store of before
   have hoi:o'∉i:=fun hm=>hno (by simp [hm])
   have d0:OwL (S.upd o' (tys.length,cells.set j v)) (reps ys.length tys) cells (ys.flatMap V.cells) i:=d.mono fun q hq=>ju fun e=>hoi (e▸hq)
   have gen : ∀ {us:List Ty} {cs zs:List V} {ii:List Nat} {T:Store} {q:Nat},OwL T us cs zs ii→cs[q]? = some u → ∃ zs',OwL T us (cs.set q v) zs' ii:=by
    intro us cs zs ii T q hh
    induction hh generalizing q with
    | nil=>intro hq; simp at hq
    | c hx tt ihh =>
     intro hq
     cases q with
     | zero=>exact ⟨_, .c hv tt⟩
     | succ q =>
      obtain ⟨zs',h2⟩:=ihh (q:=q) (by simpa using hq);exact ⟨_, .c hx h2⟩
    | s ho2 hs2 d2 t2 _ ihh =>
     intro hq
     cases q with
     | zero =>
      simp only [List.getElem?_cons_zero,Option.some.injEq] at hq;rw [←hq] at hu; simp [V.closed1] at hu
     | succ q =>
      obtain ⟨zs',h2⟩:=ihh (q:=q) (by simpa using hq);exact ⟨_, .s ho2 hs2 d2 h2⟩
   obtain ⟨zs',d1⟩:=gen d0 hj;have hzl:zs'.length=ys.length*tys.length:=by rw [d1.len.2,qL]
   obtain ⟨u1,u2,u3⟩:=JS tys.length ys.length zs' hzl d1.closed;have hw:=OwL.s (S:=S.upd o' (tys.length,cells.set j v)) (o:=o') (tys:=tys) (cells:=cells.set j v) (ys:=JA tys.length ys.length zs') zl u3 (by rw [u1,u2]; exact d1) t';rw [u1] at hw;exact ⟨_,hw⟩
  ·obtain ⟨x1,d'⟩:=ih1 hni;have hzl:x1.length=ys.length*tys.length:=by rw [d'.len.2,qL]
   obtain ⟨u1,u2,u3⟩:=JS tys.length ys.length x1 hzl d'.closed;have hw:=OwL.s (S:=S.upd o (s,cells.set j v)) (o:=o') (tys:=tys) (cells:=cells') (ys:=JA tys.length ys.length x1) (by rw [ju e]; exact h') u3 (by rw [u1,u2]; exact d') t';rw [u1] at hw;exact ⟨_,hw⟩
theorem OwL.elem {S:Store} {tys:List Ty} {cells xs:List V} {ids:List Nat} {n i:Nat} (h:OwL S (reps n tys) cells xs ids) (hi:i<n) : ∃ (c1 r c2 x1 x x2:List V) (i1 ii i2:List Nat),cells=c1++(r++c2)∧c1.length=i*tys.length∧xs=x1++(x++x2)∧ids=i1++(ii++i2)∧OwL S (reps i tys) c1 x1 i1∧OwL S tys r x ii∧OwL S (reps (n-i-1) tys) c2 x2 i2:=by
 have e1:reps n tys=reps i tys++(tys++reps (n-i-1) tys):=by
  rw [←zI, ←jch]; congr 1; omega
 rw [e1] at h;obtain ⟨r1,r2,x1,x2,i1,i2,rfl,rfl,rfl,k1,k2⟩:=h.split;obtain ⟨r3,r4,x3,x4,i3,i4,rfl,rfl,rfl,k3,k4⟩:=k2.split;exact ⟨r1,r3,r4,x1,x3,x4,i1,i3,i4,rfl,by rw [k1.len.1,qL],rfl,rfl,k1,k3,k4⟩
end Go.Vw
namespace Go.Vw
open Go.Proofs Go.RowKit
theorem OwL.cell {T:Store} {us:List Ty} {cs zs:List V} {ii:List Nat} {u v:V} (h:OwL T us cs zs ii) (hu:u.closed1=true) (hv:v.closed1=true) : ∀ {q:Nat},cs[q]? = some u → ∃ zs',OwL T us (cs.set q v) zs' ii:=by
 induction h with
 | nil=>intro q hq; simp at hq
 | c hx tt ihh =>
  intro q hq
  cases q with
  | zero=>exact ⟨_, .c hv tt⟩
  | succ q =>
   obtain ⟨zs',h2⟩:=ihh (q:=q) (by simpa using hq);exact ⟨_, .c hx h2⟩
 | s ho2 hs2 d2 t2 _ ihh =>
  intro q hq
  cases q with
  | zero =>
   simp only [List.getElem?_cons_zero,Option.some.injEq] at hq;rw [←hq] at hu; simp [V.closed1] at hu
  | succ q =>
   obtain ⟨zs',h2⟩:=ihh (q:=q) (by simpa using hq);exact ⟨_, .s ho2 hs2 d2 h2⟩
def At (T:Store) (o p:Nat) (w:V):Prop := ∃ s cs,T.get o=some (s,cs)∧cs[p]? = some w
theorem At.write {T:Store} {o p o' s q a b c:Nat} {cs:List V} {u v:V} (h:At T o p (.slice a b c)) (hg:T.get o'=some (s,cs)) (hq:cs[q]? = some u) (hu:u.closed1=true):At (T.upd o' (s,cs.set q v)) o p (.slice a b c):=by
 obtain ⟨s1,cs1,h1,h2⟩:=h
 by_cases e:o=o'
 ·subst e;rw [hg] at h1
  cases h1
  refine ⟨s,cs.set q v,zl, ?_⟩;have hne:q≠p:=fun e=>by
   subst e;rw [hq] at h2
   cases h2
   simp [V.closed1] at hu
  rw [List.getElem?_set_ne hne]; exact h2
 ·exact ⟨s1,cs1,by rw [ju e]; exact h1,h2⟩
inductive Lim:V→Prop
 | c {x:V} (h : ∀ ys,x ≠ .list ys):Lim x
 | l {ys:List V} (h:ys.length≤140737488355328) (k : ∀ y∈ys, ∀ z∈y.cells,Lim z):Lim (.list ys)
def LimO (T:Store) (ids:List Nat):Prop := ∀ o∈ids, ∀ w cs,T.get o=some (w,cs)→cs.length≤140737488355328*w
theorem OwL.lim {T:Store} {us:List Ty} {cs zs:List V} {ii:List Nat} (h:OwL T us cs zs ii):(∀ z∈zs,Lim z)→LimO T ii:=by
 induction h with
 | nil=>intro _ o ho; simp at ho
 | c _ _ ih=>exact fun hz=>ih fun z hz'=>hz z (by simp [hz'])
 | @s tys ts rs xs cells ys i j o ho hs d t ihd iht =>
  intro hz;have h1:Lim (.list ys):=hz _ (by simp)
  cases h1 with
  | c h=>exact absurd rfl (h ys)
  | l hl hk =>
   intro o' ho' w cs hg;rcases List.mem_cons.1 ho' with rfl | h2
   ·rw [ho] at hg
    cases hg
    rw [d.len.1,qL];exact Nat.mul_le_mul_right _ hl
   ·rcases List.mem_append.1 h2 with h2 | h2
    ·refine ihd (fun z hz' => ?_) o' h2 w cs hg;obtain ⟨y,hy,hzy⟩:=List.mem_flatMap.1 hz';exact hk y hy z hzy
    ·exact iht (fun z hz'=>hz z (by simp [hz'])) o' h2 w cs hg
theorem WM {l:List Int} (h:l.length≤140737488355328):Lim (vl vint l):=by
 refine .l (by simpa using h) fun y hy z hz => ?_
 obtain ⟨i,_,rfl⟩:=List.mem_map.1 hy;simp only [vint,V.cells,List.mem_singleton] at hz;subst hz;exact .c fun _ e=>by cases e
theorem lim_block {b:Ss.Block} (h:b.Fits) : ∀ z∈(jb b).cells,Lim z:=by
 obtain ⟨hp,⟨hc,hc2⟩,_,_,⟨ht,ht2⟩,hr⟩:=h;intro z hz;simp only [jb,V.cells,List.mem_cons,List.not_mem_nil,or_false] at hz;rcases hz with rfl | rfl | rfl | rfl | rfl | rfl
 ·exact WM hp.1
 ·refine .l (by simpa using hc) fun y hy z hz => ?_
  obtain ⟨x,hx,rfl⟩:=List.mem_map.1 hy;obtain ⟨_,_,ha,ho⟩:=hc2 x hx;simp only [jg,V.cells,List.mem_cons,List.not_mem_nil,or_false] at hz;rcases hz with rfl | rfl | rfl | rfl
  ·exact .c fun _ e=>by cases e
  ·exact .c fun _ e=>by cases e
  ·exact WM ha.1
  ·exact WM ho.1
 ·exact .c fun _ e=>by cases e
 ·exact .c fun _ e=>by cases e
 ·refine .l (by simpa using ht) fun y hy z hz => ?_
  obtain ⟨x,hx,rfl⟩:=List.mem_map.1 hy;obtain ⟨_,ha⟩:=ht2 x hx;simp only [jf,V.cells,List.mem_cons,List.not_mem_nil,or_false] at hz;rcases hz with rfl | rfl
  ·exact .c fun _ e=>by cases e
  ·exact WM ha.1
 ·exact WM hr.1
structure Shp (S T0:Store) (ob n:Nat) (ids:List Nat) (T1:Store):Prop where
 nx:T1.nx=T0.nx
 wf:T1.Wf
 old : ∀ o,o<S.nx→T1.get o=S.get o
 own : ∃ cells xs,T1.get ob=some (6,cells)∧OwL T1 (reps n blkD) cells xs ids
 lim:LimO T1 ids
theorem Shp.write {S T0 T1:Store} {ob n o s q:Nat} {ids:List Nat} {cs:List V} {u v:V} (h:Shp S T0 ob n ids T1) (hnd:(ob::ids).Nodup) (hid : ∀ o∈ob::ids,S.nx≤o∧o<T0.nx) (ho:o∈ob::ids) (hg:T1.get o=some (s,cs)) (hq:cs[q]? = some u) (hu:u.closed1=true) (hv:v.closed1=true) :
  Shp S T0 ob n ids (T1.upd o (s,cs.set q v)):=by
 obtain ⟨h1,h2,h3,⟨cells,xs,h4,h5⟩,h7⟩:=h;have hon:=hid o ho;have hcw:V.idsL (fun o=>decide (o<T1.nx)) (cs.set q v)=true:=by
  have:=h2.ids o _ hg;simp only [qS,List.all_eq_true] at this ⊢;intro x hx;rcases List.mem_or_eq_of_mem_set hx with hx | rfl
  ·exact this x hx
  ·exact Wr hv _
 refine ⟨h1,jbk h2 (by omega) hcw,fun o' ho' => ?_, ?_,fun o' ho' w c hgo => ?_⟩
 ·rw [ju (by omega)]; exact h3 o' ho'
 ·have hn2:=List.nodup_cons.1 hnd
  by_cases e:o=ob
  ·subst e;rw [hg] at h4
   cases h4
   obtain ⟨xs',h6⟩:=h5.cell hu hv hq;exact ⟨cs.set q v,xs',zl,h6.mono fun o' ho'=>ju fun e=>hn2.1 (e▸ho')⟩
  ·obtain ⟨xs',h6⟩:=h5.write hg hq hu hv hn2.2;exact ⟨cells,xs',by rw [ju (fun e'=>e e'.symm)]; exact h4,h6⟩
 ·by_cases e:o'=o
  ·subst e;rw [zl] at hgo
   cases hgo
   rw [List.length_set];exact h7 o' ho' _ _ hg
  ·rw [ju e] at hgo;exact h7 o' ho' w c hgo
theorem insD_inv {T:Store} {r x:List V} {ii:List Nat} (h:OwL T insD r x ii) : ∃ (u v:V) (oa na ou nu:Nat) (ca:List V),r=[u,v, .slice oa 0 na, .slice ou 0 nu]∧u.closed1=true∧oa∈ii∧T.get oa=some (1,ca)∧ca.length=na ∧ ∀ c∈ca,c.closed1=true:=by
 cases h with
 | c h1 h=>cases h with
  | c h2 h=>cases h with
   | @s _ _ _ _ ca ys i j oa ho hs d h=>cases h with
    | s ho2 hs2 d2 h=>cases h with
     | nil =>
      have hl:ca.length=ys.length:=by rw [d.len.1,qL]; simp
      have e:=zf (n:=ys.length*1) (by rw [←KW]; exact d);exact ⟨_,_,oa,_,_,_,ca,rfl,h1,by simp,ho,hl,by rw [e.1]; exact d.closed⟩
theorem edgeD_inv {T:Store} {r x:List V} {ii:List Nat} (h:OwL T Ko r x ii) : ∃ (u:V) (oa na:Nat),r=[u, .slice oa 0 na]∧u.closed1=true:=by
 cases h with
 | c h1 h=>cases h with
  | s ho hs d h=>cases h with
   | nil=>exact ⟨_,_,_,rfl,h1⟩
theorem blkD_inv {T:Store} {r x:List V} {ii:List Nat} (h:OwL T blkD r x ii) : ∃ (op np oc nc oe ne:Nat) (u a z:V) (cc ce xi xe:List V) (ci ei:List Nat),r=[.slice op 0 np, .slice oc 0 nc,u,a, .slice oe 0 ne,z]∧u.closed1=true∧oc∈ii∧T.get oc=some (4,cc)∧OwL T (reps nc insD) cc xi ci∧(∀ o∈ci,o∈ii) ∧
  oe∈ii∧T.get oe=some (2,ce)∧OwL T (reps ne Ko) ce xe ei:=by
 cases h with
 | s ho hs d h=>cases h with
  | s ho2 hs2 d2 h=>cases h with
   | c h1 h=>cases h with
    | c h2 h=>cases h with
     | s ho3 hs3 d3 h=>cases h with
      | c h3 h=>cases h with
       | nil=>exact ⟨_,_,_,_,_,_,_,_,_,_,_,_,_,_,_,rfl,h1,by simp,ho2,d2,fun o ho=>by simp [ho],by simp,ho3,d3⟩
theorem zC {c1 r c2:List V} {i m p:Nat} {w:V} (hc:c1.length=i*m) (hr:r[p]? = some w):(c1++(r++c2))[i*m+p]? = some w:=by
 have hp:p<r.length:=(List.getElem?_eq_some_iff.1 hr).1;rw [←hc,List.getElem?_append_right (by omega),Nat.add_sub_cancel_left,List.getElem?_append_left hp];exact hr
theorem Shp.block {S T0 T1:Store} {ob n k:Nat} {ids:List Nat} (h:Shp S T0 ob n ids T1) (hk:k<n) : ∃ (cells:List V) (oc nc oe ne:Nat) (u:V) (cc ce:List V),T1.get ob=some (6,cells)∧cells[k*6+1]? = some (.slice oc 0 nc)∧cells[k*6+2]? = some u∧u.closed1=true∧cells[k*6+4]? = some (.slice oe 0 ne) ∧
  oc∈ids∧T1.get oc=some (4,cc)∧oe∈ids∧T1.get oe=some (2,ce)∧nc≤140737488355328∧ne≤140737488355328∧(∀ j<nc, ∃ (u:V) (oa na:Nat) (ca:List V),cc[j*4]? = some u∧u.closed1=true∧cc[j*4+2]? = some (.slice oa 0 na)∧oa∈ids∧T1.get oa=some (1,ca)∧ca.length=na∧na≤140737488355328 ∧ ∀ c∈ca,c.closed1=true) ∧ ∀ q<ne, ∃ u:V,ce[q*2]? = some u∧u.closed1=true:=by
 obtain ⟨cells,xs,h4,h5⟩:=h.own;obtain ⟨c1,r,c2,x1,x,x2,i1,ii,i2,rfl,hl,rfl,rfl,k1,k2,k3⟩:=h5.elem hk;obtain ⟨op,np,oc,nc,oe,ne,u,a,z,cc,ce,xi,xe,ci,ei,rfl,hu,hoc,hcc,hci,hcs,hoe,hce,hei⟩:=blkD_inv k2;refine ⟨_,oc,nc,oe,ne,u,cc,ce,h4,zC (m:=6) (p:=1) hl rfl,zC (m:=6) (p:=2) hl rfl,hu,zC (m:=6) (p:=4) hl rfl,by simp [hoc],hcc,by simp [hoe],hce, ?_, ?_,fun j hj => ?_,fun q hq => ?_⟩
 ·have h8:=h.lim oc (by simp [hoc]) _ _ hcc;have h9:cc.length=nc*4:=by rw [hci.len.1,qL]; rfl
  omega
 ·have h8:=h.lim oe (by simp [hoe]) _ _ hce;have h9:ce.length=ne*2:=by rw [hei.len.1,qL]; rfl
  omega
 ·obtain ⟨d1,s,d2,y1,y,y2,j1,jj,j2,rfl,hl2,rfl,rfl,m1,m2,m3⟩:=hci.elem hj;obtain ⟨u',v',oa,na,ou,nu,ca,rfl,hu',hoa,hca,hcl,hcc'⟩:=insD_inv m2;exact ⟨u',oa,na,ca,by have:=zC (m:=4) (p:=0) (c2:=d2) hl2 (r:=[u',v', .slice oa 0 na, .slice ou 0 nu]) rfl; simpa using this,hu',zC (m:=4) (p:=2) hl2 rfl,by have:=hcs oa (by simp [hoa]); simp [this],hca,hcl,by have:=h.lim oa (by have:=hcs oa (by simp [hoa]); simp [this]) _ _ hca; omega,hcc'⟩
 ·obtain ⟨d1,s,d2,y1,y,y2,j1,jj,j2,rfl,hl2,rfl,rfl,m1,m2,m3⟩:=hei.elem hq;obtain ⟨u',oa,na,rfl,hu'⟩:=edgeD_inv m2;exact ⟨u',by have:=zC (m:=2) (p:=0) (c2:=d2) hl2 (r:=[u', .slice oa 0 na]) rfl; simpa using this,hu'⟩
theorem At.same {T:Store} {o p s:Nat} {cs:List V} {w w':V} (h:At T o p w) (hg:T.get o=some (s,cs)) (hw:cs[p]? = some w'):w'=w:=by
 obtain ⟨s1,cs1,h1,h2⟩:=h;rw [hg] at h1
 cases h1
 rw [hw] at h2;exact Option.some.inj h2
theorem Wt {B:Store} {o:Nat} {c:Nat × List V} {l:List (Option (Nat × List V))} (ho:o<B.nx):(St B [] l).upd o c=St (B.upd o c) [] l:=by
 refine Store.ext' (funext fun o' => ?_) rfl;have e:(B.upd o c).nx=B.nx:=rfl;rw [qn,zV,zV,e,qn]
 by_cases h:o'=o
 ·subst h; simp [ho,uGet]
 ·by_cases h2:o'<B.nx
  ·simp [h,h2,uGet]
  ·simp [h,h2,uGet]
def idxG {α ρ:Type} (p:α→ρ→Bool) (nx:α→ρ→α):α→List ρ→Nat→Int × α
 | a,[],_=>(-1,a)
 | a,r::rs,k=>if p a r then ((k:Int),nx a r) else idxG p nx (nx a r) rs (k+1)
def delG {α ρ:Type} (p:α→ρ→Bool) (nx:α→ρ→α):α→List ρ→List ρ × α
 | a,[]=>([],a)
 | a,r::rs=>if p a r then delG p nx (nx a r) rs else (r::(delG p nx (nx a r) rs).1,(delG p nx (nx a r) rs).2)
theorem qY {m:Nat} : ∀ {rows:List (List V)},(∀ r∈rows,r.length=m)→rows.flatten.length=rows.length*m
 | [],_=>by simp
 | r::rs,h=>by rw [List.flatten_cons,List.length_append,h r (by simp),qY fun x hx=>h x (by simp [hx]),List.length_cons,Nat.succ_mul]; omega
theorem jaE {m:Nat} : ∀ {rows:List (List V)} (k:Nat),(∀ r∈rows,r.length=m)→rows.flatten.take (k*m)=(rows.take k).flatten
 | [],k,_=>by simp
 | r::rs,0,h=>by simp
 | r::rs,k+1,h=>by
  have hr:=h r (by simp);rw [List.flatten_cons,List.take_succ_cons,List.flatten_cons, ←jaE k fun x hx=>h x (by simp [hx]),Nat.succ_mul,List.take_append,hr];rw [show k*m+m-m=k*m by omega,List.take_of_length_le (by rw [hr]; omega)]
theorem flat_drop {m:Nat} {rows:List (List V)} (k:Nat) (h : ∀ r∈rows,r.length=m):rows.flatten.drop (k*m)=(rows.drop k).flatten:=by
 have e:=List.take_append_drop (k*m) rows.flatten;have e2:rows.flatten=(rows.take k).flatten++(rows.drop k).flatten:=by rw [←List.flatten_append,List.take_append_drop]
 rw [jaE k h] at e;exact List.append_cancel_left (e.trans e2)
theorem WT {m:Nat} {rows:List (List V)} {k:Nat} (h : ∀ r∈rows,r.length=m) (hk:k<rows.length):(rows.flatten.drop (k*m)).take m=rows[k]:=by
 rw [flat_drop k h,List.drop_eq_getElem_cons hk,List.flatten_cons,List.take_append_of_le_length (by rw [h _ (List.getElem_mem hk)]; omega),List.take_of_length_le (by rw [h _ (List.getElem_mem hk)]; omega)]
section
variable {α:Type} (I:α→Store→Prop) (p:α→List V→Bool) (nx:α→List V→α) {oc N:Nat} {rows:List (List V)} {fid:FuncId} {caps:List V}
end
end Go.Vw
/-
 What the nearest ones tell.
-/
namespace Go.Vw.G
open Go.Vw
structure NearOk (g:List (List Nat)) (near:List Int):Prop where
 len:near.length=g.length
 zero:nd near 0 = -1
 out : ∀ x,x<g.length→x∉order g→nd near x = -1
 near : ∀ x∈order g,x≠0 → ∃ p:Nat,nd near x=p∧p∈order g∧p≠x∧Dom g (order g) p x ∧ ∀ d,Dom g (order g) d x→d≠x→Dom g (order g) d p
section
variable {g:List (List Nat)}
theorem rNear_ok (hg:Ok g):NearOk g (rNear g):=by
 obtain ⟨F,K,nearF,h1,h2⟩:=chk_ends hg;rw [near_eq hg h2];have h0:0<nearF.length:=by rw [h2.len]; exact hg.pos
 have hset:=nd_set h0 (-1);refine ⟨by simpa using h2.len,by rw [hset,if_pos rfl],fun x hx hxl => ?_,fun x hx hx0 => ?_⟩
 ·rw [hset]; split
  ·rfl
  ·exact h2.out x hx hxl
 ·rw [hset,if_neg hx0]; exact h2.near x hx hx0
theorem dom1_out {near:List Int} {a x:Nat} (hx:x<near.length) (h:nd near x = -1) : ∀ n,dom1 near a (n+1) x=decide (a=x):=by
 intro n;have hok:okIx near (x:Int):=⟨by omega,by omega⟩
 rw [dom1,if_pos hok]
 by_cases e:a=x
 ·subst e; simp
 ·have e' : ¬ (a:Int)=(x:Int):=by omega
  rw [if_neg e'];have:near.getD x 0 = -1:=h;simp only [Int.toNat_natCast,this];have hno : ¬ okIx near (-1):=fun h=>by have:=h.1; omega
  cases n with
  | zero=>simp [dom1,e]
  | succ n=>rw [dom1,if_neg hno]; simp [e]
theorem dom1_iff (hg:Ok g) {near:List Int} (hN:NearOk g near) (a:Nat) : ∀ (n b:Nat),b∈order g→rk g (order g) b<n→(dom1 near a n b=true↔Dom g (order g) a b)
 | 0,b,_,h=>by omega
 | n+1,b,hb,h=>by
  have ho:=order_ok hg;have hbl:=ho.lt b hb
  by_cases hb0:b=0
  ·subst hb0;rw [dom1_out (by rw [hN.len]; exact hbl) hN.zero];simp only [decide_eq_true_eq];constructor
   ·intro e; subst e; exact Dom.self 0
   ·intro hd
    by_cases e:a=0
    ·exact e
    ·exact absurd (Way.start 0 (Ne.symm e)) (hd 0)
  ·obtain ⟨p,q1,q2,q3,q4,q5⟩:=hN.near b hb hb0;have hok:okIx near (b:Int):=⟨by omega,by rw [hN.len]; omega⟩
   rw [dom1,if_pos hok]
   by_cases e:a=b
   ·subst e;simp only [if_true,true_iff];exact Dom.self a
   ·have e' : ¬ (a:Int)=(b:Int):=by omega
    have hnd:near.getD b 0=(p:Int):=q1;rw [if_neg e'];simp only [Int.toNat_natCast,hnd];have hr:=q4.rk ho q2 hb q3;rw [dom1_iff hg hN a n p q2 (by omega)];exact ⟨fun hd=>hd.trans q4,fun hd=>q5 a hd e⟩
theorem zx (hg:Ok g) {near:List Int} (hN:NearOk g near) {a b:Nat} (ha:a<g.length) (hb:b<g.length):dominates near a b=true↔(a∈order g∧b∈order g∧Dom g (order g) a b)∨a=b:=by
 have ho:=order_ok hg;have hoka:okIx near (a:Int):=⟨by omega,by rw [hN.len]; omega⟩
 rw [dominates,if_pos hoka];have hm:=hg.max
 by_cases hbl:b∈order g
 ·have hr:rk g (order g) b<257:=by
   have h1:=rk_lt ho hbl;obtain ⟨t,k1,k2,k3⟩:=order_ends hg;have:(order g).length≤g.length:=by simp [order,k1]; exact k2
   omega
  rw [dom1_iff hg hN a 257 b hbl hr];constructor
  ·exact fun h => .inl ⟨h.mem ho hbl,hbl,h⟩
  ·rintro (h | h)
   ·exact h.2.2
   ·subst h; exact Dom.self a
 ·rw [dom1_out (n:=256) (by rw [hN.len]; exact hb) (hN.out b hb hbl)];simp only [decide_eq_true_eq];constructor
  ·exact .inr
  ·rintro (h | h)
   ·exact absurd h.2.1 hbl
   ·exact h
theorem ways (hg:Ok g) {near:List Int} (hN:NearOk g near) {a b:Nat} (ha:a<g.length) (hb:b<g.length) :
  dominates near a b=(((without g none).getD a false&&(without g none).getD b false && !((without g (some a)).getD b false))||decide (a=b)):=by
 have h1:=zx hg hN ha hb;have w1:=without_none hg a;have w2:=without_none hg b;have w3:=YS hg (b:=b) ha;unfold Met at w1 w2 w3;rw [Bool.eq_iff_iff,h1];simp only [Bool.or_eq_true,Bool.and_eq_true,Bool.not_eq_true',decide_eq_true_eq,w1,w2];constructor
 ·rintro (⟨k1,k2,k3⟩ | h)
  ·refine .inl ⟨⟨k1,k2⟩, ?_⟩
   cases hx:(without g (some a)).getD b false with
   | false=>rfl
   | true=>obtain ⟨_,k,hw⟩:=w3.1 hx; exact absurd hw (k3 k)
  ·exact .inr h
 ·rintro (⟨⟨k1,k2⟩,k3⟩ | h)
  ·by_cases e:b=a
   ·exact .inr e.symm
   ·refine .inl ⟨k1,k2,fun k hw => ?_⟩;have:=w3.2 ⟨e,k,hw⟩;rw [k3] at this; cases this
  ·exact .inr h
def atTo (n:Nat) (l:List Nat):Nat→List Nat
 | 0=>List.replicate n 0
 | k+1=>(atTo n l k).set (l.getD k 0) (k+1)
end
end Go.Vw.G
namespace Ss
open Go.Vw.G
def chain (near:List Int):Nat→Int→List Int
 | 0,_=>[]
 | n+1,b=>if okIx near b then b::chain near n (near.getD b.toNat 0) else []
def covers (y x:Ins):Bool:=decide (y.op=257)&&decide (x.op=257)&&decide (y.args.getD 0 0=x.args.getD 0 0)&&decide (x.n≤y.n)
abbrev Kept:=List (Ins × Int)
def rcov (near:List Int) (n:Int) (all:Kept) (x:Ins):Bool:=all.any fun p=>covers p.1 x&&dominates near p.2 n
def rcode (near:List Int) (n:Int):Kept→List Ins→List Ins × Kept
 | all,[]=>([],all)
 | all,x::r=>if rcov near n all x then rcode near n all r else (x::(rcode near n (if x.op=257 then all++[(x,n)] else all) r).1,(rcode near n (if x.op=257 then all++[(x,n)] else all) r).2)
def rstep (near:List Int) (st:List Block × Kept) (n:Nat):List Block × Kept :=
 (st.1.set n ⟨(st.1.getD n default).params,(rcode near n st.2 (st.1.getD n default).code).1,(st.1.getD n default).term⟩,(rcode near n st.2 (st.1.getD n default).code).2)
def bce (near:List Int) (order:List Nat) (f:Fn):Fn:=⟨f.sig,f.types,(order.foldl (rstep near) (f.blocks,[])).1⟩
/-! ### The same by a map of places -/
abbrev Far:=List ((Int × Int) × Int)
def farGet (k:Int × Int):Far→Int
 | []=>0
 | (k',w)::r=>if k=k' then w else farGet k r
def farPut (k:Int × Int) (w:Int):Far→Far
 | []=>[(k,w)]
 | (k',w')::r=>if k=k' then (k,w)::r else (k',w')::farPut k w r
def pcov (near:List Int) (n:Int) (M:Far) (x:Ins):Bool:=decide (x.op=257)&&(chain near 257 n).any fun up=>decide (x.n<farGet (x.args.getD 0 0,up) M)
def pnext (near:List Int) (n:Int) (M:Far) (x:Ins):Far:=if x.op=257∧pcov near n M x=false then farPut (x.args.getD 0 0,n) (x.n+1) M else M
def pcode (near:List Int) (n:Int):Far→List Ins→List Ins × Far
 | M,[]=>([],M)
 | M,x::r=>if pcov near n M x then pcode near n (pnext near n M x) r else (x::(pcode near n (pnext near n M x) r).1,(pcode near n (pnext near n M x) r).2)
def pstep (near:List Int) (st:List Block × Far) (n:Nat):List Block × Far :=
 (st.1.set n ⟨(st.1.getD n default).params,(pcode near n st.2 (st.1.getD n default).code).1,(st.1.getD n default).term⟩,(pcode near n st.2 (st.1.getD n default).code).2)
def pbce (near:List Int) (order:List Nat) (f:Fn):Fn:=⟨f.sig,f.types,(order.foldl (pstep near) (f.blocks,[])).1⟩
def Tells (all:Kept) (M:Far):Prop := ∀ (v b N:Int),0≤N→(N<farGet (v,b) M ↔ ∃ p∈all,p.2=b∧p.1.op=257∧p.1.args.getD 0 0=v∧N≤p.1.n)
theorem code_sub (near:List Int) (n:Int) : ∀ (code:List Ins) (all:Kept), ∀ x∈(rcode near n all code).1,x∈code
 | [],_,x,h=>by simp [rcode] at h
 | y::r,all,x,h=>by
  rw [rcode] at h;split at h
  ·exact List.mem_cons_of_mem _ (code_sub near n r all x h)
  ·rcases List.mem_cons.1 h with rfl | h
   ·simp
   ·exact List.mem_cons_of_mem _ (code_sub near n r _ x h)
end Ss
