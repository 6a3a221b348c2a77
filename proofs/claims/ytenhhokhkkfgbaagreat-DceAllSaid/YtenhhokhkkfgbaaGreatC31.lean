import Derived.Test.YtenhhokhkkfgbaaGreatC30
import Derived.Test.YtenhhokhkkfgbaaGreatC28
import Derived.Test.YtenhhokhkkfgbaaGreatC20
import Derived.Test.YtenhhokhkkfgbaaGreatC19
import Derived.Test.YtenhhokhkkfgbaaGreatC17
import Derived.Test.YtenhhokhkkfgbaaGreatC26
import Derived.Test.YtenhhokhkkfgbaaGreatC27
/-
  Part of the proof (texts DRRnd, BRun, SMoreQ, SLMore, SRSame, SRSame2, SLItself, BPure, BThin).
-/
set_option linter.unusedVariables false
set_option linter.unusedSimpArgs false
namespace Go.Vw
open Go.Proofs Go.RowKit
set_option maxRecDepth 10000
set_option maxHeartbeats 4000000
theorem RRound_v (f:Ss.Fn) (hf:f.Fits) (hs:f.small=true) (hd:Ss.DOk f) (pm on N:Nat) (tu:Bool) (o:List Bool) (S:Store) (hT:f.types.length=N) (hN:o.length=N)
  (gm:S.get pm=some (mkC (vl vint f.sig.inn) (vl vint f.sig.out) (vl vint f.types) (vl encBlock f.blocks) on N tu)) (go:S.get on=some (1,o.map V.bool)) (hdo:on≠pm) :
  VCalls Tryz.prog 76 [.ptr pm 0] S fun v T=>v = .tuple []∧T=St S [(pm,some (mkC (vl vint f.sig.inn) (vl vint f.sig.out) (vl vint f.types) (vl encBlock f.blocks) on N (Ss.fl tu o (Ss.rRound f o)))),(on,some (1,(Ss.rRound f o).map V.bool))] []:=by
 have hsm:=(Ss.small_iff f).1 hs
 have hh:=hsm.1
 simp only [Ss.Fn.heads,Bool.and_eq_true,decide_eq_true_eq] at hh
 obtain ⟨⟨⟨hh1,hh2⟩,_⟩,_⟩:=hh
 have hfb:=hf.2.2.2
 have hRB:Ss.rRound f=fun o=>f.blocks.foldl (Ss.rBlock f.blocks) o:=rfl
 rw [hRB]
 obtain ⟨_,dout,done,darg,dpar,dtargs,dtarg,deargs,detos,_,_⟩:=hd
 obtain ⟨⟨fi,fo⟩,ts,bs⟩:=f
 simp only at *
 rw [hT] at dout darg dpar dtargs dtarg deargs
 have hh1':N≤4096:=by omega
 clear hs hRB hf
 have hslice : ∀ (S:Store) (l:List Int) (j:Nat) (a:Int),j<l.length→l[j]? = some a→opSlice 1 S (vl vint l) (some (.int .i64 (j:Int))) (some (.int .i64 ((j:Int)+1))) none=some (vl vint [a]):=fun S l j a hj ha=>by
  have e:((l.map vint).take (j+1)).drop j=[vint a]:=by
   rw [←List.map_take, ←List.map_drop,List.drop_take,List.drop_eq_getElem_cons hj]
   have:l[j]=a:=by rw [List.getElem?_eq_getElem hj] at ha; exact Option.some.inj ha
   simp [this]
  have h2:j+1≤l.length:=hj
  have h3:((j:Int)+1).toNat=j+1:=by omega
  have h4:(0:Int)≤(j:Int)+1:=by omega
  simp only [opSlice,boundOf,vl,h3,h4,Int.natCast_nonneg,if_true,Int.toNat_natCast]
  rw [if_pos ⟨by omega,by simpa using h2,by simp,by simp, .inr (by simp)⟩,e]
  simp
 refine vcalls_start (c:=bodyOf Tryz.f76) Tryz.func76 rfl rfl (by simp [Tryz.ntmps76]) ?_
 rw [Tryz.ntmps76]
 intro hwf
 have lm:=old_lt hwf gm
 have lo:=old_lt hwf go
 have bm:=fun u l => @St_old S u l pm lm
 have bo:=fun u l => @St_old S u l on lo
 have hd2:pm≠on:=Ne.symm hdo
 have mP:=fun ks=>gcP_old (n:=S.nx) ks lm
 have mT:=fun ks=>gcTo_old (n:=S.nx) ks lm
 have oP:=fun ks=>gcP_old (n:=S.nx) ks lo
 have oT:=fun ks=>gcTo_old (n:=S.nx) ks lo
 obtain ⟨stO,hstO⟩ : ∃ g:List Bool→List (Option (Nat × List V))→Store,g=fun o1 l=>St S [(pm,some (mkC (vl vint fi) (vl vint fo) (vl vint ts) (vl encBlock bs) on N (Ss.fl tu o o1))),(on,some (1,o1.map V.bool))] l:=⟨_,rfl⟩
 have cmark : ∀ (o1:List Bool) (l:List Int) (m:List (Option (Nat × List V))),Ss.Inc o o1→l.length≤4096→(∀ v∈l,Ss.InR N v)→VCalls Tryz.prog 75 [.ptr pm 0,vl vint l] (St S [(pm,some (mkC (vl vint fi) (vl vint fo) (vl vint ts) (vl encBlock bs) on N (Ss.fl tu o o1))),(on,some (1,o1.map V.bool))] m) fun v T=>v = .tuple []∧T=St S [(pm,some (mkC (vl vint fi) (vl vint fo) (vl vint ts) (vl encBlock bs) on N (Ss.fl tu o (Ss.marks o1 l)))),(on,some (1,(Ss.marks o1 l).map V.bool))] m:=fun o1 l m hi h1 h2=>by
  have:=RMark_v (vl vint fi) (vl vint fo) (vl vint ts) (vl encBlock bs) rfl rfl rfl rfl pm on N (Ss.fl tu o o1) o1 l (St S [(pm,some (mkC (vl vint fi) (vl vint fo) (vl vint ts) (vl encBlock bs) on N (Ss.fl tu o o1))),(on,some (1,o1.map V.bool))] m) (by rw [←hi.1]; exact hN) (by omega) h2 ((bm _ _).trans (by simp [uGet])) ((bo _ _).trans (by simp [uGet,hdo])) hdo
  rw [Ss.fl_trans hi (Ss.marks_inc _ _)] at this
  refine this.mono ?_
  rintro v T ⟨rfl,rfl⟩
  refine ⟨rfl, ?_⟩
  refine Store.ext' (funext fun q => ?_) (by simp [St_nx,lid])
  rw [St_at]
  by_cases hq:q<(St S [(pm,some (mkC (vl vint fi) (vl vint fo) (vl vint ts) (vl encBlock bs) on N (Ss.fl tu o o1))),(on,some (1,o1.map V.bool))] m).nx
  ·rw [if_pos hq]
   by_cases hq2:q<S.nx
   ·rw [St_at,St_at,if_pos hq2,if_pos hq2]
    simp only [uGet]
    by_cases e1:q=pm
    ·simp [e1]
    ·by_cases e2:q=on
     ·simp [e2,hdo]
     ·simp [e1,e2]
   ·have e1:q≠pm:=by omega
    have e2:q≠on:=by omega
    rw [St_at,St_at,if_neg hq2,if_neg hq2]
    simp only [uGet,if_neg e1,if_neg e2]
  ·have hq3 : ¬ q<S.nx+m.length:=by simpa only [St_nx,lid] using hq
   rw [if_neg hq,St_at,if_neg (show ¬ q<S.nx by omega),List.getElem?_eq_none (l:=m) (show m.length≤q-S.nx by omega)]
   simp
 clear hstO
 clear stO
 repeat (first|refine QG ?_|refine QX (r:=by conv=>lhs;simp[-List.map_set,QV,bm]) (k:=?_))
 repeat refine QS ?_
 refine vw_loopAt [0,2] rfl (fun c σ S' => ∃ (k:Nat) (o1:List Bool),k≤bs.length∧c=bs.length-k∧Ss.Inc o o1∧(bs.drop k).foldl (Ss.rBlock bs) o1=bs.foldl (Ss.rBlock bs) o∧σ=[(0, .ptr pm 0),(2,vnat k)]∧S'=St S [(pm,some (mkC (vl vint fi) (vl vint fo) (vl vint ts) (vl encBlock bs) on N (Ss.fl tu o o1))),(on,some (1,o1.map V.bool))] []) bs.length ?_ ?_
 ·refine ⟨0,o,by omega,rfl, .refl _,rfl,by simp [Fr.only], ?_⟩
  rw [Ss.fl_refl]
  refine (St_nil hwf).trans (St_tell hwf _ fun p hp => ?_).symm
  simp only [List.mem_cons,List.not_mem_nil,or_false] at hp
  rcases hp with rfl | rfl
  ·exact gm
  ·exact go
 ·rintro c σ T ⟨k,o1,hk,rfl,hinc,hfold,rfl,rfl⟩
  by_cases hkt:k<bs.length
  ·have hw:=wrapNat hkt (by omega)
   have hbm:bs[k]∈bs:=List.getElem_mem hkt
   rw [List.drop_eq_getElem_cons hkt,List.foldl_cons] at hfold
   have hbsm:=hsm.2.1 _ hbm
   have d0:=dout _ hbm
   have d1:=done _ hbm
   have d2:=darg _ hbm
   have d3:=dtargs _ hbm
   have d4:=dtarg _ hbm
   have d5:=deargs _ hbm
   have d6:=detos _ hbm
   obtain ⟨⟨ps,code,⟨tk,ta,to,az⟩⟩,hb⟩ : ∃ b,bs[k]=b:=⟨_,rfl⟩
   rw [hb] at hfold hbsm d0 d1 d2 d3 d4 d5 d6
   simp only [Ss.Block.small,Bool.and_eq_true,decide_eq_true_eq,List.all_eq_true] at hbsm
   obtain ⟨⟨⟨⟨s1,s2⟩,s3⟩,s4⟩,s5⟩:=hbsm
   have hcl:code.length≤4096:=by
    have h1:=hsm.2.2
    have h2:=count_mem hbm
    rw [hb] at h2
    simp only at h2
    omega
   simp only [Ss.rBlock] at hfold
   simp only at d0 d1 d2 d3 d4 d5 d6 s4 s5
   repeat (first|refine QG ?_|refine QX (r:=by conv=>lhs;simp[-List.map_set,QV,hkt,hb,bm,hd2]) (k:=?_))
   refine vw_ghost' 3 rfl ((refSt (k:=0) (by simp) (by rfl) (by rfl) (by simp))) (by conv=>lhs; simp [Fr.set]) ?_
   simp only [List.set_cons_succ,List.set_cons_zero]
   repeat (first|refine QG ?_|refine QX (r:=by conv=>lhs;simp[-List.map_set,QV]) (k:=?_))
   repeat refine QS ?_
   refine vw_loopAt [0,2,3,4] rfl (fun c σ S' => ∃ (j:Nat) (o2:List Bool),j≤code.length∧c=code.length-j∧Ss.Inc o o2∧(code.drop j).foldl Ss.rIns o2=code.foldl Ss.rIns o1∧σ=[(0, .ptr pm 0),(2,vnat k),(3,(V.agg [vl vint ps,vl encIns code,vint tk,vint ta,vl encEdge to,vl vint az]).ref),(4,vnat j)]∧S'=St S [(pm,some (mkC (vl vint fi) (vl vint fo) (vl vint ts) (vl encBlock bs) on N (Ss.fl tu o o2))),(on,some (1,o2.map V.bool))] [none]) code.length ?_ ?_
   ·exact ⟨0,o1,by omega,rfl,hinc,rfl,by simp [Fr.only],rfl⟩
   ·rintro c σ T ⟨j,o2,hj,rfl,hinc2,hfold2,rfl,rfl⟩
    have hol:o2.length=N:=by rw [←hinc2.1]; exact hN
    by_cases hjt:j<code.length
    ·have hwj:=wrapNat hjt (by omega)
     have hxm:code[j]∈code:=List.getElem_mem hjt
     rw [List.drop_eq_getElem_cons hjt,List.foldl_cons] at hfold2
     have x0:=d0 _ hxm
     have x1:=d1 _ hxm
     have x2:=d2 _ hxm
     have x3:=s4 _ hxm
     obtain ⟨⟨op,n,args,outs⟩,hx⟩ : ∃ x,code[j]=x:=⟨_,rfl⟩
     rw [hx] at hfold2 x0 x1 x2 x3
     simp only [Ss.Ins.small,Bool.and_eq_true,decide_eq_true_eq,Ss.rIns] at x0 x1 x2 x3 hfold2
     have cp:=RPure_v op
     repeat (first|refine QG ?_|refine QX (r:=by conv=>lhs;simp[-List.map_set,QV,hjt,hx]) (k:=?_))
     refine vw_ghost' 5 rfl ((refSt (k:=1) (by simp) (by rfl) (by rfl) (by simp))) (by conv=>lhs; simp [Fr.set]) ?_
     simp only [List.set_cons_succ,List.set_cons_zero]
     generalize Ss.pure op=pp at *
     repeat refine QS ?_
     refine QR (r:=by conv=>lhs;simp[-List.map_set,QV]) (k:=?_)
     refine vcall_useH (cp) (by rfl) ?_
     cases pp with
     | false =>
      simp only [Bool.false_eq_true,if_false] at hfold2
      have c1:=cmark o2 outs [none,none] hinc2 x3.2 x0
      have i1:=hinc2.trans (Ss.marks_inc o2 outs)
      have c2:=cmark _ args [none,none] i1 x3.1 x2
      have i2:=i1.trans (Ss.marks_inc _ args)
      generalize Ss.marks o2 outs=o3 at *
      generalize Ss.marks o3 args=o4 at *
      refine QM (by conv=>lhs;simp[-List.map_set,QV]) ?_
      refine QN ?_
      repeat (first|refine QG ?_|refine QX (r:=by conv=>lhs;simp[-List.map_set,QV]) (k:=?_))
      repeat refine QS ?_
      refine QR (r:=by conv=>lhs;simp[-List.map_set,QV]) (k:=?_)
      refine vcall_any rfl c1 ?_
      rintro X T9 ⟨rfl,rfl⟩
      refine QM (by conv=>lhs;simp[-List.map_set,QV]) ?_
      refine QN ?_
      repeat refine QS ?_
      refine QR (r:=by conv=>lhs;simp[-List.map_set,QV]) (k:=?_)
      refine vcall_any rfl c2 ?_
      rintro X T9 ⟨rfl,rfl⟩
      refine QM (by conv=>lhs;simp[-List.map_set,QV]) ?_
      refine QN ?_
      repeat (first|refine QG ?_|refine QX (r:=by conv=>lhs;simp[-List.map_set,QV,hwj]) (k:=?_))
      refine again_gc [0] (by conv=>lhs; simp [Fr.only]) hwf (by decide) (by simp [-List.map_set,mP,mT,oP,oT]) (by conv=>lhs; simp [-List.map_set,mP,mT,oP,oT]) (by conv=>lhs; simp [-List.map_set,mP,mT,oP,oT]) (by conv=>lhs; simp [-List.map_set,mP,mT,oP,oT]) ⟨?_,j+1,o4,hjt,rfl,i2,hfold2,by simp [Fr.only,Fr.look,hwj],by simp⟩
      omega
     | true =>
      simp only [if_true] at hfold2
      obtain ⟨ov,rfl⟩:=x1 rfl
      obtain ⟨v0,v1⟩:=x0 ov (by simp)
      obtain ⟨m,rfl⟩ : ∃ m:Nat,ov=m:=⟨ov.toNat,by omega⟩
      have hmo:m<o2.length:=by omega
      have hmN:m<N:=by omega
      have hon:Ss.on o2 (m:Int)=o2[m]:=by rw [Ss.on,List.getD_eq_getElem?_getD,Int.toNat_natCast,List.getElem?_eq_getElem hmo]; rfl
      rw [List.getD_cons_zero,hon] at hfold2
      have c1:=cmark o2 args [none,none] hinc2 x3.1 x2
      have i1:=hinc2.trans (Ss.marks_inc o2 args)
      generalize Ss.marks o2 args=o3 at *
      refine QM (by conv=>lhs;simp[-List.map_set,QV]) ?_
      refine QN ?_
      repeat (first|refine QG ?_|refine QX (r:=by conv=>lhs;simp[-List.map_set,QV]) (k:=?_))
      cases hb:o2[m] with
      | true =>
       rw [hb] at hfold2
       simp only [if_true] at hfold2
       repeat refine QS ?_
       refine QD (r:=by conv=>lhs;simp[-List.map_set,QV,bm,bo,hd2,hdo,hmN,hmo,hb]) (k:=?_)
       refine QN ?_
       repeat (first|refine QG ?_|refine QX (r:=by conv=>lhs;simp[-List.map_set,QV]) (k:=?_))
       repeat refine QS ?_
       refine QR (r:=by conv=>lhs;simp[-List.map_set,QV]) (k:=?_)
       refine vcall_any rfl c1 ?_
       rintro X T9 ⟨rfl,rfl⟩
       refine QM (by conv=>lhs;simp[-List.map_set,QV]) ?_
       refine QN ?_
       repeat (first|refine QG ?_|refine QX (r:=by conv=>lhs;simp[-List.map_set,QV,hwj]) (k:=?_))
       refine again_gc [0] (by conv=>lhs; simp [Fr.only]) hwf (by decide) (by simp [-List.map_set,mP,mT,oP,oT]) (by conv=>lhs; simp [-List.map_set,mP,mT,oP,oT]) (by conv=>lhs; simp [-List.map_set,mP,mT,oP,oT]) (by conv=>lhs; simp [-List.map_set,mP,mT,oP,oT]) ⟨?_,j+1,o3,hjt,rfl,i1,hfold2,by simp [Fr.only,Fr.look,hwj],by simp⟩
       omega
      | false =>
       rw [hb] at hfold2
       simp only [Bool.false_eq_true,if_false] at hfold2
       repeat refine QS ?_
       refine QD (r:=by conv=>lhs;simp[-List.map_set,QV,bm,bo,hd2,hdo,hmN,hmo,hb]) (k:=?_)
       refine QN ?_
       repeat (first|refine QG ?_|refine QX (r:=by conv=>lhs;simp[-List.map_set,QV,hwj]) (k:=?_))
       refine again_gc [0] (by conv=>lhs; simp [Fr.only]) hwf (by decide) (by simp [-List.map_set,mP,mT,oP,oT]) (by conv=>lhs; simp [-List.map_set,mP,mT,oP,oT]) (by conv=>lhs; simp [-List.map_set,mP,mT,oP,oT]) (by conv=>lhs; simp [-List.map_set,mP,mT,oP,oT]) ⟨?_,j+1,o2,hjt,rfl,hinc2,hfold2,by simp [Fr.only,Fr.look,hwj],by simp⟩
       omega
    ·have hje:j=code.length:=by omega
     subst hje
     rw [List.drop_length,List.foldl_nil] at hfold2
     rw [←hfold2] at hfold
     repeat (first|refine QG ?_|refine QX (r:=by conv=>lhs;simp[-List.map_set,QV,hjt]) (k:=?_))
     refine vw_ghost' 6 rfl ((refSt (k:=1) (by simp) (by rfl) (by rfl) (by simp))) (by conv=>lhs; simp [Fr.set]) ?_
     simp only [List.set_cons_succ,List.set_cons_zero]
     have c1:=cmark o2 az [none,none] hinc2 s3 d3
     have i1:=hinc2.trans (Ss.marks_inc o2 az)
     have hrt:Ss.rTerm o2 ⟨tk,ta,to,az⟩=if Ss.branches ⟨tk,ta,to,az⟩ then (Ss.marks o2 az).set ta.toNat true else Ss.marks o2 az:=rfl
     generalize Ss.marks o2 az=o3 at *
     repeat refine QS ?_
     refine QR (r:=by conv=>lhs;simp[-List.map_set,QV]) (k:=?_)
     refine vcall_any rfl c1 ?_
     rintro X T9 ⟨rfl,rfl⟩
     refine QM (by conv=>lhs;simp[-List.map_set,QV]) ?_
     refine QN ?_
     refine vw_seqAt rfl ?_
     refine vw_joinR (fun σ S'=>σ=[(0, .ptr pm 0),(2,vnat k),(6, .ref (V.agg [.int .i64 tk, .int .i64 ta,vl encEdge to,vl vint az]))]∧S'=St S [(pm,some (mkC (vl vint fi) (vl vint fo) (vl vint ts) (vl encBlock bs) on N (Ss.fl tu o (Ss.rTerm o2 ⟨tk,ta,to,az⟩)))),(on,some (1,(Ss.rTerm o2 ⟨tk,ta,to,az⟩).map V.bool))] []) [0,2,6] ?_ ?_
     ·by_cases hbr:Ss.branches ⟨tk,ta,to,az⟩=true
      ·have hta:=d4 hbr
       rw [if_pos hbr] at hrt
       have c2:=cmark o3 [ta] [none,none,none] i1 (by simp) (fun v hv=>by rw [List.mem_singleton] at hv; subst hv; exact hta)
       have hm1:Ss.marks o3 [ta]=o3.set ta.toNat true:=rfl
       rw [hm1, ←hrt] at c2
       generalize Ss.rTerm o2 ⟨tk,ta,to,az⟩=o4 at *
       simp only [Ss.branches,Bool.or_eq_true,decide_eq_true_eq] at hbr
       by_cases h2:tk=2
       ·repeat (first|refine QG ?_|refine QX (r:=by conv=>lhs;simp[-List.map_set,QV,h2]) (k:=?_))
        repeat refine QS ?_
        refine QR (r:=by conv=>lhs;simp[-List.map_set,QV]) (k:=?_)
        refine vcall_any rfl (vcalls_ghostArgs (GhostArgs.one [_] [] (frz1 (k:=2) (len:=1) (by simp) rfl rfl rfl)) c2) ?_
        rintro X T9 ⟨rfl,rfl⟩
        refine QM (by conv=>lhs;simp[-List.map_set,QV]) ?_
        refine QN ?_
        repeat (first|refine QG ?_|refine QX (r:=by conv=>lhs;simp[-List.map_set,QV]) (k:=?_))
        refine mid_gc [0,2,6] [] (by conv=>lhs; simp [Fr.only]) hwf (by decide) (by simp [-List.map_set,mP,mT,oP,oT]) (by conv=>lhs; simp [-List.map_set,mP,mT,oP,oT]) (by conv=>lhs; simp [-List.map_set,mP,mT,oP,oT]) (by conv=>lhs; simp [-List.map_set,mP,mT,oP,oT]) (⟨by simp [h2],by simp⟩)
       ·have h3:tk=3:=by rcases hbr with h | h; exact absurd h h2; exact h
        repeat (first|refine QG ?_|refine QX (r:=by conv=>lhs;simp[-List.map_set,QV,h2,h3]) (k:=?_))
        repeat refine QS ?_
        refine QR (r:=by conv=>lhs;simp[-List.map_set,QV]) (k:=?_)
        refine vcall_any rfl (vcalls_ghostArgs (GhostArgs.one [_] [] (frz1 (k:=2) (len:=1) (by simp) rfl rfl rfl)) c2) ?_
        rintro X T9 ⟨rfl,rfl⟩
        refine QM (by conv=>lhs;simp[-List.map_set,QV]) ?_
        refine QN ?_
        repeat (first|refine QG ?_|refine QX (r:=by conv=>lhs;simp[-List.map_set,QV]) (k:=?_))
        refine mid_gc [0,2,6] [] (by conv=>lhs; simp [Fr.only]) hwf (by decide) (by simp [-List.map_set,mP,mT,oP,oT]) (by conv=>lhs; simp [-List.map_set,mP,mT,oP,oT]) (by conv=>lhs; simp [-List.map_set,mP,mT,oP,oT]) (by conv=>lhs; simp [-List.map_set,mP,mT,oP,oT]) (⟨by simp [h3],by simp⟩)
      ·rw [if_neg hbr] at hrt
       rw [hrt]
       simp only [Ss.branches,Bool.or_eq_true,decide_eq_true_eq,not_or] at hbr
       obtain ⟨h2,h3⟩:=hbr
       repeat (first|refine QG ?_|refine QX (r:=by conv=>lhs;simp[-List.map_set,QV,h2,h3]) (k:=?_))
       refine mid_gc [0,2,6] [] (by conv=>lhs; simp [Fr.only]) hwf (by decide) (by simp [-List.map_set,mP,mT,oP,oT]) (by conv=>lhs; simp [-List.map_set,mP,mT,oP,oT]) (by conv=>lhs; simp [-List.map_set,mP,mT,oP,oT]) (by conv=>lhs; simp [-List.map_set,mP,mT,oP,oT]) (⟨by simp,by simp⟩)
     rintro σ S' ⟨rfl,rfl⟩
     have i2:Ss.Inc o (Ss.rTerm o2 ⟨tk,ta,to,az⟩):=hinc2.trans (Ss.term_inc _ _)
     generalize Ss.rTerm o2 ⟨tk,ta,to,az⟩=o4 at *
     clear c1 i1 hrt
     repeat (first|refine QG ?_|refine QX (r:=by conv=>lhs;simp[-List.map_set,QV]) (k:=?_))
     repeat refine QS ?_
     refine vw_loopAt [0,2,6,7] rfl (fun c σ S' => ∃ (j:Nat) (o5:List Bool),j≤to.length∧c=to.length-j∧Ss.Inc o o5∧(to.drop j).foldl (Ss.rEdge bs) o5=to.foldl (Ss.rEdge bs) o4∧σ=[(0, .ptr pm 0),(2,vnat k),(6, .ref (V.agg [.int .i64 tk, .int .i64 ta,vl encEdge to,vl vint az])),(7,vnat j)]∧S'=St S [(pm,some (mkC (vl vint fi) (vl vint fo) (vl vint ts) (vl encBlock bs) on N (Ss.fl tu o o5))),(on,some (1,o5.map V.bool))] []) to.length ?_ ?_
     ·exact ⟨0,o4,by omega,rfl,i2,rfl,by simp [Fr.only],rfl⟩
     ·rintro c σ T ⟨j,o5,hj,rfl,hinc5,hfold5,rfl,rfl⟩
      by_cases hjt:j<to.length
      ·have hwj:=wrapNat hjt (by omega)
       have hem:to[j]∈to:=List.getElem_mem hjt
       rw [List.drop_eq_getElem_cons hjt,List.foldl_cons] at hfold5
       have x0:=d5 _ hem
       obtain ⟨y0,y1,y2⟩:=d6 _ hem
       have x2:=s5 _ hem
       obtain ⟨⟨et,ea⟩,hx⟩ : ∃ x,to[j]=x:=⟨_,rfl⟩
       rw [hx] at hfold5 x0 y0 y1 y2 x2
       simp only [Ss.Edge.small,decide_eq_true_eq] at x0 y0 y1 y2 x2
       obtain ⟨q,rfl⟩ : ∃ q:Nat,et=q:=⟨et.toNat,by omega⟩
       have hq:q<bs.length:=by omega
       have hgd:bs.getD ((q:Int)).toNat default=bs[q]:=by rw [List.getD_eq_getElem?_getD,Int.toNat_natCast,List.getElem?_eq_getElem hq]; rfl
       have hqm:bs[q]∈bs:=List.getElem_mem hq
       have hpr:=dpar _ hqm
       have hpl:bs[q].params.length≤4096:=by
        have:=hsm.2.1 _ hqm
        simp only [Ss.Block.small,Bool.and_eq_true,decide_eq_true_eq] at this
        exact this.1.1.1.1
       simp only [Ss.rEdge] at hfold5
       rw [hgd] at hfold5 y2
       obtain ⟨⟨qs,qc,qt⟩,hb2⟩ : ∃ b,bs[q]=b:=⟨_,rfl⟩
       rw [hb2] at hfold5 y2 hpr hpl
       obtain ⟨qt1,qt2,qt3,qt4⟩:=qt
       simp only at hfold5 y2 hpr hpl
       repeat (first|refine QG ?_|refine QX (r:=by conv=>lhs;simp[-List.map_set,QV,hjt]) (k:=?_))
       repeat refine QS ?_
       refine QD (r:=by conv=>lhs;simp[-List.map_set,QV,bm,hd2,hjt,hx,hq,hb2]) (k:=?_)
       refine QN ?_
       repeat (first|refine QG ?_|refine QX (r:=by conv=>lhs;simp[-List.map_set,QV]) (k:=?_))
       repeat refine QS ?_
       refine vw_loopAt [0,2,6,7,8,9] rfl (fun c σ S' => ∃ (i:Nat) (o6:List Bool),i≤qs.length∧c=qs.length-i∧Ss.Inc o o6∧((qs.zip ea).drop i).foldl Ss.rPar o6=(qs.zip ea).foldl Ss.rPar o5∧σ=[(0, .ptr pm 0),(2,vnat k),(6, .ref (V.agg [.int .i64 tk, .int .i64 ta,vl encEdge to,vl vint az])),(7,vnat j),(8,vl vint qs),(9,vnat i)]∧S'=St S [(pm,some (mkC (vl vint fi) (vl vint fo) (vl vint ts) (vl encBlock bs) on N (Ss.fl tu o o6))),(on,some (1,o6.map V.bool))] []) qs.length ?_ ?_
       ·exact ⟨0,o5,by omega,rfl,hinc5,rfl,by simp [Fr.only],rfl⟩
       ·rintro c σ T ⟨i,o6,hi,rfl,hinc6,hfold6,rfl,rfl⟩
        have hol:o6.length=N:=by rw [←hinc6.1]; exact hN
        by_cases hit:i<qs.length
        ·have hwi:=wrapNat hit (by omega)
         have hie:i<ea.length:=by omega
         have hiz:i<(qs.zip ea).length:=by rw [List.length_zip]; omega
         rw [List.drop_eq_getElem_cons hiz,List.foldl_cons,List.getElem_zip] at hfold6
         obtain ⟨v0,v1⟩:=hpr qs[i] (List.getElem_mem hit)
         obtain ⟨m,hqi⟩ : ∃ m:Nat,qs[i]=(m:Int):=⟨qs[i].toNat,by omega⟩
         have hai':=x0 ea[i] (List.getElem_mem hie)
         obtain ⟨a,hai⟩ : ∃ a,ea[i]=a:=⟨_,rfl⟩
         rw [hqi] at v0 v1
         rw [hqi,hai] at hfold6
         rw [hai] at hai'
         have hmo:m<o6.length:=by omega
         have hmN:m<N:=by omega
         have hon:Ss.on o6 (m:Int)=o6[m]:=by rw [Ss.on,List.getD_eq_getElem?_getD,Int.toNat_natCast,List.getElem?_eq_getElem hmo]; rfl
         have hsl:=fun S=>hslice S ea i a hie (by rw [List.getElem?_eq_getElem hie,hai])
         simp only [Ss.rPar] at hfold6
         rw [hon] at hfold6
         have c1:=cmark o6 [a] [] hinc6 (by simp) (fun v hv=>by rw [List.mem_singleton] at hv; subst hv; exact hai')
         have i1:=hinc6.trans (Ss.inc_set o6 a.toNat)
         have hm1:Ss.marks o6 [a]=o6.set a.toNat true:=rfl
         rw [hm1] at c1
         generalize o6.set a.toNat true=o7 at *
         repeat (first|refine QG ?_|refine QX (r:=by conv=>lhs;simp[-List.map_set,QV,hit]) (k:=?_))
         cases hb:o6[m] with
         | true =>
          rw [hb] at hfold6
          simp only [if_true] at hfold6
          repeat refine QS ?_
          refine QD (r:=by conv=>lhs;simp[-List.map_set,QV,hit,hqi,bm,bo,hd2,hdo,hmN,hmo,hb]) (k:=?_)
          refine QN ?_
          repeat (first|refine QG ?_|refine QX (r:=by conv=>lhs;simp[-List.map_set,QV]) (k:=?_))
          repeat refine QS ?_
          refine QR (r:=by conv=>lhs;simp[-List.map_set,QV,hjt,hx,hsl,hwi]) (k:=?_)
          refine vcall_any rfl c1 ?_
          rintro X T9 ⟨rfl,rfl⟩
          refine QM (by conv=>lhs;simp[-List.map_set,QV]) ?_
          refine QN ?_
          repeat (first|refine QG ?_|refine QX (r:=by conv=>lhs;simp[-List.map_set,QV,hwi]) (k:=?_))
          show Again _ _ _ _ _ _ _
          exact again ⟨Nat.sub_lt_sub_left hit (Nat.lt_succ_self i),i+1,o7,hit,rfl,i1,hfold6,by simp [Fr.only,Fr.look,hwi],rfl⟩
         | false =>
          rw [hb] at hfold6
          simp only [Bool.false_eq_true,if_false] at hfold6
          repeat refine QS ?_
          refine QD (r:=by conv=>lhs;simp[-List.map_set,QV,hit,hqi,bm,bo,hd2,hdo,hmN,hmo,hb]) (k:=?_)
          refine QN ?_
          repeat (first|refine QG ?_|refine QX (r:=by conv=>lhs;simp[-List.map_set,QV,hwi]) (k:=?_))
          show Again _ _ _ _ _ _ _
          exact again ⟨Nat.sub_lt_sub_left hit (Nat.lt_succ_self i),i+1,o6,hit,rfl,hinc6,hfold6,by simp [Fr.only,Fr.look,hwi],rfl⟩
        ·have hie:i=qs.length:=by omega
         subst hie
         rw [List.drop_of_length_le (by rw [List.length_zip]; omega),List.foldl_nil] at hfold6
         rw [←hfold6] at hfold5
         repeat (first|refine QG ?_|refine QX (r:=by conv=>lhs;simp[-List.map_set,QV,hit,hwj]) (k:=?_))
         show Again _ _ _ _ _ _ _
         exact again ⟨Nat.sub_lt_sub_left hjt (Nat.lt_succ_self j),j+1,o6,hjt,rfl,hinc6,hfold5,by simp [Fr.only,Fr.look,hwj],rfl⟩
      ·have hje:j=to.length:=by omega
       subst hje
       rw [List.drop_length,List.foldl_nil] at hfold5
       rw [←hfold5] at hfold
       repeat (first|refine QG ?_|refine QX (r:=by conv=>lhs;simp[-List.map_set,QV,hjt,hw]) (k:=?_))
       show Again _ _ _ _ _ _ _
       exact again ⟨Nat.sub_lt_sub_left hkt (Nat.lt_succ_self k),k+1,o5,hkt,rfl,hinc5,hfold,by simp [Fr.only,Fr.look,hw],rfl⟩
  ·have hke:k=bs.length:=by omega
   subst hke
   rw [List.drop_length,List.foldl_nil] at hfold
   subst hfold
   repeat (first|refine QG ?_|refine QX (r:=by conv=>lhs;simp[-List.map_set,QV,hkt,bm,hd2]) (k:=?_))
   exact done_as ⟨rfl,rfl⟩
end Go.Vw

namespace Go.Vw
open Go.Proofs Go.RowKit
set_option maxRecDepth 10000
set_option maxHeartbeats 4000000
theorem vcalls_cut {P:Program} {f:FuncId} {args:List V} {S S':Store} {X:V} (hw:S'.Wf) (hn:S'.nx=S.nx) (hX:X.ids (fun o=>decide (o<S.nx))=true)
  (h:VCalls P f args S fun r T=>r=X∧S'.nx≤T.nx ∧ ∀ o,o<S'.nx→T.get o=S'.get o):VCalls P f args S fun r T=>r=X∧T=S':=by
 refine vcalls_postB (h.mono ?_)
 rintro r T ⟨rfl,h1,h2⟩
 refine ⟨r,S', ?_,rfl,rfl⟩
 rw [←hn]
 exact GhostB.cut hw ⟨h1,h2⟩ (by rw [hn]; exact hX)
def vToInt:V→Int
 | .int _ n=>n
 | _=>0
theorem map_vToInt (l:List Int):(l.map vint).map vToInt=l:=by
 rw [List.map_map]; exact (List.map_congr_left fun x _=>rfl).trans (List.map_id _)
def insOf (S:Store):List V→Ss.Ins
 | [.int _ op, .int _ n, .slice oa _ _,_]=>⟨op,n,((S.get oa).getD (0,[])).2.map vToInt,[]⟩
 | _=>default
theorem delG_sub {κ ρ:Type} (p:κ→ρ→Bool) (nx:κ→ρ→κ) : ∀ (rs:List ρ) (a:κ), ∀ r∈(delG p nx a rs).1,r∈rs
 | [],a,r,h=>by simp [delG] at h
 | x::rs,a,r,h=>by
  rw [delG] at h
  split at h
  ·exact List.mem_cons_of_mem _ (delG_sub p nx rs _ r h)
  ·rcases List.mem_cons.1 h with rfl | h
   ·simp
   ·exact List.mem_cons_of_mem _ (delG_sub p nx rs _ r h)
structure RunInv (S:Store) (p4 pg pr pm pf ot ob:Nat) (hd:List V) (ts near:List Int) (bs:List Ss.Block) (M:Ss.Far) (T:Store) (rs:List (List V)) (ids:List Nat):Prop where
 old:Agree S T
 c4:T.get p4=some (4,[V.nils,V.nils,V.nils,V.nils])
 cg:T.get pg=some (4,hd)
 cr:T.get pr=some (1,[vl vint near])
 cm:T.get pm=some (0,encFar M)
 cf:T.get pf=some (1,[.map pm])
 ct:T.get ot=some (1,ts.map vint)
 cb:T.get ob=some (6,rs.flatten)
 own:Rows T blkD encBlock bs rs ids
 nd:(p4::pg::pr::pf::pm::ot::ob::ids).Nodup
 lt : ∀ o∈p4::pg::pr::pf::pm::ot::ob::ids,S.nx≤o
 fits : ∀ b∈bs, ∀ x∈b.code,x.Fits∧(x.op=257→x.args≠[]∧x.n≤8589934592)
 len : ∀ b∈bs,b.code.length<2^62
end Go.Vw

namespace Ss
def NewX (ts ps:List Int) (x:Ins):Prop:=x=⟨256,9,[],[(ts.length:Int)]⟩ ∨ ∃ p∈ps,0≤p∧p<ts.length∧ts.getD p.toNat 0=126∧x=⟨124,0,[p,p],[(ts.length:Int)]⟩
theorem NewX.op {ts ps:List Int} {x:Ins} (h:NewX ts ps x):x.op≠258∧x.outs=[(ts.length:Int)]∧x.args.length≤2:=by
 rcases h with rfl | ⟨p,_,_,_,_,rfl⟩<;>simp
theorem checkBlocks_mk {e:Env} {f:Fn} {ds:List Def} {near:List Int} : ∀ {l:List Block} {i:Nat},(∀ (j:Nat) (b:Block),l[j]? = some b→checkCode e f ds near ((i+j:Nat):Int) 0 b.code=true∧termOk f ds near ((i+j:Nat):Int) b=true)→checkBlocks e f ds near i l=true
 | [],i,_=>rfl
 | b::l,i,h=>by
  simp only [checkBlocks,Bool.and_eq_true]
  refine ⟨h 0 b rfl,checkBlocks_mk fun j y hy => ?_⟩
  have:=h (j+1) y (by simpa using hy)
  rw [show i+1+j=i+(j+1) by omega]; exact this
end Ss

namespace Go.Vw
open Go.Proofs Go.RowKit
set_option maxRecDepth 10000
set_option maxHeartbeats 2000000
end Go.Vw

namespace Go.Vw
open Go.Proofs Go.RowKit
set_option maxRecDepth 10000
set_option maxHeartbeats 8000000
theorem WInts_v (l m:List Int) (hl:l.length<2^63):VPure Tryz.prog 35 [vl vint l,vl vint m] (.bool (decide (l=m))):=by
 intro S
 rw [←eqF_dec]
 generalize hp:(fun x y:Int=>decide (x=y))=p
 by_cases hlm:l.length=m.length
 ·have hlm':(l.length:Int)=(m.length:Int):=by omega
  refine vcalls_start (c:=bodyOf Tryz.f35) Tryz.func35 rfl rfl (by simp [Tryz.ntmps35]) ?_
  rw [Tryz.ntmps35]
  intro hwf
  repeat (first|refine QG ?_|refine QX (r:=by conv=>lhs;simp[-List.map_set,QV,hlm,hlm']) (k:=?_))
  repeat refine QS ?_
  refine vw_loopAt [0,1,5] rfl (fun c σ S' => ∃ (k:Nat),k≤l.length∧c=l.length-k∧eqF p (l.drop k) (m.drop k)=eqF p l m∧σ=[(0,vl vint l),(1,vl vint m),(5,vnat k)]∧S'=St S [] []) l.length ?_ ?_
  ·exact ⟨0,by omega,rfl,rfl,by simp [Fr.only],rfl⟩
  ·rintro c σ T ⟨k,hk,rfl,hd,rfl,rfl⟩
   by_cases hkt:k<l.length
   ·have hkm:k<m.length:=by omega
    have hw:=wrapNat hkt hl
    have hst:eqF p (l.drop k) (m.drop k)=(p l[k] m[k]&&eqF p (l.drop (k+1)) (m.drop (k+1))):=by rw [List.drop_eq_getElem_cons hkt,List.drop_eq_getElem_cons hkm,eqF]
    obtain ⟨x,hx⟩ : ∃ x,l[k]=x:=⟨_,rfl⟩
    obtain ⟨y,hy⟩ : ∃ y,m[k]=y:=⟨_,rfl⟩
    rw [hx,hy] at hst
    by_cases hxy:x=y
    ·rw [show p x y=true by rw [←hp]; simp [hxy]] at hst
     repeat (first|refine QG ?_|refine QX (r:=by conv=>lhs;simp[-List.map_set,QV,hkt,hkm,hx,hy,hxy]) (k:=?_))
     show Again _ _ _ _ _ _ _
     exact again ⟨Nat.sub_lt_sub_left hkt (Nat.lt_succ_self k),k+1,hkt,rfl,by rw [←hd,hst]; rfl,by simp [Fr.only,hw],rfl⟩
    ·rw [show p x y=false by rw [←hp]; simp [hxy]] at hst
     repeat (first|refine QG ?_|refine QX (r:=by conv=>lhs;simp[-List.map_set,QV,hkt,hkm,hx,hy,hxy]) (k:=?_))
     exact done_pure hwf (by rw [←hd,hst]; rfl) rfl
   ·have e:l.drop k=[]:=by rw [List.drop_eq_nil_iff]; omega
    have e':m.drop k=[]:=by rw [List.drop_eq_nil_iff]; omega
    rw [e,e'] at hd
    have hkm : ¬ k<m.length:=by omega
    repeat (first|refine QG ?_|refine QX (r:=by conv=>lhs;simp[-List.map_set,QV,hkt,hkm]) (k:=?_))
    exact done_pure hwf (by rw [←hd]; rfl) rfl
 ·have hlm' : ¬ (l.length:Int)=(m.length:Int):=by omega
  have e:eqF p l m=false:=eqF_len hlm
  rw [e]
  refine vcalls_start (c:=bodyOf Tryz.f35) Tryz.func35 rfl rfl (by simp [Tryz.ntmps35]) ?_
  rw [Tryz.ntmps35]
  intro hwf
  repeat (first|refine QG ?_|refine QX (r:=by conv=>lhs;simp[-List.map_set,QV,hlm,hlm']) (k:=?_))
  exact done_pure hwf rfl rfl
end Go.Vw

namespace Go.Vw
open Go.Proofs Go.RowKit
set_option maxRecDepth 10000
set_option maxHeartbeats 4000000
end Go.Vw

namespace Ss
end Ss
namespace Go.Vw
open Go.Proofs Go.RowKit
set_option maxRecDepth 10000
set_option maxHeartbeats 2000000
theorem fn_ghostD {S:Store} {fi fo ts:List Int} {bs:List Ss.Block} {cells:List V} {ot ob n m:Nat} {ids:List Nat} (h:OwL S (reps n blkD) cells (flatC encBlock bs) ids) (hb:S.get ob=some (6,cells)) (hn:bs.length=n) (ht:S.get ot=some (1,ts.map vint)) (hm:ts.length=m) (hd:(ot::ob::ids).Nodup) :
  Ghost (.agg [vl vint fi,vl vint fo, .slice ot 0 m, .slice ob 0 n]) S (.agg [vl vint fi,vl vint fo,vl vint ts,vl encBlock bs]) (S.dels (ot::ob::ids)):=by
 subst hn
 subst hm
 refine ghost_agg ?_
 have hw:OwL S [.c, .c, .s (List.replicate 1 .c), .s blkD] [vl vint fi,vl vint fo, .slice ot 0 ts.length, .slice ob 0 bs.length] [vl vint fi,vl vint fo,vl vint ts,vl encBlock bs] (ot::ob::ids):=by
  refine .c rfl (.c rfl (OwL.slice (enc:=vint) (fun _=>rfl) (fun _=>rfl) ts (by rw [flatC_vint]; exact ht) ?_))
  have:=OwL.s (S:=S) (o:=ob) (tys:=blkD) (cells:=cells) (ys:=bs.map encBlock) (i:=ids) (j:=[]) hb (fun y hy=>(by
   obtain ⟨b,_,rfl⟩:=List.mem_map.1 hy
   exact ⟨by rw [encBlock_cells]; rfl,encBlock_closed b⟩)) (by rw [List.length_map,flatC_map]; exact h) .nil
  rw [List.length_map,List.append_nil] at this
  exact this
 exact hw.freeze hd S fun _ _=>rfl
end Go.Vw

namespace Ss
def emptyFn:Fn:=⟨⟨[],[]⟩,[],[]⟩
noncomputable def bceF (f:Fn):Fn:=pbce (Go.Vw.G.rNear (Go.Vw.G.nats (succs f.blocks))) (Go.Vw.G.order (Go.Vw.G.nats (succs f.blocks))) f
noncomputable def bceOut (e:Env) (f:Fn):Fn × Int:=if check e f then (bceF f,0) else (emptyFn,6)
end Ss
namespace Go.Vw
open Go.Proofs Go.RowKit
set_option maxRecDepth 10000
set_option maxHeartbeats 2000000
theorem empty_ghost (S:Store):Ghost (.agg [.nils, .nils, .nils, .nils]) S (encFn Ss.emptyFn) S:=by
 refine Ghost.agg_nl rfl fun i x y hx hy => ?_
 match i,hx,hy with
 | 0,hx,hy=>cases hx; cases hy; exact .inr ⟨rfl,rfl⟩
 | 1,hx,hy=>cases hx; cases hy; exact .inr ⟨rfl,rfl⟩
 | 2,hx,hy=>cases hx; cases hy; exact .inr ⟨rfl,rfl⟩
 | 3,hx,hy=>cases hx; cases hy; exact .inr ⟨rfl,rfl⟩
end Go.Vw

namespace Ss
structure ThinB (b c:Block):Prop where
 params:c.params=b.params
 term:c.term=b.term
 sub:c.code.Sublist b.code
 keep:c.code.filter (fun x=>decide (x.op≠257))=b.code.filter fun x=>decide (x.op≠257)
theorem ThinB.refl (b:Block):ThinB b b:=⟨rfl,rfl,List.Sublist.refl _,rfl⟩
theorem ThinB.trans {a b c:Block} (h:ThinB a b) (k:ThinB b c):ThinB a c:=⟨k.params.trans h.params,k.term.trans h.term,k.sub.trans h.sub,k.keep.trans h.keep⟩
def ThinL (l m:List Block):Prop:=m.length=l.length ∧ ∀ (i:Nat) (b c:Block),l[i]? = some b→m[i]? = some c→ThinB b c
theorem ThinL.refl (l:List Block):ThinL l l:=⟨rfl,fun i b c h1 h2=>by rw [h1] at h2; cases h2; exact .refl b⟩
theorem ThinL.trans {l m n:List Block} (h:ThinL l m) (k:ThinL m n):ThinL l n:=by
 refine ⟨k.1.trans h.1,fun i b c h1 h2 => ?_⟩
 have hi:i<m.length:=by rw [h.1]; exact (List.getElem?_eq_some_iff.1 h1).1
 exact (h.2 i b m[i] h1 (List.getElem?_eq_getElem hi)).trans (k.2 i m[i] c (List.getElem?_eq_getElem hi) h2)
theorem ThinL.fits {l m:List Block} (h:ThinL l m) (hl : ∀ b∈l,b.Fits) : ∀ c∈m,c.Fits:=by
 intro c hc
 obtain ⟨i,hi⟩:=List.mem_iff_getElem?.1 hc
 have hil:i<l.length:=by rw [←h.1]; exact (List.getElem?_eq_some_iff.1 hi).1
 obtain ⟨h1,h2,h3,h4⟩:=h.2 i l[i] c (List.getElem?_eq_getElem hil) hi
 obtain ⟨k1,⟨k2,k3⟩,k4⟩:=hl _ (List.getElem_mem hil)
 exact ⟨by rw [h1]; exact k1,⟨Nat.le_trans h3.length_le k2,fun x hx=>k3 x (h3.subset hx)⟩,by rw [h2]; exact k4⟩
theorem ThinL.count : ∀ {l m:List Block},ThinL l m→count m≤count l
 | [],m,h=>by
  have:m=[]:=List.eq_nil_of_length_eq_zero h.1
  subst this; exact Nat.le_refl _
 | b::l,[],h=>by simp [Ss.count]
 | b::l,c::m,h=>by
  have h1:=(h.2 0 b c rfl rfl).sub.length_le
  have h2:ThinL l m:=⟨by have:=h.1; simpa using this,fun i x y hx hy=>h.2 (i+1) x y (by simpa using hx) (by simpa using hy)⟩
  have:=ThinL.count h2
  simp only [Ss.count,List.map_cons,List.sum_cons] at this ⊢
  omega
end Ss
