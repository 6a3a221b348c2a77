import Derived.Test.YtenhhokhkkfgbaaGreatC37
import Derived.Test.YtenhhokhkkfgbaaGreatC38
import Derived.Test.YtenhhokhkkfgbaaGreatC31
import Derived.Test.YtenhhokhkkfgbaaGreatC16
import Derived.Test.YtenhhokhkkfgbaaGreatC30
import Derived.Test.YtenhhokhkkfgbaaGreatC29
/-
  Part of the proof (texts DRMark, DPureR, DRRnd, BThin, BChkP).
-/
set_option linter.unusedVariables false
set_option linter.unusedSimpArgs false
namespace Ss
def fl (t:Bool) (a b:List Bool):Bool:=t||decide (b≠a)
theorem fl_refl (t:Bool) (a:List Bool):fl t a a=t:=by simp [fl]
theorem fl_trans {t:Bool} {a b c:List Bool} (h:Inc a b) (k:Inc b c):fl (fl t a b) b c=fl t a c:=by
 unfold fl
 by_cases e1:b=a
 ·subst e1; simp
 ·by_cases e2:c=b
  ·subst e2; simp
  ·have:c≠a:=fun e=>by subst e; exact e1 (k.anti h)
   simp [e1,e2,this]
theorem fl_set {t:Bool} {o:List Bool} {m:Nat} (h:o[m]? = some false):fl t o (o.set m true)=true:=by
 have:o.set m true≠o:=fun e=>by
  have h1:(o.set m true)[m]? = some true:=List.getElem?_set_self (List.getElem?_eq_some_iff.1 h).1
  rw [e,h] at h1; cases h1
 simp [fl,this]
theorem set_keep {o:List Bool} {m:Nat} (h:o[m]? = some true):o.set m true=o:=by
 apply List.ext_getElem?
 intro i
 rw [List.getElem?_set]
 split
 ·rename_i e; subst e; rw [h]; simp [(List.getElem?_eq_some_iff.1 h).1]
 ·rfl
end Ss
namespace Go.Vw
open Go.Proofs Go.RowKit
set_option maxRecDepth 10000
set_option maxHeartbeats 2000000
abbrev mkC (x0 x1 x2 x3:V) (on N:Nat) (t:Bool):Nat × List V:=(6,[x0,x1,x2,x3, .slice on 0 N, .bool t])
theorem RMark_v (x0 x1 x2 x3:V) (h0:x0.closed1=true) (h1:x1.closed1=true) (h2:x2.closed1=true) (h3:x3.closed1=true) (pm on N:Nat) (tu:Bool) (o:List Bool) (l:List Int) (S:Store) (hN:o.length=N) (hll:l.length<2^62) (hl : ∀ v∈l,Ss.InR N v)
  (gm:S.get pm=some (mkC x0 x1 x2 x3 on N tu)) (go:S.get on=some (1,o.map V.bool)) (hd:on≠pm) :
  VCalls Tryz.prog 75 [.ptr pm 0,vl vint l] S fun v T=>v = .tuple []∧T=St S [(pm,some (mkC x0 x1 x2 x3 on N (Ss.fl tu o (Ss.marks o l)))),(on,some (1,(Ss.marks o l).map V.bool))] []:=by
 refine jb (c:=jg Tryz.f75) Tryz.func75 rfl rfl (by simp [Tryz.ntmps75]) ?_
 rw [Tryz.ntmps75]
 intro hwf
 have lm:=jr hwf gm
 have lo:=jr hwf go
 have bm:=fun u l => @jk S u l pm lm
 have bo:=fun u l => @jk S u l on lo
 have hd2:pm≠on:=Ne.symm hd
 repeat (first|refine QG ?_|refine QY ?_)
 repeat refine QS ?_
 refine je [0,1,4] rfl (fun c σ S' => ∃ (k:Nat) (o1:List Bool),k≤l.length∧c=l.length-k∧Ss.Inc o o1∧Ss.marks o1 (l.drop k)=Ss.marks o l∧σ=[(0, .ptr pm 0),(1,vl vint l),(4,vnat k)]∧S'=St S [(pm,some (mkC x0 x1 x2 x3 on N (Ss.fl tu o o1))),(on,some (1,o1.map V.bool))] []) l.length ?_ ?_
 ·refine ⟨0,o,by omega,rfl, .refl _,rfl,by simp [Fr.only], ?_⟩
  rw [Ss.fl_refl]
  refine (jQ hwf).trans (Yj hwf _ fun p hp => ?_).symm
  simp only [List.mem_cons,List.not_mem_nil,or_false] at hp
  rcases hp with rfl | rfl
  ·exact gm
  ·exact go
 ·rintro c σ T ⟨k,o1,hk,rfl,hinc,hmk,rfl,rfl⟩
  have hol:o1.length=N:=by rw [←hinc.1]; exact hN
  by_cases hkt:k<l.length
  ·have hw:=jm hkt (by omega)
   obtain ⟨v0,v1⟩:=hl l[k] (List.getElem_mem hkt)
   obtain ⟨m,hlk⟩ : ∃ m:Nat,l[k]=(m:Int):=⟨l[k].toNat,by omega⟩
   rw [hlk] at v0 v1
   have hmo:m<o1.length:=by omega
   have hmN:m<N:=by omega
   rw [List.drop_eq_getElem_cons hkt,hlk] at hmk
   have hst:Ss.marks o1 ((m:Int)::l.drop (k+1))=Ss.marks (o1.set m true) (l.drop (k+1)):=rfl
   rw [hst] at hmk
   have hup : ∀ x y c,(St S [(pm,x),(on,y)] []).upd on c=St S [(pm,x),(on,some c)] []:=fun x y c=>by rw [jP lo]; simp [uSet,hd]
   have hup2 : ∀ x y c,(St S [(pm,x),(on,y)] []).upd pm c=St S [(pm,some c),(on,y)] []:=fun x y c=>by rw [jP lm]; simp [uSet]
   cases hb:o1[m] with
   | true =>
    have hs:o1.set m true=o1:=Ss.set_keep (by rw [List.getElem?_eq_getElem hmo,hb])
    rw [hs] at hmk
    repeat (first|refine QG ?_|refine QY ?_ (r:=by conv=>lhs;simp[-List.map_set,QV,hkt]))
    repeat refine QS ?_
    refine QD (r:=by conv=>lhs;simp[-List.map_set,QV,hkt,hlk,bm,bo,hd,hd2,hmN,hmo,hb]) (k:=?_)
    refine QN ?_
    repeat (first|refine QG ?_|refine QY ?_ (r:=by conv=>lhs;simp[-List.map_set,QV,hw]))
    show jt _ _ _ _ _ _ _
    exact again ⟨Nat.sub_lt_sub_left hkt (Nat.lt_succ_self k),k+1,o1,hkt,rfl,hinc,hmk,by simp [Fr.only,Fr.look,hw],rfl⟩
   | false =>
    have hsf:=Ss.fl_set (t:=Ss.fl tu o o1) (o:=o1) (m:=m) (by rw [List.getElem?_eq_getElem hmo,hb])
    rw [Ss.fl_trans hinc (Ss.inc_set _ _)] at hsf
    have hok : ∀ u l,(∃ c,uGet u pm (S.get pm)=some (6,c))→zE.Sub (St S u l)∧(z1 pm (6,[])).Shp (St S u l):=fun u l h1=>by
     obtain ⟨c,h1⟩:=h1
     exact ⟨(zE_ok _).1,z1_shp ((bm u l).trans h1) rfl⟩
    repeat (first|refine QG ?_|refine QY ?_ (r:=by conv=>lhs;simp[-List.map_set,QV,hkt]))
    repeat refine QS ?_
    refine QD (r:=by conv=>lhs;simp[-List.map_set,QV,hkt,hlk,bm,bo,hd,hd2,hmN,hmo,hb]) (k:=?_)
    refine QN ?_
    repeat (first|refine QG ?_|refine QY ?_)
    have hz:(z1 pm (6,[])).get pm=some (6,[]):=by simp [z1]
    repeat refine QS ?_
    refine jK (zE) (z1 pm (6,[])) [23,24,25,28,29,31] rfl (by kernel_rfl) (by conv=>lhs; reduce) (by conv=>lhs; reduce) (by kernel_rfl) (by kernel_rfl) (hok _ _ ⟨_,by simp [uGet]; rfl⟩) (by conv=>lhs; simp [-List.map_set,QV,hkt,hlk,bm,bo,hd,hd2,hmN,hmo,hz]) ?_
    refine jf rfl (by conv=>lhs; simp [-List.map_set,QV,hup,bo,hd,hmo]) (hok [(pm,some (mkC x0 x1 x2 x3 on N (Ss.fl tu o o1))),(on,some (1,(o1.set m true).map V.bool))] _ ⟨_,by simp [uGet]; rfl⟩) ?_
    refine QM (by conv=>lhs;simp[-List.map_set,QV,hz]) ?_
    refine jf rfl (by conv=>lhs; simp [-List.map_set,QV,hup2,bm,hd]) (hok [(pm,some (mkC x0 x1 x2 x3 on N true)),(on,some (1,(o1.set m true).map V.bool))] _ ⟨_,by simp [uGet]; rfl⟩) ?_
    refine QN ?_
    repeat (first|refine QG ?_|refine QY ?_ (r:=by conv=>lhs;simp[-List.map_set,QV,hw]))
    show jt _ _ _ _ _ _ _
    exact again ⟨Nat.sub_lt_sub_left hkt (Nat.lt_succ_self k),k+1,o1.set m true,hkt,rfl,hinc.trans (Ss.inc_set _ _),hmk,by simp [Fr.only,Fr.look,hw],by rw [hsf]⟩
  ·have hke:k=l.length:=by omega
   subst hke
   rw [List.drop_length] at hmk
   have hmk2:o1=Ss.marks o l:=hmk
   subst hmk2
   repeat (first|refine QG ?_|refine QY ?_ (r:=by conv=>lhs;simp[-List.map_set,QV,hkt]))
   exact qE ⟨rfl,rfl⟩
end Go.Vw

namespace Ss
def rtotal (op:Int):Bool := !decide (rof op=0) && !rin op 109 112 && !rin op 127 130
theorem rtotal_small : ∀ n:Nat,n<256→rtotal (n:Int)=total (n:Int):=by decide +kernel
theorem rtotal_eq (op:Int):rtotal op=total op:=by
 by_cases h:0≤op∧op<256
 ·obtain ⟨n,rfl⟩:=Int.eq_ofNat_of_zero_le h.1
  exact rtotal_small n (by have:=h.2; omega)
 ·have h1:rof op=0:=by
   unfold rof
   rw [if_neg (by simp only [rin,Bool.and_eq_true,decide_eq_true_eq]; omega),if_neg (by simp only [rin,Bool.and_eq_true,decide_eq_true_eq]; omega)]
  have h2:find op=none:=by
   cases hf:find op with
   | none=>rfl
   | some g =>
    exfalso
    obtain ⟨hm,hh⟩:=Yc hf
    have ha : ∀ g∈groups,0≤g.first∧g.first+g.many≤256:=by decide +kernel
    have:=ha g hm
    simp only [Grp.has,Bool.and_eq_true,decide_eq_true_eq] at hh
    omega
  simp [rtotal,h1,total,h2]
end Ss
namespace Go.Vw
open Go.Proofs Go.RowKit
set_option maxRecDepth 10000
set_option maxHeartbeats 2000000
theorem RTotal_v (op:Int):VPure Tryz.prog 56 [vint op] (.bool (Ss.total op)):=by
 intro S
 rw [←Ss.rtotal_eq op]
 have c1:=Of_v op
 have c2:VPure Tryz.prog 90 [vint op, .int .i64 109, .int .i64 112] (.bool (Ss.rin op 109 112)):=in_v op 109 112
 have c3:VPure Tryz.prog 90 [vint op, .int .i64 127, .int .i64 130] (.bool (Ss.rin op 127 130)):=in_v op 127 130
 have hX:Ss.rtotal op=(!decide (Ss.rof op=0) && !Ss.rin op 109 112 && !Ss.rin op 127 130):=rfl
 rw [hX]
 generalize Ss.rof op=t at *
 generalize Ss.rin op 109 112=x at *
 generalize Ss.rin op 127 130=y at *
 refine jb (c:=jg Tryz.f56) Tryz.func56 rfl rfl (by simp [Tryz.ntmps56]) ?_
 rw [Tryz.ntmps56]
 intro hwf
 repeat refine QS ?_
 refine QP ?_
 refine QN ?_
 repeat refine QS ?_
 refine QP ?_
 refine jd (c1) (by rfl) ?_
 by_cases ht:t=0
 ·refine QM (by conv=>lhs;simp[-List.map_set,QV,ht]) ?_
  refine QN ?_
  repeat (first|refine QG ?_|refine QY ?_ (r:=by conv=>lhs;simp[-List.map_set,QV,ht]))
  exact ja hwf (by simp [ht]) rfl
 ·refine QM (by conv=>lhs;simp[-List.map_set,QV,ht]) ?_
  refine jd (c2) (by rfl) ?_
  cases x with
  | true =>
   refine QM (by conv=>lhs;simp[-List.map_set,QV,ht]) ?_
   refine QN ?_
   repeat (first|refine QG ?_|refine QY ?_)
   exact ja hwf (by simp [ht]) rfl
  | false =>
   refine QM (by conv=>lhs;simp[-List.map_set,QV,ht]) ?_
   refine jd (c3) (by rfl) ?_
   refine QM (by conv=>lhs;simp[-List.map_set,QV]) ?_
   refine QN ?_
   repeat (first|refine QG ?_|refine QY ?_)
   exact ja hwf (by simp [ht]) rfl
theorem RPure_v (op:Int):VPure Tryz.prog 22 [vint op] (.bool (Ss.pure op)):=by
 intro S
 have c1:=RTotal_v op
 have hX:Ss.pure op=(decide (op=256)||decide (op=27)||Ss.total op):=rfl
 rw [hX]
 generalize Ss.total op=t at *
 refine jb (c:=jg Tryz.f22) Tryz.func22 rfl rfl (by simp [Tryz.ntmps22]) ?_
 rw [Tryz.ntmps22]
 intro hwf
 repeat refine QS ?_
 refine QP ?_
 refine QN ?_
 by_cases h1:op=256
 ·repeat (first|refine QG ?_|refine QY ?_ (r:=by conv=>lhs;simp[-List.map_set,QV,h1]))
  exact ja hwf (by simp [h1]) rfl
 by_cases h2:op=27
 ·repeat (first|refine QG ?_|refine QY ?_ (r:=by conv=>lhs;simp[-List.map_set,QV,h1,h2]))
  exact ja hwf (by simp [h2]) rfl
 repeat refine QS ?_
 refine QP ?_ (r:=by conv=>lhs;simp[-List.map_set,QV,h1,h2])
 refine jd (c1) (by rfl) ?_
 refine QM (by conv=>lhs;simp[-List.map_set,QV]) ?_
 refine QN ?_
 repeat (first|refine QG ?_|refine QY ?_)
 exact ja hwf (by simp [h1,h2]) rfl
end Go.Vw

namespace Go.Vw
open Go.Proofs Go.RowKit
set_option maxRecDepth 10000
set_option maxHeartbeats 4000000
theorem RRound_v (f:Ss.Fn) (hf:f.Fits) (hs:f.small=true) (hd:Ss.DOk f) (pm on N:Nat) (tu:Bool) (o:List Bool) (S:Store) (hT:f.types.length=N) (hN:o.length=N)
  (gm:S.get pm=some (mkC (vl vint f.sig.inn) (vl vint f.sig.out) (vl vint f.types) (vl jc f.blocks) on N tu)) (go:S.get on=some (1,o.map V.bool)) (hdo:on≠pm) :
  VCalls Tryz.prog 76 [.ptr pm 0] S fun v T=>v = .tuple []∧T=St S [(pm,some (mkC (vl vint f.sig.inn) (vl vint f.sig.out) (vl vint f.types) (vl jc f.blocks) on N (Ss.fl tu o (Ss.rRound f o)))),(on,some (1,(Ss.rRound f o).map V.bool))] []:=by
 have hsm:=(Ss.small_iff f).1 hs
 have hh:=hsm.1
 simp only [Ss.Fn.heads,Bool.and_eq_true,decide_eq_true_eq] at hh
 obtain ⟨⟨⟨hh1,hh2⟩,_⟩,_⟩:=hh
 have hfb:=hf.2.2.2
 have hRB:Ss.rRound f=fun o=>f.blocks.foldl (Ss.rBlock f.blocks) o:=rfl
 rw [hRB]
 obtain ⟨_,dout,done,darg,dpar,dtargs,dtarg,deargs,detos,_,_⟩:=hd
 obtain ⟨⟨fi,fo⟩,ts,bs⟩:=f
 simp only at *
 rw [hT] at dout darg dpar dtargs dtarg deargs
 have hh1':N≤4096:=by omega
 clear hs hRB hf
 have hslice : ∀ (S:Store) (l:List Int) (j:Nat) (a:Int),j<l.length→l[j]? = some a→qC 1 S (vl vint l) (some (.int .i64 (j:Int))) (some (.int .i64 ((j:Int)+1))) none=some (vl vint [a]):=fun S l j a hj ha=>by
  have e:((l.map vint).take (j+1)).drop j=[vint a]:=by
   rw [←List.map_take, ←List.map_drop,List.drop_take,List.drop_eq_getElem_cons hj]
   have:l[j]=a:=by rw [List.getElem?_eq_getElem hj] at ha; exact Option.some.inj ha
   simp [this]
  have h2:j+1≤l.length:=hj
  have h3:((j:Int)+1).toNat=j+1:=by omega
  have h4:(0:Int)≤(j:Int)+1:=by omega
  simp only [qC,qN,vl,h3,h4,Int.natCast_nonneg,if_true,Int.toNat_natCast]
  rw [if_pos ⟨by omega,by simpa using h2,by simp,by simp, .inr (by simp)⟩,e]
  simp
 refine jb (c:=jg Tryz.f76) Tryz.func76 rfl rfl (by simp [Tryz.ntmps76]) ?_
 rw [Tryz.ntmps76]
 intro hwf
 have lm:=jr hwf gm
 have lo:=jr hwf go
 have bm:=fun u l => @jk S u l pm lm
 have bo:=fun u l => @jk S u l on lo
 have hd2:pm≠on:=Ne.symm hdo
 have mP:=fun ks=>qf (n:=S.nx) ks lm
 have mT:=fun ks=>jS (n:=S.nx) ks lm
 have oP:=fun ks=>qf (n:=S.nx) ks lo
 have oT:=fun ks=>jS (n:=S.nx) ks lo
 obtain ⟨stO,hstO⟩ : ∃ g:List Bool→List (Option (Nat × List V))→Store,g=fun o1 l=>St S [(pm,some (mkC (vl vint fi) (vl vint fo) (vl vint ts) (vl jc bs) on N (Ss.fl tu o o1))),(on,some (1,o1.map V.bool))] l:=⟨_,rfl⟩
 have cmark : ∀ (o1:List Bool) (l:List Int) (m:List (Option (Nat × List V))),Ss.Inc o o1→l.length≤4096→(∀ v∈l,Ss.InR N v)→VCalls Tryz.prog 75 [.ptr pm 0,vl vint l] (St S [(pm,some (mkC (vl vint fi) (vl vint fo) (vl vint ts) (vl jc bs) on N (Ss.fl tu o o1))),(on,some (1,o1.map V.bool))] m) fun v T=>v = .tuple []∧T=St S [(pm,some (mkC (vl vint fi) (vl vint fo) (vl vint ts) (vl jc bs) on N (Ss.fl tu o (Ss.marks o1 l)))),(on,some (1,(Ss.marks o1 l).map V.bool))] m:=fun o1 l m hi h1 h2=>by
  have:=RMark_v (vl vint fi) (vl vint fo) (vl vint ts) (vl jc bs) rfl rfl rfl rfl pm on N (Ss.fl tu o o1) o1 l (St S [(pm,some (mkC (vl vint fi) (vl vint fo) (vl vint ts) (vl jc bs) on N (Ss.fl tu o o1))),(on,some (1,o1.map V.bool))] m) (by rw [←hi.1]; exact hN) (by omega) h2 ((bm _ _).trans (by simp [uGet])) ((bo _ _).trans (by simp [uGet,hdo])) hdo
  rw [Ss.fl_trans hi (Ss.marks_inc _ _)] at this
  refine this.mono ?_
  rintro v T ⟨rfl,rfl⟩
  refine ⟨rfl, ?_⟩
  refine Store.ext' (funext fun q => ?_) (by simp [jx,lid])
  rw [zi]
  by_cases hq:q<(St S [(pm,some (mkC (vl vint fi) (vl vint fo) (vl vint ts) (vl jc bs) on N (Ss.fl tu o o1))),(on,some (1,o1.map V.bool))] m).nx
  ·rw [if_pos hq]
   by_cases hq2:q<S.nx
   ·rw [zi,zi,if_pos hq2,if_pos hq2]
    simp only [uGet]
    by_cases e1:q=pm
    ·simp [e1]
    ·by_cases e2:q=on
     ·simp [e2,hdo]
     ·simp [e1,e2]
   ·have e1:q≠pm:=by omega
    have e2:q≠on:=by omega
    rw [zi,zi,if_neg hq2,if_neg hq2]
    simp only [uGet,if_neg e1,if_neg e2]
  ·have hq3 : ¬ q<S.nx+m.length:=by simpa only [jx,lid] using hq
   rw [if_neg hq,zi,if_neg (show ¬ q<S.nx by omega),List.getElem?_eq_none (l:=m) (show m.length≤q-S.nx by omega)]
   simp
 clear hstO
 clear stO
 repeat (first|refine QG ?_|refine QY ?_ (r:=by conv=>lhs;simp[-List.map_set,QV,bm]))
 repeat refine QS ?_
 refine je [0,2] rfl (fun c σ S' => ∃ (k:Nat) (o1:List Bool),k≤bs.length∧c=bs.length-k∧Ss.Inc o o1∧(bs.drop k).foldl (Ss.rBlock bs) o1=bs.foldl (Ss.rBlock bs) o∧σ=[(0, .ptr pm 0),(2,vnat k)]∧S'=St S [(pm,some (mkC (vl vint fi) (vl vint fo) (vl vint ts) (vl jc bs) on N (Ss.fl tu o o1))),(on,some (1,o1.map V.bool))] []) bs.length ?_ ?_
 ·refine ⟨0,o,by omega,rfl, .refl _,rfl,by simp [Fr.only], ?_⟩
  rw [Ss.fl_refl]
  refine (jQ hwf).trans (Yj hwf _ fun p hp => ?_).symm
  simp only [List.mem_cons,List.not_mem_nil,or_false] at hp
  rcases hp with rfl | rfl
  ·exact gm
  ·exact go
 ·rintro c σ T ⟨k,o1,hk,rfl,hinc,hfold,rfl,rfl⟩
  by_cases hkt:k<bs.length
  ·have hw:=jm hkt (by omega)
   have hbm:bs[k]∈bs:=List.getElem_mem hkt
   rw [List.drop_eq_getElem_cons hkt,List.foldl_cons] at hfold
   have hbsm:=hsm.2.1 _ hbm
   have d0:=dout _ hbm
   have d1:=done _ hbm
   have d2:=darg _ hbm
   have d3:=dtargs _ hbm
   have d4:=dtarg _ hbm
   have d5:=deargs _ hbm
   have d6:=detos _ hbm
   obtain ⟨⟨ps,code,⟨tk,ta,to,az⟩⟩,hb⟩ : ∃ b,bs[k]=b:=⟨_,rfl⟩
   rw [hb] at hfold hbsm d0 d1 d2 d3 d4 d5 d6
   simp only [Ss.Block.small,Bool.and_eq_true,decide_eq_true_eq,List.all_eq_true] at hbsm
   obtain ⟨⟨⟨⟨s1,s2⟩,s3⟩,s4⟩,s5⟩:=hbsm
   have hcl:code.length≤4096:=by
    have h1:=hsm.2.2
    have h2:=Ju hbm
    rw [hb] at h2
    simp only at h2
    omega
   simp only [Ss.rBlock] at hfold
   simp only at d0 d1 d2 d3 d4 d5 d6 s4 s5
   repeat (first|refine QG ?_|refine QY ?_ (r:=by conv=>lhs;simp[-List.map_set,QV,hkt,hb,bm,hd2]))
   refine ji 3 rfl ((qS (k:=0) (by simp) (by rfl) (by rfl) (by simp))) (by conv=>lhs; simp [Fr.set]) ?_
   simp only [List.set_cons_succ,List.set_cons_zero]
   repeat (first|refine QG ?_|refine QY ?_)
   repeat refine QS ?_
   refine je [0,2,3,4] rfl (fun c σ S' => ∃ (j:Nat) (o2:List Bool),j≤code.length∧c=code.length-j∧Ss.Inc o o2∧(code.drop j).foldl Ss.rIns o2=code.foldl Ss.rIns o1∧σ=[(0, .ptr pm 0),(2,vnat k),(3,(V.agg [vl vint ps,vl jl code,vint tk,vint ta,vl jh to,vl vint az]).ref),(4,vnat j)]∧S'=St S [(pm,some (mkC (vl vint fi) (vl vint fo) (vl vint ts) (vl jc bs) on N (Ss.fl tu o o2))),(on,some (1,o2.map V.bool))] [none]) code.length ?_ ?_
   ·exact ⟨0,o1,by omega,rfl,hinc,rfl,by simp [Fr.only],rfl⟩
   ·rintro c σ T ⟨j,o2,hj,rfl,hinc2,hfold2,rfl,rfl⟩
    have hol:o2.length=N:=by rw [←hinc2.1]; exact hN
    by_cases hjt:j<code.length
    ·have hwj:=jm hjt (by omega)
     have hxm:code[j]∈code:=List.getElem_mem hjt
     rw [List.drop_eq_getElem_cons hjt,List.foldl_cons] at hfold2
     have x0:=d0 _ hxm
     have x1:=d1 _ hxm
     have x2:=d2 _ hxm
     have x3:=s4 _ hxm
     obtain ⟨⟨op,n,args,outs⟩,hx⟩ : ∃ x,code[j]=x:=⟨_,rfl⟩
     rw [hx] at hfold2 x0 x1 x2 x3
     simp only [Ss.Ins.small,Bool.and_eq_true,decide_eq_true_eq,Ss.rIns] at x0 x1 x2 x3 hfold2
     have cp:=RPure_v op
     repeat (first|refine QG ?_|refine QY ?_ (r:=by conv=>lhs;simp[-List.map_set,QV,hjt,hx]))
     refine ji 5 rfl ((qS (k:=1) (by simp) (by rfl) (by rfl) (by simp))) (by conv=>lhs; simp [Fr.set]) ?_
     simp only [List.set_cons_succ,List.set_cons_zero]
     generalize Ss.pure op=pp at *
     repeat refine QS ?_
     refine QP ?_
     refine jd (cp) (by rfl) ?_
     cases pp with
     | false =>
      simp only [Bool.false_eq_true,if_false] at hfold2
      have c1:=cmark o2 outs [none,none] hinc2 x3.2 x0
      have i1:=hinc2.trans (Ss.marks_inc o2 outs)
      have c2:=cmark _ args [none,none] i1 x3.1 x2
      have i2:=i1.trans (Ss.marks_inc _ args)
      generalize Ss.marks o2 outs=o3 at *
      generalize Ss.marks o3 args=o4 at *
      refine QM (by conv=>lhs;simp[-List.map_set,QV]) ?_
      refine QN ?_
      repeat (first|refine QG ?_|refine QY ?_)
      repeat refine QS ?_
      refine QP ?_
      refine jF rfl c1 ?_
      rintro X T9 ⟨rfl,rfl⟩
      refine QM (by conv=>lhs;simp[-List.map_set,QV]) ?_
      refine QN ?_
      repeat refine QS ?_
      refine QP ?_
      refine jF rfl c2 ?_
      rintro X T9 ⟨rfl,rfl⟩
      refine QM (by conv=>lhs;simp[-List.map_set,QV]) ?_
      refine QN ?_
      repeat (first|refine QG ?_|refine QY ?_ (r:=by conv=>lhs;simp[-List.map_set,QV,hwj]))
      refine jL [0] (by conv=>lhs; simp [Fr.only]) hwf (by decide) (by simp [-List.map_set,mP,mT,oP,oT]) (by conv=>lhs; simp [-List.map_set,mP,mT,oP,oT]) (by conv=>lhs; simp [-List.map_set,mP,mT,oP,oT]) (by conv=>lhs; simp [-List.map_set,mP,mT,oP,oT]) ⟨?_,j+1,o4,hjt,rfl,i2,hfold2,by simp [Fr.only,Fr.look,hwj],by simp⟩
      omega
     | true =>
      simp only [if_true] at hfold2
      obtain ⟨ov,rfl⟩:=x1 rfl
      obtain ⟨v0,v1⟩:=x0 ov (by simp)
      obtain ⟨m,rfl⟩ : ∃ m:Nat,ov=m:=⟨ov.toNat,by omega⟩
      have hmo:m<o2.length:=by omega
      have hmN:m<N:=by omega
      have hon:Ss.on o2 (m:Int)=o2[m]:=by rw [Ss.on,List.getD_eq_getElem?_getD,Int.toNat_natCast,List.getElem?_eq_getElem hmo]; rfl
      rw [List.getD_cons_zero,hon] at hfold2
      have c1:=cmark o2 args [none,none] hinc2 x3.1 x2
      have i1:=hinc2.trans (Ss.marks_inc o2 args)
      generalize Ss.marks o2 args=o3 at *
      refine QM (by conv=>lhs;simp[-List.map_set,QV]) ?_
      refine QN ?_
      repeat (first|refine QG ?_|refine QY ?_)
      cases hb:o2[m] with
      | true =>
       rw [hb] at hfold2
       simp only [if_true] at hfold2
       repeat refine QS ?_
       refine QD (r:=by conv=>lhs;simp[-List.map_set,QV,bm,bo,hd2,hdo,hmN,hmo,hb]) (k:=?_)
       refine QN ?_
       repeat (first|refine QG ?_|refine QY ?_)
       repeat refine QS ?_
       refine QP ?_
       refine jF rfl c1 ?_
       rintro X T9 ⟨rfl,rfl⟩
       refine QM (by conv=>lhs;simp[-List.map_set,QV]) ?_
       refine QN ?_
       repeat (first|refine QG ?_|refine QY ?_ (r:=by conv=>lhs;simp[-List.map_set,QV,hwj]))
       refine jL [0] (by conv=>lhs; simp [Fr.only]) hwf (by decide) (by simp [-List.map_set,mP,mT,oP,oT]) (by conv=>lhs; simp [-List.map_set,mP,mT,oP,oT]) (by conv=>lhs; simp [-List.map_set,mP,mT,oP,oT]) (by conv=>lhs; simp [-List.map_set,mP,mT,oP,oT]) ⟨?_,j+1,o3,hjt,rfl,i1,hfold2,by simp [Fr.only,Fr.look,hwj],by simp⟩
       omega
      | false =>
       rw [hb] at hfold2
       simp only [Bool.false_eq_true,if_false] at hfold2
       repeat refine QS ?_
       refine QD (r:=by conv=>lhs;simp[-List.map_set,QV,bm,bo,hd2,hdo,hmN,hmo,hb]) (k:=?_)
       refine QN ?_
       repeat (first|refine QG ?_|refine QY ?_ (r:=by conv=>lhs;simp[-List.map_set,QV,hwj]))
       refine jL [0] (by conv=>lhs; simp [Fr.only]) hwf (by decide) (by simp [-List.map_set,mP,mT,oP,oT]) (by conv=>lhs; simp [-List.map_set,mP,mT,oP,oT]) (by conv=>lhs; simp [-List.map_set,mP,mT,oP,oT]) (by conv=>lhs; simp [-List.map_set,mP,mT,oP,oT]) ⟨?_,j+1,o2,hjt,rfl,hinc2,hfold2,by simp [Fr.only,Fr.look,hwj],by simp⟩
       omega
    ·have hje:j=code.length:=by omega
     subst hje
     rw [List.drop_length,List.foldl_nil] at hfold2
     rw [←hfold2] at hfold
     repeat (first|refine QG ?_|refine QY ?_ (r:=by conv=>lhs;simp[-List.map_set,QV,hjt]))
     refine ji 6 rfl ((qS (k:=1) (by simp) (by rfl) (by rfl) (by simp))) (by conv=>lhs; simp [Fr.set]) ?_
     simp only [List.set_cons_succ,List.set_cons_zero]
     have c1:=cmark o2 az [none,none] hinc2 s3 d3
     have i1:=hinc2.trans (Ss.marks_inc o2 az)
     have hrt:Ss.rTerm o2 ⟨tk,ta,to,az⟩=if Ss.branches ⟨tk,ta,to,az⟩ then (Ss.marks o2 az).set ta.toNat true else Ss.marks o2 az:=rfl
     generalize Ss.marks o2 az=o3 at *
     repeat refine QS ?_
     refine QP ?_
     refine jF rfl c1 ?_
     rintro X T9 ⟨rfl,rfl⟩
     refine QM (by conv=>lhs;simp[-List.map_set,QV]) ?_
     refine QN ?_
     refine Je rfl ?_
     refine vw_joinR (fun σ S'=>σ=[(0, .ptr pm 0),(2,vnat k),(6, .ref (V.agg [.int .i64 tk, .int .i64 ta,vl jh to,vl vint az]))]∧S'=St S [(pm,some (mkC (vl vint fi) (vl vint fo) (vl vint ts) (vl jc bs) on N (Ss.fl tu o (Ss.rTerm o2 ⟨tk,ta,to,az⟩)))),(on,some (1,(Ss.rTerm o2 ⟨tk,ta,to,az⟩).map V.bool))] []) [0,2,6] ?_ ?_
     ·by_cases hbr:Ss.branches ⟨tk,ta,to,az⟩=true
      ·have hta:=d4 hbr
       rw [if_pos hbr] at hrt
       have c2:=cmark o3 [ta] [none,none,none] i1 (by simp) (fun v hv=>by rw [List.mem_singleton] at hv; subst hv; exact hta)
       have hm1:Ss.marks o3 [ta]=o3.set ta.toNat true:=rfl
       rw [hm1, ←hrt] at c2
       generalize Ss.rTerm o2 ⟨tk,ta,to,az⟩=o4 at *
       simp only [Ss.branches,Bool.or_eq_true,decide_eq_true_eq] at hbr
       by_cases h2:tk=2
       ·repeat (first|refine QG ?_|refine QY ?_ (r:=by conv=>lhs;simp[-List.map_set,QV,h2]))
        repeat refine QS ?_
        refine QP ?_
        refine jF rfl (jV (GhostArgs.one [_] [] (frz1 (k:=2) (len:=1) (by simp) rfl rfl rfl)) c2) ?_
        rintro X T9 ⟨rfl,rfl⟩
        refine QM (by conv=>lhs;simp[-List.map_set,QV]) ?_
        refine QN ?_
        repeat (first|refine QG ?_|refine QY ?_)
        refine mid_gc [0,2,6] [] (by conv=>lhs; simp [Fr.only]) hwf (by decide) (by simp [-List.map_set,mP,mT,oP,oT]) (by conv=>lhs; simp [-List.map_set,mP,mT,oP,oT]) (by conv=>lhs; simp [-List.map_set,mP,mT,oP,oT]) (by conv=>lhs; simp [-List.map_set,mP,mT,oP,oT]) (⟨by simp [h2],by simp⟩)
       ·have h3:tk=3:=by rcases hbr with h | h; exact absurd h h2; exact h
        repeat (first|refine QG ?_|refine QY ?_ (r:=by conv=>lhs;simp[-List.map_set,QV,h2,h3]))
        repeat refine QS ?_
        refine QP ?_
        refine jF rfl (jV (GhostArgs.one [_] [] (frz1 (k:=2) (len:=1) (by simp) rfl rfl rfl)) c2) ?_
        rintro X T9 ⟨rfl,rfl⟩
        refine QM (by conv=>lhs;simp[-List.map_set,QV]) ?_
        refine QN ?_
        repeat (first|refine QG ?_|refine QY ?_)
        refine mid_gc [0,2,6] [] (by conv=>lhs; simp [Fr.only]) hwf (by decide) (by simp [-List.map_set,mP,mT,oP,oT]) (by conv=>lhs; simp [-List.map_set,mP,mT,oP,oT]) (by conv=>lhs; simp [-List.map_set,mP,mT,oP,oT]) (by conv=>lhs; simp [-List.map_set,mP,mT,oP,oT]) (⟨by simp [h3],by simp⟩)
      ·rw [if_neg hbr] at hrt
       rw [hrt]
       simp only [Ss.branches,Bool.or_eq_true,decide_eq_true_eq,not_or] at hbr
       obtain ⟨h2,h3⟩:=hbr
       repeat (first|refine QG ?_|refine QY ?_ (r:=by conv=>lhs;simp[-List.map_set,QV,h2,h3]))
       refine mid_gc [0,2,6] [] (by conv=>lhs; simp [Fr.only]) hwf (by decide) (by simp [-List.map_set,mP,mT,oP,oT]) (by conv=>lhs; simp [-List.map_set,mP,mT,oP,oT]) (by conv=>lhs; simp [-List.map_set,mP,mT,oP,oT]) (by conv=>lhs; simp [-List.map_set,mP,mT,oP,oT]) (⟨by simp,by simp⟩)
     rintro σ S' ⟨rfl,rfl⟩
     have i2:Ss.Inc o (Ss.rTerm o2 ⟨tk,ta,to,az⟩):=hinc2.trans (Ss.term_inc _ _)
     generalize Ss.rTerm o2 ⟨tk,ta,to,az⟩=o4 at *
     clear c1 i1 hrt
     repeat (first|refine QG ?_|refine QY ?_)
     repeat refine QS ?_
     refine je [0,2,6,7] rfl (fun c σ S' => ∃ (j:Nat) (o5:List Bool),j≤to.length∧c=to.length-j∧Ss.Inc o o5∧(to.drop j).foldl (Ss.rEdge bs) o5=to.foldl (Ss.rEdge bs) o4∧σ=[(0, .ptr pm 0),(2,vnat k),(6, .ref (V.agg [.int .i64 tk, .int .i64 ta,vl jh to,vl vint az])),(7,vnat j)]∧S'=St S [(pm,some (mkC (vl vint fi) (vl vint fo) (vl vint ts) (vl jc bs) on N (Ss.fl tu o o5))),(on,some (1,o5.map V.bool))] []) to.length ?_ ?_
     ·exact ⟨0,o4,by omega,rfl,i2,rfl,by simp [Fr.only],rfl⟩
     ·rintro c σ T ⟨j,o5,hj,rfl,hinc5,hfold5,rfl,rfl⟩
      by_cases hjt:j<to.length
      ·have hwj:=jm hjt (by omega)
       have hem:to[j]∈to:=List.getElem_mem hjt
       rw [List.drop_eq_getElem_cons hjt,List.foldl_cons] at hfold5
       have x0:=d5 _ hem
       obtain ⟨y0,y1,y2⟩:=d6 _ hem
       have x2:=s5 _ hem
       obtain ⟨⟨et,ea⟩,hx⟩ : ∃ x,to[j]=x:=⟨_,rfl⟩
       rw [hx] at hfold5 x0 y0 y1 y2 x2
       simp only [Ss.Edge.small,decide_eq_true_eq] at x0 y0 y1 y2 x2
       obtain ⟨q,rfl⟩ : ∃ q:Nat,et=q:=⟨et.toNat,by omega⟩
       have hq:q<bs.length:=by omega
       have hgd:bs.getD ((q:Int)).toNat default=bs[q]:=by rw [List.getD_eq_getElem?_getD,Int.toNat_natCast,List.getElem?_eq_getElem hq]; rfl
       have hqm:bs[q]∈bs:=List.getElem_mem hq
       have hpr:=dpar _ hqm
       have hpl:bs[q].params.length≤4096:=by
        have:=hsm.2.1 _ hqm
        simp only [Ss.Block.small,Bool.and_eq_true,decide_eq_true_eq] at this
        exact this.1.1.1.1
       simp only [Ss.rEdge] at hfold5
       rw [hgd] at hfold5 y2
       obtain ⟨⟨qs,qc,qt⟩,hb2⟩ : ∃ b,bs[q]=b:=⟨_,rfl⟩
       rw [hb2] at hfold5 y2 hpr hpl
       obtain ⟨qt1,qt2,qt3,qt4⟩:=qt
       simp only at hfold5 y2 hpr hpl
       repeat (first|refine QG ?_|refine QY ?_ (r:=by conv=>lhs;simp[-List.map_set,QV,hjt]))
       repeat refine QS ?_
       refine QD (r:=by conv=>lhs;simp[-List.map_set,QV,bm,hd2,hjt,hx,hq,hb2]) (k:=?_)
       refine QN ?_
       repeat (first|refine QG ?_|refine QY ?_)
       repeat refine QS ?_
       refine je [0,2,6,7,8,9] rfl (fun c σ S' => ∃ (i:Nat) (o6:List Bool),i≤qs.length∧c=qs.length-i∧Ss.Inc o o6∧((qs.zip ea).drop i).foldl Ss.rPar o6=(qs.zip ea).foldl Ss.rPar o5∧σ=[(0, .ptr pm 0),(2,vnat k),(6, .ref (V.agg [.int .i64 tk, .int .i64 ta,vl jh to,vl vint az])),(7,vnat j),(8,vl vint qs),(9,vnat i)]∧S'=St S [(pm,some (mkC (vl vint fi) (vl vint fo) (vl vint ts) (vl jc bs) on N (Ss.fl tu o o6))),(on,some (1,o6.map V.bool))] []) qs.length ?_ ?_
       ·exact ⟨0,o5,by omega,rfl,hinc5,rfl,by simp [Fr.only],rfl⟩
       ·rintro c σ T ⟨i,o6,hi,rfl,hinc6,hfold6,rfl,rfl⟩
        have hol:o6.length=N:=by rw [←hinc6.1]; exact hN
        by_cases hit:i<qs.length
        ·have hwi:=jm hit (by omega)
         have hie:i<ea.length:=by omega
         have hiz:i<(qs.zip ea).length:=by rw [List.length_zip]; omega
         rw [List.drop_eq_getElem_cons hiz,List.foldl_cons,List.getElem_zip] at hfold6
         obtain ⟨v0,v1⟩:=hpr qs[i] (List.getElem_mem hit)
         obtain ⟨m,hqi⟩ : ∃ m:Nat,qs[i]=(m:Int):=⟨qs[i].toNat,by omega⟩
         have hai':=x0 ea[i] (List.getElem_mem hie)
         obtain ⟨a,hai⟩ : ∃ a,ea[i]=a:=⟨_,rfl⟩
         rw [hqi] at v0 v1
         rw [hqi,hai] at hfold6
         rw [hai] at hai'
         have hmo:m<o6.length:=by omega
         have hmN:m<N:=by omega
         have hon:Ss.on o6 (m:Int)=o6[m]:=by rw [Ss.on,List.getD_eq_getElem?_getD,Int.toNat_natCast,List.getElem?_eq_getElem hmo]; rfl
         have hsl:=fun S=>hslice S ea i a hie (by rw [List.getElem?_eq_getElem hie,hai])
         simp only [Ss.rPar] at hfold6
         rw [hon] at hfold6
         have c1:=cmark o6 [a] [] hinc6 (by simp) (fun v hv=>by rw [List.mem_singleton] at hv; subst hv; exact hai')
         have i1:=hinc6.trans (Ss.inc_set o6 a.toNat)
         have hm1:Ss.marks o6 [a]=o6.set a.toNat true:=rfl
         rw [hm1] at c1
         generalize o6.set a.toNat true=o7 at *
         repeat (first|refine QG ?_|refine QY ?_ (r:=by conv=>lhs;simp[-List.map_set,QV,hit]))
         cases hb:o6[m] with
         | true =>
          rw [hb] at hfold6
          simp only [if_true] at hfold6
          repeat refine QS ?_
          refine QD (r:=by conv=>lhs;simp[-List.map_set,QV,hit,hqi,bm,bo,hd2,hdo,hmN,hmo,hb]) (k:=?_)
          refine QN ?_
          repeat (first|refine QG ?_|refine QY ?_)
          repeat refine QS ?_
          refine QP ?_ (r:=by conv=>lhs;simp[-List.map_set,QV,hjt,hx,hsl,hwi])
          refine jF rfl c1 ?_
          rintro X T9 ⟨rfl,rfl⟩
          refine QM (by conv=>lhs;simp[-List.map_set,QV]) ?_
          refine QN ?_
          repeat (first|refine QG ?_|refine QY ?_ (r:=by conv=>lhs;simp[-List.map_set,QV,hwi]))
          show jt _ _ _ _ _ _ _
          exact again ⟨Nat.sub_lt_sub_left hit (Nat.lt_succ_self i),i+1,o7,hit,rfl,i1,hfold6,by simp [Fr.only,Fr.look,hwi],rfl⟩
         | false =>
          rw [hb] at hfold6
          simp only [Bool.false_eq_true,if_false] at hfold6
          repeat refine QS ?_
          refine QD (r:=by conv=>lhs;simp[-List.map_set,QV,hit,hqi,bm,bo,hd2,hdo,hmN,hmo,hb]) (k:=?_)
          refine QN ?_
          repeat (first|refine QG ?_|refine QY ?_ (r:=by conv=>lhs;simp[-List.map_set,QV,hwi]))
          show jt _ _ _ _ _ _ _
          exact again ⟨Nat.sub_lt_sub_left hit (Nat.lt_succ_self i),i+1,o6,hit,rfl,hinc6,hfold6,by simp [Fr.only,Fr.look,hwi],rfl⟩
        ·have hie:i=qs.length:=by omega
         subst hie
         rw [List.drop_of_length_le (by rw [List.length_zip]; omega),List.foldl_nil] at hfold6
         rw [←hfold6] at hfold5
         repeat (first|refine QG ?_|refine QY ?_ (r:=by conv=>lhs;simp[-List.map_set,QV,hit,hwj]))
         show jt _ _ _ _ _ _ _
         exact again ⟨Nat.sub_lt_sub_left hjt (Nat.lt_succ_self j),j+1,o6,hjt,rfl,hinc6,hfold5,by simp [Fr.only,Fr.look,hwj],rfl⟩
      ·have hje:j=to.length:=by omega
       subst hje
       rw [List.drop_length,List.foldl_nil] at hfold5
       rw [←hfold5] at hfold
       repeat (first|refine QG ?_|refine QY ?_ (r:=by conv=>lhs;simp[-List.map_set,QV,hjt,hw]))
       show jt _ _ _ _ _ _ _
       exact again ⟨Nat.sub_lt_sub_left hkt (Nat.lt_succ_self k),k+1,o5,hkt,rfl,hinc5,hfold,by simp [Fr.only,Fr.look,hw],rfl⟩
  ·have hke:k=bs.length:=by omega
   subst hke
   rw [List.drop_length,List.foldl_nil] at hfold
   subst hfold
   repeat (first|refine QG ?_|refine QY ?_ (r:=by conv=>lhs;simp[-List.map_set,QV,hkt,bm,hd2]))
   exact qE ⟨rfl,rfl⟩
end Go.Vw

namespace Ss
structure ThinB (b c:Block):Prop where
 params:c.params=b.params
 term:c.term=b.term
 sub:c.code.Sublist b.code
 keep:c.code.filter (fun x=>decide (x.op≠257))=b.code.filter fun x=>decide (x.op≠257)
theorem ThinB.refl (b:Block):ThinB b b:=⟨rfl,rfl,List.Sublist.refl _,rfl⟩
theorem ThinB.trans {a b c:Block} (h:ThinB a b) (k:ThinB b c):ThinB a c:=⟨k.params.trans h.params,k.term.trans h.term,k.sub.trans h.sub,k.keep.trans h.keep⟩
def ThinL (l m:List Block):Prop:=m.length=l.length ∧ ∀ (i:Nat) (b c:Block),l[i]? = some b→m[i]? = some c→ThinB b c
theorem ThinL.refl (l:List Block):ThinL l l:=⟨rfl,fun i b c h1 h2=>by rw [h1] at h2; cases h2; exact .refl b⟩
theorem ThinL.trans {l m n:List Block} (h:ThinL l m) (k:ThinL m n):ThinL l n:=by
 refine ⟨k.1.trans h.1,fun i b c h1 h2 => ?_⟩
 have hi:i<m.length:=by rw [h.1]; exact (List.getElem?_eq_some_iff.1 h1).1
 exact (h.2 i b m[i] h1 (List.getElem?_eq_getElem hi)).trans (k.2 i m[i] c (List.getElem?_eq_getElem hi) h2)
theorem ThinL.fits {l m:List Block} (h:ThinL l m) (hl : ∀ b∈l,b.Fits) : ∀ c∈m,c.Fits:=by
 intro c hc
 obtain ⟨i,hi⟩:=List.mem_iff_getElem?.1 hc
 have hil:i<l.length:=by rw [←h.1]; exact (List.getElem?_eq_some_iff.1 hi).1
 obtain ⟨h1,h2,h3,h4⟩:=h.2 i l[i] c (List.getElem?_eq_getElem hil) hi
 obtain ⟨k1,⟨k2,k3⟩,k4⟩:=hl _ (List.getElem_mem hil)
 exact ⟨by rw [h1]; exact k1,⟨Nat.le_trans h3.length_le k2,fun x hx=>k3 x (h3.subset hx)⟩,by rw [h2]; exact k4⟩
theorem emptyFn_fits:emptyFn.Fits:=by
 simp [emptyFn,Fn.Fits,Sig.Fits,Ints]
theorem ThinL.count : ∀ {l m:List Block},ThinL l m→count m≤count l
 | [],m,h=>by
  have:m=[]:=List.eq_nil_of_length_eq_zero h.1
  subst this; exact Nat.le_refl _
 | b::l,[],h=>by simp [Ss.count]
 | b::l,c::m,h=>by
  have h1:=(h.2 0 b c rfl rfl).sub.length_le
  have h2:ThinL l m:=⟨by have:=h.1; simpa using this,fun i x y hx hy=>h.2 (i+1) x y (by simpa using hx) (by simpa using hy)⟩
  have:=ThinL.count h2
  simp only [Ss.count,List.map_cons,List.sum_cons] at this ⊢
  omega
end Ss

namespace Ss
inductive Drop:List Ins→List Ins→Prop
 | nil:Drop [] []
 | keep (x:Ins) {l m:List Ins} (h:Drop l m):Drop (x::l) (x::m)
 | drop (x:Ins) {l m:List Ins} (o:x.op=257) (h:Drop l m):Drop (x::l) m
theorem Drop.refl : ∀ l:List Ins,Drop l l
 | [] => .nil
 | x::l => .keep x (Drop.refl l)
theorem Drop.trans {a b c:List Ins} (h:Drop a b):Drop b c→Drop a c:=by
 induction h generalizing c with
 | nil=>exact fun k=>k
 | keep x h ih =>
  intro k
  cases k with
  | keep _ k=>exact .keep x (ih k)
  | drop _ o k=>exact .drop x o (ih k)
 | drop x o h ih=>exact fun k => .drop x o (ih k)
theorem Drop.pos {l m:List Ins} (h:Drop l m) : ∃ φ:Nat→Nat,(∀ k k',k≤k'→φ k≤φ k')∧(∀ k x,l[k]? = some x→x.op≠257→m[φ k]? = some x ∧ ∀ k',k<k'→φ k<φ k')∧(∀ j y,m[j]? = some y → ∃ k,l[k]? = some y∧φ k=j)∧φ l.length=m.length:=by
 induction h with
 | nil=>exact ⟨fun _=>0,fun _ _ _=>Nat.le_refl _,by simp,by simp,rfl⟩
 | @keep x l m h ih =>
  obtain ⟨φ,h1,h2,h3,h4⟩:=ih
  refine ⟨fun k=>match k with | 0=>0 | k+1=>φ k+1,fun k k' hk => ?_,fun k y hk ho => ?_,fun j y hj => ?_,by simp [h4]⟩
  ·cases k with
   | zero=>simp
   | succ k=>cases k' with
    | zero=>omega
    | succ k'=>have:=h1 k k' (by omega); simp only; omega
  ·cases k with
   | zero=>exact ⟨by simpa using hk,fun k' hk'=>by cases k' with | zero=>omega | succ k'=>simp⟩
   | succ k =>
    obtain ⟨g1,g2⟩:=h2 k y (by simpa using hk) ho
    exact ⟨by simpa using g1,fun k' hk'=>by cases k' with | zero=>omega | succ k'=>have:=g2 k' (by omega); simp only; omega⟩
  ·cases j with
   | zero=>exact ⟨0,by simpa using hj,rfl⟩
   | succ j =>
    obtain ⟨k,e1,e2⟩:=h3 j y (by simpa using hj)
    exact ⟨k+1,by simpa using e1,by simp [e2]⟩
 | @drop x l m o h ih =>
  obtain ⟨φ,h1,h2,h3,h4⟩:=ih
  refine ⟨fun k=>match k with | 0=>0 | k+1=>φ k,fun k k' hk => ?_,fun k y hk ho => ?_,fun j y hj => ?_,by simp [h4]⟩
  ·cases k with
   | zero=>simp
   | succ k=>cases k' with
    | zero=>omega
    | succ k'=>exact h1 k k' (by omega)
  ·cases k with
   | zero =>
    simp only [List.getElem?_cons_zero,Option.some.injEq] at hk
    subst hk; exact absurd o ho
   | succ k =>
    obtain ⟨g1,g2⟩:=h2 k y (by simpa using hk) ho
    exact ⟨g1,fun k' hk'=>by cases k' with | zero=>omega | succ k'=>exact g2 k' (by omega)⟩
  ·obtain ⟨k,e1,e2⟩:=h3 j y hj
   exact ⟨k+1,by simpa using e1,e2⟩
theorem Drop.outs {l m:List Ins} (h:Drop l m) (ho : ∀ x∈l,x.op=257→x.outs=[]):jbq m=jbq l:=by
 induction h with
 | nil=>rfl
 | @keep x l m h ih=>simp only [jbq,List.flatMap_cons] at ih ⊢; rw [ih fun y hy=>ho y (by simp [hy])]
 | @drop x l m o h ih =>
  simp only [jbq,List.flatMap_cons] at ih ⊢
  rw [ih fun y hy=>ho y (by simp [hy]),ho x (by simp) o,List.nil_append]
theorem Drop.tick {l m:List Ins} (h:Drop l m):(m.any fun x=>decide (x.op=258))=l.any fun x=>decide (x.op=258):=by
 induction h with
 | nil=>rfl
 | keep x h ih=>simp only [List.any_cons,ih]
 | drop x o h ih=>simp only [List.any_cons,ih,o]; simp
def DropL (l m:List Block):Prop:=m.length=l.length ∧ ∀ (i:Nat) (b c:Block),l[i]? = some b→m[i]? = some c→c.params=b.params∧c.term=b.term∧Drop b.code c.code
theorem DropL.refl (l:List Block):DropL l l:=⟨rfl,fun i b c h1 h2=>by rw [h1] at h2; cases h2; exact ⟨rfl,rfl, .refl _⟩⟩
theorem DropL.trans {l m n:List Block} (h:DropL l m) (k:DropL m n):DropL l n:=by
 refine ⟨k.1.trans h.1,fun i b c h1 h2 => ?_⟩
 have hi:i<m.length:=by rw [h.1]; exact (List.getElem?_eq_some_iff.1 h1).1
 obtain ⟨a1,a2,a3⟩:=h.2 i b m[i] h1 (List.getElem?_eq_getElem hi)
 obtain ⟨b1,b2,b3⟩:=k.2 i m[i] c (List.getElem?_eq_getElem hi) h2
 exact ⟨b1.trans a1,b2.trans a2,a3.trans b3⟩
theorem DropL.map {α:Type} {l m:List Block} (h:DropL l m) (F:Block→α) (hF : ∀ b c:Block,b∈l→c.params=b.params→c.term=b.term→Drop b.code c.code→F c=F b):m.map F=l.map F:=by
 apply List.ext_getElem?
 intro i
 rw [List.getElem?_map,List.getElem?_map]
 by_cases hi:i<l.length
 ·have hi2:i<m.length:=by rw [h.1]; exact hi
  rw [List.getElem?_eq_getElem hi,List.getElem?_eq_getElem hi2]
  obtain ⟨h1,h2,h3⟩:=h.2 i l[i] m[i] (List.getElem?_eq_getElem hi) (List.getElem?_eq_getElem hi2)
  simp only [Option.map_some,Option.some.injEq]
  exact hF _ _ (List.getElem_mem hi) h1 h2 h3
 ·rw [List.getElem?_eq_none (by rw [h.1]; omega),List.getElem?_eq_none (by omega)]
end Ss
