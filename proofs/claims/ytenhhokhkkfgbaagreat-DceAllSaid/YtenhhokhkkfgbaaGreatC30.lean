import Derived.Test.YtenhhokhkkfgbaaGreatC25
import Derived.Test.YtenhhokhkkfgbaaGreatC29
import Derived.Test.YtenhhokhkkfgbaaGreatC21
/-
  Part of the proof (texts DRMark, CNum, DPureR).
-/
set_option linter.unusedVariables false
set_option linter.unusedSimpArgs false
namespace Ss
def fl (t:Bool) (a b:List Bool):Bool:=t||decide (b≠a)
theorem fl_refl (t:Bool) (a:List Bool):fl t a a=t:=by simp [fl]
theorem fl_trans {t:Bool} {a b c:List Bool} (h:Inc a b) (k:Inc b c):fl (fl t a b) b c=fl t a c:=by
 unfold fl
 by_cases e1:b=a
 ·subst e1; simp
 ·by_cases e2:c=b
  ·subst e2; simp
  ·have:c≠a:=fun e=>by subst e; exact e1 (k.anti h)
   simp [e1,e2,this]
theorem fl_set {t:Bool} {o:List Bool} {m:Nat} (h:o[m]? = some false):fl t o (o.set m true)=true:=by
 have:o.set m true≠o:=fun e=>by
  have h1:(o.set m true)[m]? = some true:=List.getElem?_set_self (List.getElem?_eq_some_iff.1 h).1
  rw [e,h] at h1; cases h1
 simp [fl,this]
theorem set_keep {o:List Bool} {m:Nat} (h:o[m]? = some true):o.set m true=o:=by
 apply List.ext_getElem?
 intro i
 rw [List.getElem?_set]
 split
 ·rename_i e; subst e; rw [h]; simp [(List.getElem?_eq_some_iff.1 h).1]
 ·rfl
end Ss
namespace Go.Vw
open Go.Proofs Go.RowKit
set_option maxRecDepth 10000
set_option maxHeartbeats 2000000
abbrev mkC (x0 x1 x2 x3:V) (on N:Nat) (t:Bool):Nat × List V:=(6,[x0,x1,x2,x3, .slice on 0 N, .bool t])
theorem RMark_v (x0 x1 x2 x3:V) (h0:x0.closed1=true) (h1:x1.closed1=true) (h2:x2.closed1=true) (h3:x3.closed1=true) (pm on N:Nat) (tu:Bool) (o:List Bool) (l:List Int) (S:Store) (hN:o.length=N) (hll:l.length<2^62) (hl : ∀ v∈l,Ss.InR N v)
  (gm:S.get pm=some (mkC x0 x1 x2 x3 on N tu)) (go:S.get on=some (1,o.map V.bool)) (hd:on≠pm) :
  VCalls Tryz.prog 75 [.ptr pm 0,vl vint l] S fun v T=>v = .tuple []∧T=St S [(pm,some (mkC x0 x1 x2 x3 on N (Ss.fl tu o (Ss.marks o l)))),(on,some (1,(Ss.marks o l).map V.bool))] []:=by
 refine vcalls_start (c:=bodyOf Tryz.f75) Tryz.func75 rfl rfl (by simp [Tryz.ntmps75]) ?_
 rw [Tryz.ntmps75]
 intro hwf
 have lm:=old_lt hwf gm
 have lo:=old_lt hwf go
 have bm:=fun u l => @St_old S u l pm lm
 have bo:=fun u l => @St_old S u l on lo
 have hd2:pm≠on:=Ne.symm hd
 repeat (first|refine QG ?_|refine QX (r:=by conv=>lhs;simp[-List.map_set,QV]) (k:=?_))
 repeat refine QS ?_
 refine vw_loopAt [0,1,4] rfl (fun c σ S' => ∃ (k:Nat) (o1:List Bool),k≤l.length∧c=l.length-k∧Ss.Inc o o1∧Ss.marks o1 (l.drop k)=Ss.marks o l∧σ=[(0, .ptr pm 0),(1,vl vint l),(4,vnat k)]∧S'=St S [(pm,some (mkC x0 x1 x2 x3 on N (Ss.fl tu o o1))),(on,some (1,o1.map V.bool))] []) l.length ?_ ?_
 ·refine ⟨0,o,by omega,rfl, .refl _,rfl,by simp [Fr.only], ?_⟩
  rw [Ss.fl_refl]
  refine (St_nil hwf).trans (St_tell hwf _ fun p hp => ?_).symm
  simp only [List.mem_cons,List.not_mem_nil,or_false] at hp
  rcases hp with rfl | rfl
  ·exact gm
  ·exact go
 ·rintro c σ T ⟨k,o1,hk,rfl,hinc,hmk,rfl,rfl⟩
  have hol:o1.length=N:=by rw [←hinc.1]; exact hN
  by_cases hkt:k<l.length
  ·have hw:=wrapNat hkt (by omega)
   obtain ⟨v0,v1⟩:=hl l[k] (List.getElem_mem hkt)
   obtain ⟨m,hlk⟩ : ∃ m:Nat,l[k]=(m:Int):=⟨l[k].toNat,by omega⟩
   rw [hlk] at v0 v1
   have hmo:m<o1.length:=by omega
   have hmN:m<N:=by omega
   rw [List.drop_eq_getElem_cons hkt,hlk] at hmk
   have hst:Ss.marks o1 ((m:Int)::l.drop (k+1))=Ss.marks (o1.set m true) (l.drop (k+1)):=rfl
   rw [hst] at hmk
   have hup : ∀ x y c,(St S [(pm,x),(on,y)] []).upd on c=St S [(pm,x),(on,some c)] []:=fun x y c=>by rw [St_updOld lo]; simp [uSet,hd]
   have hup2 : ∀ x y c,(St S [(pm,x),(on,y)] []).upd pm c=St S [(pm,some c),(on,y)] []:=fun x y c=>by rw [St_updOld lm]; simp [uSet]
   cases hb:o1[m] with
   | true =>
    have hs:o1.set m true=o1:=Ss.set_keep (by rw [List.getElem?_eq_getElem hmo,hb])
    rw [hs] at hmk
    repeat (first|refine QG ?_|refine QX (r:=by conv=>lhs;simp[-List.map_set,QV,hkt]) (k:=?_))
    repeat refine QS ?_
    refine QD (r:=by conv=>lhs;simp[-List.map_set,QV,hkt,hlk,bm,bo,hd,hd2,hmN,hmo,hb]) (k:=?_)
    refine QN ?_
    repeat (first|refine QG ?_|refine QX (r:=by conv=>lhs;simp[-List.map_set,QV,hw]) (k:=?_))
    show Again _ _ _ _ _ _ _
    exact again ⟨Nat.sub_lt_sub_left hkt (Nat.lt_succ_self k),k+1,o1,hkt,rfl,hinc,hmk,by simp [Fr.only,Fr.look,hw],rfl⟩
   | false =>
    have hsf:=Ss.fl_set (t:=Ss.fl tu o o1) (o:=o1) (m:=m) (by rw [List.getElem?_eq_getElem hmo,hb])
    rw [Ss.fl_trans hinc (Ss.inc_set _ _)] at hsf
    have hok : ∀ u l,(∃ c,uGet u pm (S.get pm)=some (6,c))→zE.Sub (St S u l)∧(z1 pm (6,[])).Shp (St S u l):=fun u l h1=>by
     obtain ⟨c,h1⟩:=h1
     exact ⟨(zE_ok _).1,z1_shp ((bm u l).trans h1) rfl⟩
    repeat (first|refine QG ?_|refine QX (r:=by conv=>lhs;simp[-List.map_set,QV,hkt]) (k:=?_))
    repeat refine QS ?_
    refine QD (r:=by conv=>lhs;simp[-List.map_set,QV,hkt,hlk,bm,bo,hd,hd2,hmN,hmo,hb]) (k:=?_)
    refine QN ?_
    repeat (first|refine QG ?_|refine QX (r:=by conv=>lhs;simp[-List.map_set,QV]) (k:=?_))
    have hz:(z1 pm (6,[])).get pm=some (6,[]):=by simp [z1]
    repeat refine QS ?_
    refine vw_drawW (zE) (z1 pm (6,[])) [23,24,25,28,29,31] rfl (by kernel_rfl) (by conv=>lhs; reduce) (by conv=>lhs; reduce) (by kernel_rfl) (by kernel_rfl) (hok _ _ ⟨_,by simp [uGet]; rfl⟩) (by conv=>lhs; simp [-List.map_set,QV,hkt,hlk,bm,bo,hd,hd2,hmN,hmo,hz]) ?_
    refine vseg_write rfl (by conv=>lhs; simp [-List.map_set,QV,hup,bo,hd,hmo]) (hok [(pm,some (mkC x0 x1 x2 x3 on N (Ss.fl tu o o1))),(on,some (1,(o1.set m true).map V.bool))] _ ⟨_,by simp [uGet]; rfl⟩) ?_
    refine QM (by conv=>lhs;simp[-List.map_set,QV,hz]) ?_
    refine vseg_write rfl (by conv=>lhs; simp [-List.map_set,QV,hup2,bm,hd]) (hok [(pm,some (mkC x0 x1 x2 x3 on N true)),(on,some (1,(o1.set m true).map V.bool))] _ ⟨_,by simp [uGet]; rfl⟩) ?_
    refine QN ?_
    repeat (first|refine QG ?_|refine QX (r:=by conv=>lhs;simp[-List.map_set,QV,hw]) (k:=?_))
    show Again _ _ _ _ _ _ _
    exact again ⟨Nat.sub_lt_sub_left hkt (Nat.lt_succ_self k),k+1,o1.set m true,hkt,rfl,hinc.trans (Ss.inc_set _ _),hmk,by simp [Fr.only,Fr.look,hw],by rw [hsf]⟩
  ·have hke:k=l.length:=by omega
   subst hke
   rw [List.drop_length] at hmk
   have hmk2:o1=Ss.marks o l:=hmk
   subst hmk2
   repeat (first|refine QG ?_|refine QX (r:=by conv=>lhs;simp[-List.map_set,QV,hkt]) (k:=?_))
   exact done_as ⟨rfl,rfl⟩
end Go.Vw

namespace Ss
def rin (op a b:Int):Bool:=decide (a≤op)&&decide (op≤b)
def rof (op:Int):Int :=
 if rin op 69 79∨rin op 103 120∨op=172∨op=173∨op=192∨op=193 then 127
 else if rin op 80 90∨rin op 121 138∨op=167∨rin op 194 196 then 126 else 0
def runary (op:Int):Bool:=decide (op=69)||(decide (op=80)||(rin op 103 105||(rin op 121 123||decide (167≤op))))
def rsigT (op:Int):Int:=if op=172∨op=173 then 126 else if rin op 69 90∨op=167 then 127 else rof op
def rsig (op:Int):List Int × Int × Bool :=
 if rof op=0 then ([],0,false) else (if runary op then [rof op] else [rof op,rof op],rsigT op,true)
theorem rsig_small : ∀ n:Nat,n<256→rsig (n:Int)=numSig (n:Int):=by decide +kernel
theorem rsig_eq (op:Int):rsig op=numSig op:=by
 by_cases h:0≤op∧op<256
 ·obtain ⟨n,rfl⟩:=Int.eq_ofNat_of_zero_le h.1
  exact rsig_small n (by have:=h.2; omega)
 ·have h1:rof op=0:=by
   unfold rof
   rw [if_neg (by simp only [rin,Bool.and_eq_true,decide_eq_true_eq]; omega),if_neg (by simp only [rin,Bool.and_eq_true,decide_eq_true_eq]; omega)]
  have h2:find op=none:=by
   cases hf:find op with
   | none=>rfl
   | some g =>
    exfalso
    obtain ⟨hm,hh⟩:=findIn_mem hf
    have ha : ∀ g∈groups,0≤g.first∧g.first+g.many≤256:=by decide +kernel
    have:=ha g hm
    simp only [Grp.has,Bool.and_eq_true,decide_eq_true_eq] at hh
    omega
  simp [rsig,h1,numSig,h2]
end Ss
namespace Go.Vw
open Go.Proofs Go.RowKit
set_option maxRecDepth 10000
set_option maxHeartbeats 2000000
theorem in_v (op a b:Int):VPure Tryz.prog 90 [vint op,vint a,vint b] (.bool (Ss.rin op a b)):=by
 intro S
 by_cases h:a≤op
 ·have hX:Ss.rin op a b=decide (op≤b):=by simp [Ss.rin,h]
  rw [hX]
  refine vcalls_start (c:=bodyOf Tryz.f90) Tryz.func90 rfl rfl (by simp [Tryz.ntmps90]) ?_
  rw [Tryz.ntmps90]
  intro hwf
  repeat (first|refine QG ?_|refine QX (r:=by conv=>lhs;simp[-List.map_set,QV,h]) (k:=?_))
  exact done_pure hwf (by simp) rfl
 ·have hX:Ss.rin op a b=false:=by simp [Ss.rin,h]
  rw [hX]
  refine vcalls_start (c:=bodyOf Tryz.f90) Tryz.func90 rfl rfl (by simp [Tryz.ntmps90]) ?_
  rw [Tryz.ntmps90]
  intro hwf
  repeat (first|refine QG ?_|refine QX (r:=by conv=>lhs;simp[-List.map_set,QV,h]) (k:=?_))
  exact done_pure hwf (by simp) rfl
theorem Fits_v (t n:Int):VPure Tryz.prog 84 [vint t,vu n] (.bool (decide (t=126)||(decide (t=127)&&decide (n<4294967296)))):=by
 intro S
 refine vcalls_start (c:=bodyOf Tryz.f84) Tryz.func84 rfl rfl (by simp [Tryz.ntmps84]) ?_
 rw [Tryz.ntmps84]
 intro hwf
 by_cases h:t=126
 ·repeat (first|refine QG ?_|refine QX (r:=by conv=>lhs;simp[-List.map_set,QV,h]) (k:=?_))
  exact done_pure hwf (by simp [h]) rfl
 by_cases h2:t=127
 ·repeat (first|refine QG ?_|refine QX (r:=by conv=>lhs;simp[-List.map_set,QV,h,h2]) (k:=?_))
  exact done_pure hwf (by simp [h,h2]) rfl
 ·repeat (first|refine QG ?_|refine QX (r:=by conv=>lhs;simp[-List.map_set,QV,h,h2]) (k:=?_))
  exact done_pure hwf (by simp [h,h2]) rfl
theorem Of_v (op:Int):VPure Tryz.prog 89 [vint op] (vint (Ss.rof op)):=by
 intro S
 have c1:VPure Tryz.prog 90 [vint op, .int .i64 69, .int .i64 79] (.bool (Ss.rin op 69 79)):=in_v op 69 79
 have c2:VPure Tryz.prog 90 [vint op, .int .i64 103, .int .i64 120] (.bool (Ss.rin op 103 120)):=in_v op 103 120
 have c3:VPure Tryz.prog 90 [vint op, .int .i64 80, .int .i64 90] (.bool (Ss.rin op 80 90)):=in_v op 80 90
 have c4:VPure Tryz.prog 90 [vint op, .int .i64 121, .int .i64 138] (.bool (Ss.rin op 121 138)):=in_v op 121 138
 have c5:VPure Tryz.prog 90 [vint op, .int .i64 194, .int .i64 196] (.bool (Ss.rin op 194 196)):=in_v op 194 196
 have hX:Ss.rof op=if Ss.rin op 69 79∨Ss.rin op 103 120∨op=172∨op=173∨op=192∨op=193 then 127
  else if Ss.rin op 80 90∨Ss.rin op 121 138∨op=167∨Ss.rin op 194 196 then 126 else 0:=rfl
 rw [hX]
 generalize Ss.rin op 69 79=x1 at *
 generalize Ss.rin op 103 120=x2 at *
 generalize Ss.rin op 80 90=x3 at *
 generalize Ss.rin op 121 138=x4 at *
 generalize Ss.rin op 194 196=x5 at *
 clear hX
 refine vcalls_start (c:=bodyOf Tryz.f89) Tryz.func89 rfl rfl (by simp [Tryz.ntmps89]) ?_
 rw [Tryz.ntmps89]
 intro hwf
 repeat (first|refine QG ?_|refine QX (r:=by conv=>lhs;simp[-List.map_set,QV]) (k:=?_))
 repeat refine QS ?_
 refine QR (r:=by conv=>lhs;simp[-List.map_set,QV]) (k:=?_)
 refine vcall_useH (c1) (by rfl) ?_
 by_cases h1:x1=true
 ·refine QM (by conv=>lhs;simp[-List.map_set,QV,h1]) ?_
  refine QN ?_
  repeat (first|refine QG ?_|refine QX (r:=by conv=>lhs;simp[-List.map_set,QV]) (k:=?_))
  exact done_pure hwf (by simp [h1]) rfl
 have g1:x1=false:=by simpa using h1
 refine QM (by conv=>lhs;simp[-List.map_set,QV,g1]) ?_
 refine vcall_useH (c2) (by rfl) ?_
 by_cases h2:x2=true
 ·refine QM (by conv=>lhs;simp[-List.map_set,QV,h2]) ?_
  refine QN ?_
  repeat (first|refine QG ?_|refine QX (r:=by conv=>lhs;simp[-List.map_set,QV]) (k:=?_))
  exact done_pure hwf (by simp [h2]) rfl
 have g2:x2=false:=by simpa using h2
 by_cases k1:op=172
 ·refine QM (by conv=>lhs;simp[-List.map_set,QV,g2,k1]) ?_
  refine QN ?_
  repeat (first|refine QG ?_|refine QX (r:=by conv=>lhs;simp[-List.map_set,QV]) (k:=?_))
  exact done_pure hwf (by simp [k1]) rfl
 by_cases k2:op=173
 ·refine QM (by conv=>lhs;simp[-List.map_set,QV,g2,k1,k2]) ?_
  refine QN ?_
  repeat (first|refine QG ?_|refine QX (r:=by conv=>lhs;simp[-List.map_set,QV]) (k:=?_))
  exact done_pure hwf (by simp [k2]) rfl
 by_cases k3:op=192
 ·refine QM (by conv=>lhs;simp[-List.map_set,QV,g2,k1,k2,k3]) ?_
  refine QN ?_
  repeat (first|refine QG ?_|refine QX (r:=by conv=>lhs;simp[-List.map_set,QV]) (k:=?_))
  exact done_pure hwf (by simp [k3]) rfl
 by_cases k4:op=193
 ·refine QM (by conv=>lhs;simp[-List.map_set,QV,g2,k1,k2,k3,k4]) ?_
  refine QN ?_
  repeat (first|refine QG ?_|refine QX (r:=by conv=>lhs;simp[-List.map_set,QV]) (k:=?_))
  exact done_pure hwf (by simp [k4]) rfl
 rw [if_neg (by simp [g1,g2,k1,k2,k3,k4])]
 refine QM (by conv=>lhs;simp[-List.map_set,QV,g2,k1,k2,k3,k4]) ?_
 refine QN ?_
 repeat (first|refine QG ?_|refine QX (r:=by conv=>lhs;simp[-List.map_set,QV]) (k:=?_))
 repeat refine QS ?_
 refine QR (r:=by conv=>lhs;simp[-List.map_set,QV]) (k:=?_)
 refine vcall_useH (c3) (by rfl) ?_
 by_cases h3:x3=true
 ·refine QM (by conv=>lhs;simp[-List.map_set,QV,h3]) ?_
  refine QN ?_
  repeat (first|refine QG ?_|refine QX (r:=by conv=>lhs;simp[-List.map_set,QV]) (k:=?_))
  exact done_pure hwf (by simp [h3]) rfl
 have g3:x3=false:=by simpa using h3
 refine QM (by conv=>lhs;simp[-List.map_set,QV,g3]) ?_
 refine vcall_useH (c4) (by rfl) ?_
 by_cases h4:x4=true
 ·refine QM (by conv=>lhs;simp[-List.map_set,QV,h4]) ?_
  refine QN ?_
  repeat (first|refine QG ?_|refine QX (r:=by conv=>lhs;simp[-List.map_set,QV]) (k:=?_))
  exact done_pure hwf (by simp [h4]) rfl
 have g4:x4=false:=by simpa using h4
 by_cases k5:op=167
 ·refine QM (by conv=>lhs;simp[-List.map_set,QV,g4,k5]) ?_
  refine QN ?_
  repeat (first|refine QG ?_|refine QX (r:=by conv=>lhs;simp[-List.map_set,QV]) (k:=?_))
  exact done_pure hwf (by simp [k5]) rfl
 refine QM (by conv=>lhs;simp[-List.map_set,QV,g4,k5]) ?_
 refine vcall_useH (c5) (by rfl) ?_
 by_cases h5:x5=true
 ·refine QM (by conv=>lhs;simp[-List.map_set,QV,h5]) ?_
  refine QN ?_
  repeat (first|refine QG ?_|refine QX (r:=by conv=>lhs;simp[-List.map_set,QV]) (k:=?_))
  exact done_pure hwf (by simp [h5]) rfl
 have g5:x5=false:=by simpa using h5
 refine QM (by conv=>lhs;simp[-List.map_set,QV,g5]) ?_
 refine QN ?_
 repeat (first|refine QG ?_|refine QX (r:=by conv=>lhs;simp[-List.map_set,QV]) (k:=?_))
 exact done_pure hwf (by simp [g3,g4,k5,g5]) rfl
theorem Unary_v (op:Int):VPure Tryz.prog 132 [vint op] (.bool (Ss.runary op)):=by
 intro S
 have c1:VPure Tryz.prog 90 [vint op, .int .i64 103, .int .i64 105] (.bool (Ss.rin op 103 105)):=in_v op 103 105
 have c2:VPure Tryz.prog 90 [vint op, .int .i64 121, .int .i64 123] (.bool (Ss.rin op 121 123)):=in_v op 121 123
 have hX:Ss.runary op=(decide (op=69)||(decide (op=80)||(Ss.rin op 103 105||(Ss.rin op 121 123||decide (167≤op))))):=rfl
 rw [hX]
 generalize Ss.rin op 103 105=x1 at *
 generalize Ss.rin op 121 123=x2 at *
 refine vcalls_start (c:=bodyOf Tryz.f132) Tryz.func132 rfl rfl (by simp [Tryz.ntmps132]) ?_
 rw [Tryz.ntmps132]
 intro hwf
 by_cases k1:op=69
 ·repeat (first|refine QG ?_|refine QX (r:=by conv=>lhs;simp[-List.map_set,QV,k1]) (k:=?_))
  exact done_pure hwf (by simp [k1]) rfl
 by_cases k2:op=80
 ·repeat (first|refine QG ?_|refine QX (r:=by conv=>lhs;simp[-List.map_set,QV,k1,k2]) (k:=?_))
  exact done_pure hwf (by simp [k2]) rfl
 repeat (first|refine QG ?_|refine QX (r:=by conv=>lhs;simp[-List.map_set,QV]) (k:=?_))
 repeat refine QS ?_
 refine QR (r:=by conv=>lhs;simp[-List.map_set,QV,k1,k2]) (k:=?_)
 refine vcall_useH (c1) (by rfl) ?_
 by_cases h1:x1=true
 ·refine QM (by conv=>lhs;simp[-List.map_set,QV,h1]) ?_
  refine QN ?_
  repeat (first|refine QG ?_|refine QX (r:=by conv=>lhs;simp[-List.map_set,QV]) (k:=?_))
  exact done_pure hwf (by simp [h1]) rfl
 have g1:x1=false:=by simpa using h1
 refine QM (by conv=>lhs;simp[-List.map_set,QV,g1]) ?_
 refine vcall_useH (c2) (by rfl) ?_
 by_cases h2:x2=true
 ·refine QM (by conv=>lhs;simp[-List.map_set,QV,h2]) ?_
  refine QN ?_
  repeat (first|refine QG ?_|refine QX (r:=by conv=>lhs;simp[-List.map_set,QV]) (k:=?_))
  exact done_pure hwf (by simp [h2]) rfl
 have g2:x2=false:=by simpa using h2
 refine QM (by conv=>lhs;simp[-List.map_set,QV,g2]) ?_
 refine QN ?_
 repeat (first|refine QG ?_|refine QX (r:=by conv=>lhs;simp[-List.map_set,QV]) (k:=?_))
 exact done_pure hwf (by simp [k1,k2,g1,g2]) rfl
theorem RNumSig_v (op:Int):VPure Tryz.prog 109 [vint op] (.tuple [vl vint (Ss.numSig op).1,vint (Ss.numSig op).2.1, .bool (Ss.numSig op).2.2]):=by
 intro S
 rw [←Ss.rsig_eq op]
 have c1:=Of_v op
 have c2:=Unary_v op
 have c3:VPure Tryz.prog 90 [vint op, .int .i64 69, .int .i64 90] (.bool (Ss.rin op 69 90)):=in_v op 69 90
 have hX:Ss.rsig op=if Ss.rof op=0 then ([],0,false) else (if Ss.runary op then [Ss.rof op] else [Ss.rof op,Ss.rof op],if op=172∨op=173 then 126 else if Ss.rin op 69 90∨op=167 then 127 else Ss.rof op,true):=rfl
 rw [hX]
 generalize Ss.rof op=t at *
 generalize Ss.runary op=un at *
 generalize Ss.rin op 69 90=x at *
 clear hX
 refine vcalls_start (c:=bodyOf Tryz.f109) Tryz.func109 rfl rfl (by simp [Tryz.ntmps109]) ?_
 rw [Tryz.ntmps109]
 intro hwf
 repeat (first|refine QG ?_|refine QX (r:=by conv=>lhs;simp[-List.map_set,QV]) (k:=?_))
 repeat refine QS ?_
 refine QR (r:=by conv=>lhs;simp[-List.map_set,QV]) (k:=?_)
 refine vcall_useH (c1) (by rfl) ?_
 by_cases ht:t=0
 ·refine QM (by conv=>lhs;simp[-List.map_set,QV]) ?_
  refine QN ?_
  repeat (first|refine QG ?_|refine QX (r:=by conv=>lhs;simp[-List.map_set,QV,ht]) (k:=?_))
  rw [if_pos ht]
  exact done_via (l:=[]) hwf (Ghost.toB (Ghost.tuple [] [_,_] (Ghost.nils_list _)) _) rfl
 rw [if_neg ht]
 refine QM (by conv=>lhs;simp[-List.map_set,QV]) ?_
 refine QN ?_
 repeat (first|refine QG ?_|refine QX (r:=by conv=>lhs;simp[-List.map_set,QV,ht]) (k:=?_))
 repeat refine QS ?_
 refine QR (r:=by conv=>lhs;simp[-List.map_set,QV]) (k:=?_)
 refine vcall_useH (c2) (by rfl) ?_
 obtain ⟨r,hr⟩ : ∃ r,(if op=172∨op=173 then 126 else if x∨op=167 then 127 else t)=r:=⟨_,rfl⟩
 simp only [hr]
 by_cases hu:un=true
 ·rw [if_pos hu]
  refine QM (by conv=>lhs;simp[-List.map_set,QV,hu]) ?_
  refine QN ?_
  repeat (first|refine QG ?_|refine QX (r:=by conv=>lhs;simp[-List.map_set,QV,hu]) (k:=?_))
  refine vw_trim 6 1 rfl (by simp) rfl (by conv=>lhs; simp [List.set_cons_zero,List.set_cons_succ]) ?_
  repeat refine QS ?_
  refine QR (r:=by conv=>lhs;simp[-List.map_set,QV]) (k:=?_)
  refine vcall_useH (c3) (by rfl) ?_
  by_cases hx:x=true
  ·skip
   refine QM (by conv=>lhs;simp[-List.map_set,QV,hx]) ?_
   refine QN ?_
   by_cases k1:op=172
   ·obtain rfl:r=126:=by rw [←hr]; simp [k1]
    repeat (first|refine QG ?_|refine QX (r:=by conv=>lhs;simp[-List.map_set,QV,hx,k1]) (k:=?_))
    exact done_via hwf ((Ghost.tuple [] [_,_] (frz1 (k:=0) (by simp) (by rfl) (by rfl) (by rfl))).toB _) rfl
   by_cases k2:op=173
   ·obtain rfl:r=126:=by rw [←hr]; simp [k2]
    repeat (first|refine QG ?_|refine QX (r:=by conv=>lhs;simp[-List.map_set,QV,hx,k1,k2]) (k:=?_))
    exact done_via hwf ((Ghost.tuple [] [_,_] (frz1 (k:=0) (by simp) (by rfl) (by rfl) (by rfl))).toB _) rfl
   obtain rfl:r=127:=by rw [←hr]; simp [k1,k2,hx]
   repeat (first|refine QG ?_|refine QX (r:=by conv=>lhs;simp[-List.map_set,QV,hx,k1,k2]) (k:=?_))
   exact done_via hwf ((Ghost.tuple [] [_,_] (frz1 (k:=0) (by simp) (by rfl) (by rfl) (by rfl))).toB _) rfl
  have hx':x=false:=by simpa using hx
  by_cases hq:op=167
  ·skip
   refine QM (by conv=>lhs;simp[-List.map_set,QV,hx',hq]) ?_
   refine QN ?_
   have k1 : ¬ op=172:=by omega
   have k2 : ¬ op=173:=by omega
   obtain rfl:r=127:=by rw [←hr]; simp [k1,k2,hq]
   repeat (first|refine QG ?_|refine QX (r:=by conv=>lhs;simp[-List.map_set,QV,hx',hq,k1,k2]) (k:=?_))
   exact done_via hwf ((Ghost.tuple [] [_,_] (frz1 (k:=0) (by simp) (by rfl) (by rfl) (by rfl))).toB _) rfl
  refine QM (by conv=>lhs;simp[-List.map_set,QV,hx',hq]) ?_
  refine QN ?_
  by_cases k1:op=172
  ·obtain rfl:r=126:=by rw [←hr]; simp [k1]
   repeat (first|refine QG ?_|refine QX (r:=by conv=>lhs;simp[-List.map_set,QV,hx',hq,k1]) (k:=?_))
   exact done_via hwf ((Ghost.tuple [] [_,_] (frz1 (k:=0) (by simp) (by rfl) (by rfl) (by rfl))).toB _) rfl
  by_cases k2:op=173
  ·obtain rfl:r=126:=by rw [←hr]; simp [k2]
   repeat (first|refine QG ?_|refine QX (r:=by conv=>lhs;simp[-List.map_set,QV,hx',hq,k1,k2]) (k:=?_))
   exact done_via hwf ((Ghost.tuple [] [_,_] (frz1 (k:=0) (by simp) (by rfl) (by rfl) (by rfl))).toB _) rfl
  obtain rfl:r=t:=by rw [←hr]; simp [k1,k2,hx',hq]
  repeat (first|refine QG ?_|refine QX (r:=by conv=>lhs;simp[-List.map_set,QV,hx',hq,k1,k2]) (k:=?_))
  exact done_via hwf ((Ghost.tuple [] [_,_] (frz1 (k:=0) (by simp) (by rfl) (by rfl) (by rfl))).toB _) rfl
 ·replace hu:un=false:=by simpa using hu
  rw [if_neg (by simp [hu])]
  refine QM (by conv=>lhs;simp[-List.map_set,QV,hu]) ?_
  refine QN ?_
  repeat (first|refine QG ?_|refine QX (r:=by conv=>lhs;simp[-List.map_set,QV,hu]) (k:=?_))
  repeat refine QS ?_
  refine QR (r:=by conv=>lhs;simp[-List.map_set,QV]) (k:=?_)
  refine vcall_useH (c3) (by rfl) ?_
  by_cases hx:x=true
  ·skip
   refine QM (by conv=>lhs;simp[-List.map_set,QV,hx]) ?_
   refine QN ?_
   by_cases k1:op=172
   ·obtain rfl:r=126:=by rw [←hr]; simp [k1]
    repeat (first|refine QG ?_|refine QX (r:=by conv=>lhs;simp[-List.map_set,QV,hx,k1]) (k:=?_))
    exact done_via hwf ((Ghost.tuple [] [_,_] (frz1 (k:=0) (by simp) (by rfl) (by rfl) (by rfl))).toB _) rfl
   by_cases k2:op=173
   ·obtain rfl:r=126:=by rw [←hr]; simp [k2]
    repeat (first|refine QG ?_|refine QX (r:=by conv=>lhs;simp[-List.map_set,QV,hx,k1,k2]) (k:=?_))
    exact done_via hwf ((Ghost.tuple [] [_,_] (frz1 (k:=0) (by simp) (by rfl) (by rfl) (by rfl))).toB _) rfl
   obtain rfl:r=127:=by rw [←hr]; simp [k1,k2,hx]
   repeat (first|refine QG ?_|refine QX (r:=by conv=>lhs;simp[-List.map_set,QV,hx,k1,k2]) (k:=?_))
   exact done_via hwf ((Ghost.tuple [] [_,_] (frz1 (k:=0) (by simp) (by rfl) (by rfl) (by rfl))).toB _) rfl
  have hx':x=false:=by simpa using hx
  by_cases hq:op=167
  ·skip
   refine QM (by conv=>lhs;simp[-List.map_set,QV,hx',hq]) ?_
   refine QN ?_
   have k1 : ¬ op=172:=by omega
   have k2 : ¬ op=173:=by omega
   obtain rfl:r=127:=by rw [←hr]; simp [k1,k2,hq]
   repeat (first|refine QG ?_|refine QX (r:=by conv=>lhs;simp[-List.map_set,QV,hx',hq,k1,k2]) (k:=?_))
   exact done_via hwf ((Ghost.tuple [] [_,_] (frz1 (k:=0) (by simp) (by rfl) (by rfl) (by rfl))).toB _) rfl
  refine QM (by conv=>lhs;simp[-List.map_set,QV,hx',hq]) ?_
  refine QN ?_
  by_cases k1:op=172
  ·obtain rfl:r=126:=by rw [←hr]; simp [k1]
   repeat (first|refine QG ?_|refine QX (r:=by conv=>lhs;simp[-List.map_set,QV,hx',hq,k1]) (k:=?_))
   exact done_via hwf ((Ghost.tuple [] [_,_] (frz1 (k:=0) (by simp) (by rfl) (by rfl) (by rfl))).toB _) rfl
  by_cases k2:op=173
  ·obtain rfl:r=126:=by rw [←hr]; simp [k2]
   repeat (first|refine QG ?_|refine QX (r:=by conv=>lhs;simp[-List.map_set,QV,hx',hq,k1,k2]) (k:=?_))
   exact done_via hwf ((Ghost.tuple [] [_,_] (frz1 (k:=0) (by simp) (by rfl) (by rfl) (by rfl))).toB _) rfl
  obtain rfl:r=t:=by rw [←hr]; simp [k1,k2,hx',hq]
  repeat (first|refine QG ?_|refine QX (r:=by conv=>lhs;simp[-List.map_set,QV,hx',hq,k1,k2]) (k:=?_))
  exact done_via hwf ((Ghost.tuple [] [_,_] (frz1 (k:=0) (by simp) (by rfl) (by rfl) (by rfl))).toB _) rfl
end Go.Vw

namespace Ss
def rtotal (op:Int):Bool := !decide (rof op=0) && !rin op 109 112 && !rin op 127 130
theorem rtotal_small : ∀ n:Nat,n<256→rtotal (n:Int)=total (n:Int):=by decide +kernel
theorem rtotal_eq (op:Int):rtotal op=total op:=by
 by_cases h:0≤op∧op<256
 ·obtain ⟨n,rfl⟩:=Int.eq_ofNat_of_zero_le h.1
  exact rtotal_small n (by have:=h.2; omega)
 ·have h1:rof op=0:=by
   unfold rof
   rw [if_neg (by simp only [rin,Bool.and_eq_true,decide_eq_true_eq]; omega),if_neg (by simp only [rin,Bool.and_eq_true,decide_eq_true_eq]; omega)]
  have h2:find op=none:=by
   cases hf:find op with
   | none=>rfl
   | some g =>
    exfalso
    obtain ⟨hm,hh⟩:=findIn_mem hf
    have ha : ∀ g∈groups,0≤g.first∧g.first+g.many≤256:=by decide +kernel
    have:=ha g hm
    simp only [Grp.has,Bool.and_eq_true,decide_eq_true_eq] at hh
    omega
  simp [rtotal,h1,total,h2]
end Ss
namespace Go.Vw
open Go.Proofs Go.RowKit
set_option maxRecDepth 10000
set_option maxHeartbeats 2000000
theorem RTotal_v (op:Int):VPure Tryz.prog 56 [vint op] (.bool (Ss.total op)):=by
 intro S
 rw [←Ss.rtotal_eq op]
 have c1:=Of_v op
 have c2:VPure Tryz.prog 90 [vint op, .int .i64 109, .int .i64 112] (.bool (Ss.rin op 109 112)):=in_v op 109 112
 have c3:VPure Tryz.prog 90 [vint op, .int .i64 127, .int .i64 130] (.bool (Ss.rin op 127 130)):=in_v op 127 130
 have hX:Ss.rtotal op=(!decide (Ss.rof op=0) && !Ss.rin op 109 112 && !Ss.rin op 127 130):=rfl
 rw [hX]
 generalize Ss.rof op=t at *
 generalize Ss.rin op 109 112=x at *
 generalize Ss.rin op 127 130=y at *
 refine vcalls_start (c:=bodyOf Tryz.f56) Tryz.func56 rfl rfl (by simp [Tryz.ntmps56]) ?_
 rw [Tryz.ntmps56]
 intro hwf
 repeat refine QS ?_
 refine QR (r:=by conv=>lhs;simp[-List.map_set,QV]) (k:=?_)
 refine QN ?_
 repeat refine QS ?_
 refine QR (r:=by conv=>lhs;simp[-List.map_set,QV]) (k:=?_)
 refine vcall_useH (c1) (by rfl) ?_
 by_cases ht:t=0
 ·refine QM (by conv=>lhs;simp[-List.map_set,QV,ht]) ?_
  refine QN ?_
  repeat (first|refine QG ?_|refine QX (r:=by conv=>lhs;simp[-List.map_set,QV,ht]) (k:=?_))
  exact done_pure hwf (by simp [ht]) rfl
 ·refine QM (by conv=>lhs;simp[-List.map_set,QV,ht]) ?_
  refine vcall_useH (c2) (by rfl) ?_
  cases x with
  | true =>
   refine QM (by conv=>lhs;simp[-List.map_set,QV,ht]) ?_
   refine QN ?_
   repeat (first|refine QG ?_|refine QX (r:=by conv=>lhs;simp[-List.map_set,QV]) (k:=?_))
   exact done_pure hwf (by simp [ht]) rfl
  | false =>
   refine QM (by conv=>lhs;simp[-List.map_set,QV,ht]) ?_
   refine vcall_useH (c3) (by rfl) ?_
   refine QM (by conv=>lhs;simp[-List.map_set,QV]) ?_
   refine QN ?_
   repeat (first|refine QG ?_|refine QX (r:=by conv=>lhs;simp[-List.map_set,QV]) (k:=?_))
   exact done_pure hwf (by simp [ht]) rfl
theorem RPure_v (op:Int):VPure Tryz.prog 22 [vint op] (.bool (Ss.pure op)):=by
 intro S
 have c1:=RTotal_v op
 have hX:Ss.pure op=(decide (op=256)||decide (op=27)||Ss.total op):=rfl
 rw [hX]
 generalize Ss.total op=t at *
 refine vcalls_start (c:=bodyOf Tryz.f22) Tryz.func22 rfl rfl (by simp [Tryz.ntmps22]) ?_
 rw [Tryz.ntmps22]
 intro hwf
 repeat refine QS ?_
 refine QR (r:=by conv=>lhs;simp[-List.map_set,QV]) (k:=?_)
 refine QN ?_
 by_cases h1:op=256
 ·repeat (first|refine QG ?_|refine QX (r:=by conv=>lhs;simp[-List.map_set,QV,h1]) (k:=?_))
  exact done_pure hwf (by simp [h1]) rfl
 by_cases h2:op=27
 ·repeat (first|refine QG ?_|refine QX (r:=by conv=>lhs;simp[-List.map_set,QV,h1,h2]) (k:=?_))
  exact done_pure hwf (by simp [h2]) rfl
 repeat refine QS ?_
 refine QR (r:=by conv=>lhs;simp[-List.map_set,QV,h1,h2]) (k:=?_)
 refine vcall_useH (c1) (by rfl) ?_
 refine QM (by conv=>lhs;simp[-List.map_set,QV]) ?_
 refine QN ?_
 repeat (first|refine QG ?_|refine QX (r:=by conv=>lhs;simp[-List.map_set,QV]) (k:=?_))
 exact done_pure hwf (by simp [h1,h2]) rfl
end Go.Vw
