import Derived.Test.YtcpncecdegmliaaGreatC15
/- Part of the proof. -/
set_option linter.unusedVariables false
set_option linter.unusedSimpArgs false
set_option maxRecDepth 10000
set_option maxHeartbeats 4000000
namespace Ev
def cmpL (a b x y:Int):List Bool:=[decide (a=b), !decide (a=b),decide (x<y),decide (a<b),decide (y<x),decide (b<a),decide (x≤y),decide (a≤b),decide (y≤x),decide (b≤a)]
def cmpI (k:Nat) (a b:Int) (w:Nat):Int:=b1 ((cmpL a b (sgnI a w) (sgnI b w)).getD k false)
end Ev
namespace Go.Vw
open Go.Proofs Go.RowKit
attribute [-simp] List.map_set
theorem jbA (k:Nat) (hk:k<10) (a b:Int) (w:Nat) (hw:w≤64):VPure Tryz.prog 135 [vnat k,vu a,vu b,vnat w] (vu (Ev.cmpI k a b w)):=by
 intro S;have c1:=qO a w hw;have c2:=qO b w hw;have hr:rep0 [V.bool false] 10=List.replicate 10 (V.bool false):=rfl;have hX:Ev.cmpI k a b w=Ev.b1 ((Ev.cmpL a b (Ev.sgnI a w) (Ev.sgnI b w)).getD k false):=rfl;rw [hX];generalize Ev.sgnI a w=x at *
 generalize Ev.sgnI b w=y at *
 clear hX;refine QB (c:=jc Tryz.f135) Tryz.func135 Tryz.ntmps135 fun hwf=>?_
 refine QT ?_;refine QY ?_;refine QT ?_;refine QP ?_;refine jb rfl (c1) ?_;refine QZ ?_;refine jb rfl (c2) ?_;refine QW ?_;refine QT ?_;refine QY ?_ (r:=by conv=>lhs;simp[QV,hr]);have hcm:(Ev.cmpL a b x y).map V.bool=[V.bool (decide (a=b)),V.bool (!decide (a=b)),V.bool (decide (x<y)),V.bool (decide (a<b)),V.bool (decide (y<x)),V.bool (decide (b<a)),V.bool (decide (x≤y)),V.bool (decide (a≤b)),V.bool (decide (y≤x)),V.bool (decide (b≤a))]:=rfl;have hll:(Ev.cmpL a b x y).length=10:=rfl;rw [←hcm];clear hcm;generalize Ev.cmpL a b x y=L at *
 have hkl:k<L.length:=by omega
 have hg:L.getD k false=L[k]:=by rw [List.getD_eq_getElem?_getD,List.getElem?_eq_getElem hkl]; rfl
 rw [hg];have cb:=Nbool_v L[k];have hkI:(k:Int)<10:=by omega
 refine QT ?_;refine QP ?_ (r:=by conv=>lhs;simp[QV,hkl,hk,hkI]);refine jb rfl (cb) ?_;refine QW ?_
 repeat first|refine QG ?_|refine QY ?_
 exact ja hwf rfl rfl
theorem b1_in (b:Bool):0≤Ev.b1 b∧Ev.b1 b≤1:=by cases b<;>simp [Ev.b1]
def Fit (w:Nat) (n:Int):Prop:=0≤n∧n<2^w
theorem Fit.u64 {w:Nat} {n:Int} (hw:w≤64) (h:Fit w n):Ev.U64 n:=by
 refine ⟨h.1, ?_⟩;have h1:(2:Nat)^w≤2^64:=Nat.pow_le_pow_right (by decide) hw;have h2:=Wj w;have:=h.2;omega
theorem zb (n:Int) (w:Nat):Fit w (n % 2^w):=by
 have hp0:(0:Int)<2^w:=Int.pow_pos (by decide);exact ⟨Int.emod_nonneg _ (by omega),Int.emod_lt_of_pos _ hp0⟩
theorem fit_quo {w:Nat} {a b:Int} (ha:Fit w a) (hb:Fit w b):Fit w (a.tdiv b):=by
 obtain ⟨a0,a1⟩:=ha;obtain ⟨b0,_⟩:=hb;obtain ⟨m,rfl⟩ : ∃ m:Nat,a=m:=⟨a.toNat,by omega⟩
 obtain ⟨q,rfl⟩ : ∃ q:Nat,b=q:=⟨b.toNat,by omega⟩
 have e:((m:Int)).tdiv (q:Int)=((m / q:Nat):Int):=rfl;rw [e];exact ⟨Int.natCast_nonneg _,Int.lt_of_le_of_lt (Int.ofNat_le.2 (Nat.div_le_self m q)) a1⟩
theorem fit_rem {w:Nat} {a b:Int} (ha:Fit w a) (hb:Fit w b):Fit w (a.tmod b):=by
 obtain ⟨a0,a1⟩:=ha;obtain ⟨b0,_⟩:=hb;obtain ⟨m,rfl⟩ : ∃ m:Nat,a=m:=⟨a.toNat,by omega⟩
 obtain ⟨q,rfl⟩ : ∃ q:Nat,b=q:=⟨b.toNat,by omega⟩
 have e:((m:Int)).tmod (q:Int)=((m % q:Nat):Int):=rfl;rw [e];exact ⟨Int.natCast_nonneg _,Int.lt_of_le_of_lt (Int.ofNat_le.2 (Nat.mod_le m q)) a1⟩
theorem jch (w:Nat):Fit w 0:=⟨by omega,Int.pow_pos (by decide)⟩
theorem sgn_zero {w:Nat} (hw:w≤64) {b:Int} (h:Fit w b) (hb:b≠0):Ev.sgnI b w≠0:=by
 intro h0;have hc:(0:Int)<2^(64-w):=Int.pow_pos (by decide);have hv:b*2^(64-w)<18446744073709551616:=by
  have h1:b*2^(64-w)<2^w*2^(64-w):=Int.mul_lt_mul_of_pos_right h.2 hc;rw [←Int.pow_add,show w+(64-w)=64 by omega] at h1;omega
 have hge:(2:Int)^(64-w)≤b*2^(64-w):=by
  have h1:1*(2:Int)^(64-w)≤b*2^(64-w):=Int.mul_le_mul_of_nonneg_right (by have:=h.1; omega) (by omega);omega
 rw [Ev.sgnI,jr (by omega) hv] at h0;generalize b*2^(64-w)=v at *
 generalize (2:Int)^(64-w)=c at *
 have e:IntKind.i64.wrap v=v∨IntKind.i64.wrap v=v-18446744073709551616:=by
  have p1:(2:Int)^64=18446744073709551616:=rfl;have p2:(2:Int)^(64-1)=9223372036854775808:=rfl;simp only [IntKind.wrap,IntKind.bits,IntKind.signed,Bool.true_and,decide_eq_true_eq,p1,p2];split<;>omega
 rw [Int.fdiv_eq_ediv_of_nonneg _ (by omega)] at h0;have h2:=Int.emod_add_mul_ediv (IntKind.i64.wrap v) c;rw [h0] at h2;have h3:=Int.emod_nonneg (IntKind.i64.wrap v) (b:=c) (by omega);have h4:=Int.emod_lt_of_pos (IntKind.i64.wrap v) hc;omega
theorem Ndivide_v (k:Int) (a b:Int) (w:Nat) (hw1:1≤w) (hw:w≤64) (ha:Fit w a) (hb:Fit w b) : ∃ n e:Int,VPure Tryz.prog 141 [vint k,vu a,vu b,vnat w] (.tuple [vu n,vint e])∧Fit w n:=by
 have c1:=qO a w hw;have c2:=qO b w hw
 by_cases hb0:b=0
 ·subst hb0;refine ⟨0,33,fun S => ?_,jch w⟩;refine QB (c:=jc Tryz.f141) Tryz.func141 Tryz.ntmps141 fun hwf=>?_
  refine QT ?_;refine QY ?_;refine QT ?_;refine QP ?_;refine jb rfl (c1) ?_;refine QZ ?_;refine jb rfl (c2) ?_;refine QW ?_
  repeat first|refine QG ?_|refine QY ?_
  exact ja hwf rfl rfl
 have hq:=fit_quo ha hb;have hr:=fit_rem ha hb;have hqw:IntKind.u64.wrap (a.tdiv b)=a.tdiv b:=jr hq.1 (hq.u64 hw).2;have cm:=qO (2^(w-1)) w hw;have w0:IntKind.i64.wrap ((w:Int)-1)=(w:Int)-1:=wrap_i64 (by omega) (by omega);have w1:(1:Int)≤w:=by omega
 have t0:((w:Int)-1).toNat=w-1:=by omega
 have hm:min (w-1) IntKind.u64.bits=w-1:=by rw [qK]; omega
 have hp:=jbX (b:=w-1) (by omega);have hp0:(0:Int)<2^(w-1):=Int.pow_pos (by decide);have w2:IntKind.u64.wrap (2^(w-1))=2^(w-1):=jr (by omega) hp;have hy0:=sgn_zero hw hb hb0;generalize Ev.sgnI a w=x at *
 generalize Ev.sgnI b w=y at *
 generalize Ev.sgnI (2^(w-1)) w=z at *
 have cl:=fun v hv=>WF v w hw hv
 by_cases hy:y = -1
 ·subst hy;have hyn : ¬ (-1:Int)=0:=by decide
  by_cases hz:x=z
  ·subst hz
   by_cases hk0:k=0
   ·subst hk0;refine ⟨0,34,fun S => ?_,jch w⟩;refine QB (c:=jc Tryz.f141) Tryz.func141 Tryz.ntmps141 fun hwf=>?_
    refine QT ?_;refine QY ?_;refine QT ?_;refine QP ?_;refine jb rfl (c1) ?_;refine QZ ?_;refine jb rfl (c2) ?_;refine QW ?_
    repeat first|refine QG ?_|refine QY ?_ (r:=by conv=>lhs;simp[QV,hb0])
    refine QT ?_;refine QP ?_ (r:=by conv=>lhs;simp[QV,w0,w1,t0,hm,w2]);refine jb rfl (cm) ?_;refine QW ?_
    repeat first|refine QG ?_|refine QY ?_ (r:=by conv=>lhs;simp[QV,hb0,hqw])
    exact ja hwf rfl rfl
   by_cases hk1:k=1
   ·subst hk1;refine ⟨_,0,fun S => ?_,hq⟩;refine QB (c:=jc Tryz.f141) Tryz.func141 Tryz.ntmps141 fun hwf=>?_
    refine QT ?_;refine QY ?_;refine QT ?_;refine QP ?_;refine jb rfl (c1) ?_;refine QZ ?_;refine jb rfl (c2) ?_;refine QW ?_
    repeat first|refine QG ?_|refine QY ?_ (r:=by conv=>lhs;simp[QV,hb0])
    refine QT ?_;refine QP ?_ (r:=by conv=>lhs;simp[QV,w0,w1,t0,hm,w2]);refine jb rfl (cm) ?_;refine QW ?_
    repeat first|refine QG ?_|refine QY ?_ (r:=by conv=>lhs;simp[QV,hb0,hqw])
    exact ja hwf rfl rfl
   by_cases hk2:k=2
   ·subst hk2;refine ⟨0,0,fun S => ?_,jch w⟩;refine QB (c:=jc Tryz.f141) Tryz.func141 Tryz.ntmps141 fun hwf=>?_
    refine QT ?_;refine QY ?_;refine QT ?_;refine QP ?_;refine jb rfl (c1) ?_;refine QZ ?_;refine jb rfl (c2) ?_;refine QW ?_
    repeat first|refine QG ?_|refine QY ?_ (r:=by conv=>lhs;simp[QV,hb0])
    refine QT ?_;refine QP ?_ (r:=by conv=>lhs;simp[QV,w0,w1,t0,hm,w2]);refine jb rfl (cm) ?_;refine QW ?_
    repeat first|refine QG ?_|refine QY ?_ (r:=by conv=>lhs;simp[QV,hb0,hqw])
    exact ja hwf rfl rfl
   refine ⟨_,0,fun S => ?_,hr⟩;refine QB (c:=jc Tryz.f141) Tryz.func141 Tryz.ntmps141 fun hwf=>?_
   refine QT ?_;refine QY ?_;refine QT ?_;refine QP ?_;refine jb rfl (c1) ?_;refine QZ ?_;refine jb rfl (c2) ?_;refine QW ?_
   repeat first|refine QG ?_|refine QY ?_ (r:=by conv=>lhs;simp[QV,hb0])
   refine QT ?_;refine QP ?_ (r:=by conv=>lhs;simp[QV,w0,w1,t0,hm,w2]);refine jb rfl (cm) ?_;refine QW ?_
   repeat first|refine QG ?_|refine QY ?_ (r:=by conv=>lhs;simp[QV,hk0,hk1,hk2,hb0,hqw])
   exact ja hwf rfl rfl
  by_cases hk0:k=0
  ·subst hk0;refine ⟨(IntKind.u64.wrap (IntKind.i64.wrap (-x))) % 2^w,0,fun S => ?_,zb _ w⟩;refine QB (c:=jc Tryz.f141) Tryz.func141 Tryz.ntmps141 fun hwf=>?_
   refine QT ?_;refine QY ?_;refine QT ?_;refine QP ?_;refine jb rfl (c1) ?_;refine QZ ?_;refine jb rfl (c2) ?_;refine QW ?_
   repeat first|refine QG ?_|refine QY ?_ (r:=by conv=>lhs;simp[QV,hb0])
   refine QT ?_;refine QP ?_ (r:=by conv=>lhs;simp[QV,w0,w1,t0,hm,w2]);refine jb rfl (cm) ?_;refine QM (by conv=>lhs;simp[QV,hz]) ?_;refine QN ?_
   repeat first|refine QG ?_|refine QY ?_ (r:=by conv=>lhs;simp[QV,hb0,hqw])
   refine QT ?_;refine QP ?_ (r:=by conv=>lhs;simp[QV,hyn]);refine jb rfl (cl _ (wrap_u64_in _)) ?_;refine QW ?_
   repeat first|refine QG ?_|refine QY ?_
   exact ja hwf rfl rfl
  by_cases hk1:k=1
  ·subst hk1;refine ⟨_,0,fun S => ?_,hq⟩;refine QB (c:=jc Tryz.f141) Tryz.func141 Tryz.ntmps141 fun hwf=>?_
   refine QT ?_;refine QY ?_;refine QT ?_;refine QP ?_;refine jb rfl (c1) ?_;refine QZ ?_;refine jb rfl (c2) ?_;refine QW ?_
   repeat first|refine QG ?_|refine QY ?_ (r:=by conv=>lhs;simp[QV,hb0])
   refine QT ?_;refine QP ?_ (r:=by conv=>lhs;simp[QV,w0,w1,t0,hm,w2]);refine jb rfl (cm) ?_;refine QM (by conv=>lhs;simp[QV,hz]) ?_;refine QN ?_
   repeat first|refine QG ?_|refine QY ?_ (r:=by conv=>lhs;simp[QV,hb0,hqw])
   exact ja hwf rfl rfl
  by_cases hk2:k=2
  ·subst hk2;refine ⟨(IntKind.u64.wrap 0) % 2^w,0,fun S => ?_,zb _ w⟩;refine QB (c:=jc Tryz.f141) Tryz.func141 Tryz.ntmps141 fun hwf=>?_
   refine QT ?_;refine QY ?_;refine QT ?_;refine QP ?_;refine jb rfl (c1) ?_;refine QZ ?_;refine jb rfl (c2) ?_;refine QW ?_
   repeat first|refine QG ?_|refine QY ?_ (r:=by conv=>lhs;simp[QV,hb0])
   refine QT ?_;refine QP ?_ (r:=by conv=>lhs;simp[QV,w0,w1,t0,hm,w2]);refine jb rfl (cm) ?_;refine QM (by conv=>lhs;simp[QV,hz]) ?_;refine QN ?_
   repeat first|refine QG ?_|refine QY ?_ (r:=by conv=>lhs;simp[QV,hb0,hqw])
   refine QT ?_;refine QP ?_ (r:=by conv=>lhs;simp[QV,hyn]);refine jb rfl (cl _ (wrap_u64_in _)) ?_;refine QW ?_
   repeat first|refine QG ?_|refine QY ?_
   exact ja hwf rfl rfl
  refine ⟨_,0,fun S => ?_,hr⟩;refine QB (c:=jc Tryz.f141) Tryz.func141 Tryz.ntmps141 fun hwf=>?_
  refine QT ?_;refine QY ?_;refine QT ?_;refine QP ?_;refine jb rfl (c1) ?_;refine QZ ?_;refine jb rfl (c2) ?_;refine QW ?_
  repeat first|refine QG ?_|refine QY ?_ (r:=by conv=>lhs;simp[QV,hb0])
  refine QT ?_;refine QP ?_ (r:=by conv=>lhs;simp[QV,w0,w1,t0,hm,w2]);refine jb rfl (cm) ?_;refine QM (by conv=>lhs;simp[QV,hz]) ?_;refine QN ?_
  repeat first|refine QG ?_|refine QY ?_ (r:=by conv=>lhs;simp[QV,hk0,hk1,hk2,hb0,hqw])
  exact ja hwf rfl rfl
 ·have hyn:=hy0
  by_cases hk0:k=0
  ·subst hk0;refine ⟨(IntKind.u64.wrap (IntKind.i64.wrap (x.tdiv y))) % 2^w,0,fun S => ?_,zb _ w⟩;refine QB (c:=jc Tryz.f141) Tryz.func141 Tryz.ntmps141 fun hwf=>?_
   refine QT ?_;refine QY ?_;refine QT ?_;refine QP ?_;refine jb rfl (c1) ?_;refine QZ ?_;refine jb rfl (c2) ?_;refine QW ?_
   repeat first|refine QG ?_|refine QY ?_ (r:=by conv=>lhs;simp[QV,hb0])
   refine QT ?_;refine QY ?_ (r:=by conv=>lhs;simp[QV,hy])
   repeat first|refine QG ?_|refine QY ?_ (r:=by conv=>lhs;simp[QV,hb0,hqw])
   refine QT ?_;refine QP ?_ (r:=by conv=>lhs;simp[QV,hyn]);refine jb rfl (cl _ (wrap_u64_in _)) ?_;refine QW ?_
   repeat first|refine QG ?_|refine QY ?_
   exact ja hwf rfl rfl
  by_cases hk1:k=1
  ·subst hk1;refine ⟨_,0,fun S => ?_,hq⟩;refine QB (c:=jc Tryz.f141) Tryz.func141 Tryz.ntmps141 fun hwf=>?_
   refine QT ?_;refine QY ?_;refine QT ?_;refine QP ?_;refine jb rfl (c1) ?_;refine QZ ?_;refine jb rfl (c2) ?_;refine QW ?_
   repeat first|refine QG ?_|refine QY ?_ (r:=by conv=>lhs;simp[QV,hb0])
   refine QT ?_;refine QY ?_ (r:=by conv=>lhs;simp[QV,hy])
   repeat first|refine QG ?_|refine QY ?_ (r:=by conv=>lhs;simp[QV,hb0,hqw])
   exact ja hwf rfl rfl
  by_cases hk2:k=2
  ·subst hk2;refine ⟨(IntKind.u64.wrap (x.tmod y)) % 2^w,0,fun S => ?_,zb _ w⟩;refine QB (c:=jc Tryz.f141) Tryz.func141 Tryz.ntmps141 fun hwf=>?_
   refine QT ?_;refine QY ?_;refine QT ?_;refine QP ?_;refine jb rfl (c1) ?_;refine QZ ?_;refine jb rfl (c2) ?_;refine QW ?_
   repeat first|refine QG ?_|refine QY ?_ (r:=by conv=>lhs;simp[QV,hb0])
   refine QT ?_;refine QY ?_ (r:=by conv=>lhs;simp[QV,hy])
   repeat first|refine QG ?_|refine QY ?_ (r:=by conv=>lhs;simp[QV,hb0,hqw])
   refine QT ?_;refine QP ?_ (r:=by conv=>lhs;simp[QV,hyn]);refine jb rfl (cl _ (wrap_u64_in _)) ?_;refine QW ?_
   repeat first|refine QG ?_|refine QY ?_
   exact ja hwf rfl rfl
  refine ⟨_,0,fun S => ?_,hr⟩;refine QB (c:=jc Tryz.f141) Tryz.func141 Tryz.ntmps141 fun hwf=>?_
  refine QT ?_;refine QY ?_;refine QT ?_;refine QP ?_;refine jb rfl (c1) ?_;refine QZ ?_;refine jb rfl (c2) ?_;refine QW ?_
  repeat first|refine QG ?_|refine QY ?_ (r:=by conv=>lhs;simp[QV,hb0])
  refine QT ?_;refine QY ?_ (r:=by conv=>lhs;simp[QV,hy])
  repeat first|refine QG ?_|refine QY ?_ (r:=by conv=>lhs;simp[QV,hk0,hk1,hk2,hb0,hqw])
  exact ja hwf rfl rfl
theorem jcr {w:Nat} (hw:w≤64) {a b:Int} (ha:Fit w a) (hb:Fit w b) : ∃ m n:Nat,a=m∧b=n∧m<2^w∧n<2^w∧(a % 2^IntKind.u64.bits).toNat=m∧(b % 2^IntKind.u64.bits).toNat=n:=by
 have ua:=ha.u64 hw;have ub:=hb.u64 hw;obtain ⟨a0,a1⟩:=ha;obtain ⟨b0,b1⟩:=hb;have hc:=Wj w;have e64:(2:Int)^IntKind.u64.bits=18446744073709551616:=by rw [qK]; rfl
 rw [e64];have h1:=ua.2;have h2:=ub.2;exact ⟨a.toNat,b.toNat,by omega,by omega,by omega,by omega,by omega,by omega⟩
theorem fit_nat {w:Nat} (hw:w≤64) {m:Nat} (h:m<2^w):Fit w (IntKind.u64.wrap (m:Int)):=by
 have hc:=Wj w;have hf:Fit w (m:Int):=⟨by omega,by omega⟩
 have hu:=hf.u64 hw;rw [jr hu.1 hu.2];exact hf
theorem fit_and {w:Nat} (hw:w≤64) {a b:Int} (ha:Fit w a) (hb:Fit w b):Fit w (IntKind.u64.wrap (((a % 2^IntKind.u64.bits).toNat &&& (b % 2^IntKind.u64.bits).toNat:Nat):Int)):=by
 obtain ⟨m,n,_,_,h1,h2,e1,e2⟩:=jcr hw ha hb;rw [e1,e2];exact fit_nat hw (Nat.and_lt_two_pow _ h2)
theorem fit_or {w:Nat} (hw:w≤64) {a b:Int} (ha:Fit w a) (hb:Fit w b):Fit w (IntKind.u64.wrap (((a % 2^IntKind.u64.bits).toNat ||| (b % 2^IntKind.u64.bits).toNat:Nat):Int)):=by
 obtain ⟨m,n,_,_,h1,h2,e1,e2⟩:=jcr hw ha hb;rw [e1,e2];exact fit_nat hw (Nat.or_lt_two_pow h1 h2)
theorem fit_xor {w:Nat} (hw:w≤64) {a b:Int} (ha:Fit w a) (hb:Fit w b):Fit w (IntKind.u64.wrap (((a % 2^IntKind.u64.bits).toNat ^^^ (b % 2^IntKind.u64.bits).toNat:Nat):Int)):=by
 obtain ⟨m,n,_,_,h1,h2,e1,e2⟩:=jcr hw ha hb;rw [e1,e2];exact fit_nat hw (Nat.xor_lt_two_pow h1 h2)
theorem fit_shr {w:Nat} {a:Int} (ha:Fit w a) (q:Nat):Fit w (a.fdiv (2^q)):=by
 have hp:(0:Int)<2^q:=Int.pow_pos (by decide);rw [Int.fdiv_eq_ediv_of_nonneg _ (by omega)];have h1:=Int.ediv_nonneg ha.1 (b:=2^q) (by omega);have h2:=Int.ediv_le_self (2^q) ha.1;exact ⟨h1,Int.lt_of_le_of_lt h2 ha.2⟩
theorem fit_turn {w:Nat} {a:Int} (ha:Fit w a) : ∀ k,Fit w (Ev.turnI w k a)
 | 0=>ha
 | k+1=>zb _ w
theorem Nwhole_v (k:Int) (a b:Int) (w:Nat) (hw1:1≤w) (hw:w≤64) (hk0:0≤k) (hk1:k≤14) (ha:Fit w a) (hb:Fit w b) : ∃ n e:Int,VPure Tryz.prog 137 [vint k,vu a,vu b,vnat w] (.tuple [vu n,vint e])∧Fit w n∧(k<3∨6<k→e=0):=by
 have ua:=ha.u64 hw;obtain ⟨q,hq,hqw⟩ : ∃ q:Nat,b.tmod (w:Int)=q∧q<w:=by
  obtain ⟨b0,_⟩:=hb;obtain ⟨m,rfl⟩ : ∃ m:Nat,b=m:=⟨b.toNat,by omega⟩
  exact ⟨m % w,rfl,Nat.mod_lt _ (by omega)⟩
 have hw0 : ¬ w=0:=by omega
 have cw:IntKind.u64.wrap (w:Int)=w:=jr (by omega) (by omega);have cq:IntKind.i64.wrap (q:Int)=q:=wrap_i64 (by omega) (by omega);have cl:=fun v hv=>WF v w hw hv
 have hm:min q IntKind.u64.bits=q:=by rw [qK]; omega
 have hm2:min q IntKind.i64.bits=q:=by rw [i64_bits]; omega
 have cs:=qO a w hw;have ct:=fun j hj=>(Nturned_v a j w hj hw1 hw ua).1
 have wq:IntKind.i64.wrap ((w:Int)-(q:Int))=((w-q:Nat):Int):=by rw [wrap_i64 (by omega) (by omega)]; omega
 have hqI:(q:Int)≤w:=by omega
 by_cases h0:k=0
 ·subst h0;refine ⟨(IntKind.u64.wrap (a+b)) % 2^w,0,fun S => ?_,zb _ w,fun _=>rfl⟩;refine QB (c:=jc Tryz.f137) Tryz.func137 Tryz.ntmps137 fun hwf=>?_
  refine QT ?_;refine QY ?_
  repeat first|refine QG ?_|refine QY ?_ (r:=by conv=>lhs;simp[QV,cw,hw0,hq,cq])
  refine QT ?_;refine QP ?_ (r:=by conv=>lhs;simp[QV,hm,wq,hqI]);refine jb rfl (cl _ (wrap_u64_in _)) ?_;refine QW ?_
  repeat first|refine QG ?_|refine QY ?_
  exact ja hwf rfl rfl
 by_cases h1:k=1
 ·subst h1;refine ⟨(IntKind.u64.wrap (a-b)) % 2^w,0,fun S => ?_,zb _ w,fun _=>rfl⟩;refine QB (c:=jc Tryz.f137) Tryz.func137 Tryz.ntmps137 fun hwf=>?_
  refine QT ?_;refine QY ?_
  repeat first|refine QG ?_|refine QY ?_ (r:=by conv=>lhs;simp[QV,cw,hw0,hq,cq])
  refine QT ?_;refine QP ?_ (r:=by conv=>lhs;simp[QV,hm,wq,hqI]);refine jb rfl (cl _ (wrap_u64_in _)) ?_;refine QW ?_
  repeat first|refine QG ?_|refine QY ?_
  exact ja hwf rfl rfl
 by_cases h2:k=2
 ·subst h2;refine ⟨(IntKind.u64.wrap (a*b)) % 2^w,0,fun S => ?_,zb _ w,fun _=>rfl⟩;refine QB (c:=jc Tryz.f137) Tryz.func137 Tryz.ntmps137 fun hwf=>?_
  refine QT ?_;refine QY ?_
  repeat first|refine QG ?_|refine QY ?_ (r:=by conv=>lhs;simp[QV,cw,hw0,hq,cq])
  refine QT ?_;refine QP ?_ (r:=by conv=>lhs;simp[QV,hm,wq,hqI]);refine jb rfl (cl _ (wrap_u64_in _)) ?_;refine QW ?_
  repeat first|refine QG ?_|refine QY ?_
  exact ja hwf rfl rfl
 by_cases h7:k=7
 ·subst h7;refine ⟨_,0,fun S => ?_,fit_and hw ha hb,fun _=>rfl⟩;refine QB (c:=jc Tryz.f137) Tryz.func137 Tryz.ntmps137 fun hwf=>?_
  refine QT ?_;refine QY ?_
  repeat first|refine QG ?_|refine QY ?_ (r:=by conv=>lhs;simp[QV,cw,hw0,hq,cq,hm,hm2])
  exact ja hwf rfl rfl
 by_cases h8:k=8
 ·subst h8;refine ⟨_,0,fun S => ?_,fit_or hw ha hb,fun _=>rfl⟩;refine QB (c:=jc Tryz.f137) Tryz.func137 Tryz.ntmps137 fun hwf=>?_
  refine QT ?_;refine QY ?_
  repeat first|refine QG ?_|refine QY ?_ (r:=by conv=>lhs;simp[QV,cw,hw0,hq,cq,hm,hm2])
  exact ja hwf rfl rfl
 by_cases h9:k=9
 ·subst h9;refine ⟨_,0,fun S => ?_,fit_xor hw ha hb,fun _=>rfl⟩;refine QB (c:=jc Tryz.f137) Tryz.func137 Tryz.ntmps137 fun hwf=>?_
  refine QT ?_;refine QY ?_
  repeat first|refine QG ?_|refine QY ?_ (r:=by conv=>lhs;simp[QV,cw,hw0,hq,cq,hm,hm2])
  exact ja hwf rfl rfl
 by_cases h10:k=10
 ·subst h10;refine ⟨(IntKind.u64.wrap (a*2^q)) % 2^w,0,fun S => ?_,zb _ w,fun _=>rfl⟩;refine QB (c:=jc Tryz.f137) Tryz.func137 Tryz.ntmps137 fun hwf=>?_
  refine QT ?_;refine QY ?_
  repeat first|refine QG ?_|refine QY ?_ (r:=by conv=>lhs;simp[QV,cw,hw0,hq,cq])
  refine QT ?_;refine QP ?_ (r:=by conv=>lhs;simp[QV,hm,wq,hqI]);refine jb rfl (cl _ (wrap_u64_in _)) ?_;refine QW ?_
  repeat first|refine QG ?_|refine QY ?_
  exact ja hwf rfl rfl
 by_cases h11:k=11
 ·subst h11;refine ⟨(IntKind.u64.wrap ((Ev.sgnI a w).fdiv (2^q))) % 2^w,0,fun S => ?_,zb _ w,fun _=>rfl⟩;refine QB (c:=jc Tryz.f137) Tryz.func137 Tryz.ntmps137 fun hwf=>?_
  refine QT ?_;refine QY ?_
  repeat first|refine QG ?_|refine QY ?_ (r:=by conv=>lhs;simp[QV,cw,hw0,hq,cq])
  refine QT ?_;refine QP ?_;refine jb rfl (cs) ?_;refine QM (by conv=>lhs;simp[QV,hm2]) ?_;refine jb rfl (cl _ (wrap_u64_in _)) ?_;refine QW ?_
  repeat first|refine QG ?_|refine QY ?_
  exact ja hwf rfl rfl
 by_cases h12:k=12
 ·subst h12;refine ⟨_,0,fun S => ?_,fit_shr ha q,fun _=>rfl⟩;refine QB (c:=jc Tryz.f137) Tryz.func137 Tryz.ntmps137 fun hwf=>?_
  refine QT ?_;refine QY ?_
  repeat first|refine QG ?_|refine QY ?_ (r:=by conv=>lhs;simp[QV,cw,hw0,hq,cq,hm,hm2])
  exact ja hwf rfl rfl
 by_cases h13:k=13
 ·subst h13;refine ⟨_,0,fun S => ?_,fit_turn ha q,fun _=>rfl⟩;refine QB (c:=jc Tryz.f137) Tryz.func137 Tryz.ntmps137 fun hwf=>?_
  refine QT ?_;refine QY ?_
  repeat first|refine QG ?_|refine QY ?_ (r:=by conv=>lhs;simp[QV,cw,hw0,hq,cq])
  refine QT ?_;refine QP ?_ (r:=by conv=>lhs;simp[QV,hm,wq,hqI]);refine jb rfl (ct q (by omega)) ?_;refine QW ?_
  repeat first|refine QG ?_|refine QY ?_
  exact ja hwf rfl rfl
 by_cases h14:k=14
 ·subst h14;refine ⟨_,0,fun S => ?_,fit_turn ha (w-q),fun _=>rfl⟩;refine QB (c:=jc Tryz.f137) Tryz.func137 Tryz.ntmps137 fun hwf=>?_
  refine QT ?_;refine QY ?_
  repeat first|refine QG ?_|refine QY ?_ (r:=by conv=>lhs;simp[QV,cw,hw0,hq,cq])
  refine QT ?_;refine QP ?_ (r:=by conv=>lhs;simp[QV,hm,wq,hqI]);refine jb rfl (ct (w-q) (by omega)) ?_;refine QW ?_
  repeat first|refine QG ?_|refine QY ?_
  exact ja hwf rfl rfl
 have hr:3≤k∧k≤6:=by omega
 obtain ⟨n,e,cd,hf⟩:=Ndivide_v (k-3) a b w hw1 hw ha hb;refine ⟨n,e,fun S => ?_,hf,fun h=>by omega⟩;have wk:IntKind.i64.wrap (k-3)=k-3:=wrap_i64 (by omega) (by omega);refine QB (c:=jc Tryz.f137) Tryz.func137 Tryz.ntmps137 fun hwf=>?_
 refine QT ?_;refine QY ?_
 repeat first|refine QG ?_|refine QY ?_ (r:=by conv=>lhs;simp[QV,cw,hw0,hq,cq,h0,h1,h2,h7,h8,h9,h10,h11,h12,h13,h14])
 refine QT ?_;refine QP ?_ (r:=by conv=>lhs;simp[QV,wk]);refine jb rfl (cd) ?_;refine QW ?_
 repeat first|refine QG ?_|refine QY ?_
 exact ja hwf rfl rfl
end Go.Vw
namespace Ev
def bitA (a:Int) (i:Nat):Bool:=decide (Go.IntKind.u64.wrap (((a.fdiv (2^i) % 2^Go.IntKind.u64.bits).toNat &&& 1 % 2^Go.IntKind.u64.bits:Nat):Int)=1)
def bitsT (a:Int) (w:Nat):Nat→Int × Int × Int
 | 0=>(w,w,0)
 | i+1=>if bitA a i then ((w:Int)-1-i,if (bitsT a w i).2.1=w then (i:Int) else (bitsT a w i).2.1,(bitsT a w i).2.2+1) else bitsT a w i
def pick3 (k:Int) (s:Int × Int × Int):Int:=if k=0 then s.1 else if k=1 then s.2.1 else s.2.2
theorem bitsT_in (a:Int) (w:Nat) : ∀ i,i≤w→(0≤(bitsT a w i).1∧(bitsT a w i).1≤w)∧(0≤(bitsT a w i).2.1∧(bitsT a w i).2.1≤w)∧(0≤(bitsT a w i).2.2∧(bitsT a w i).2.2≤i)
 | 0,_=>⟨⟨by simp [bitsT],by simp [bitsT]⟩,⟨by simp [bitsT],by simp [bitsT]⟩,by simp [bitsT],by simp [bitsT]⟩
 | i+1,h=>by
  obtain ⟨h1,h2,h3⟩:=bitsT_in a w i (by omega);rw [bitsT];split
  ·refine ⟨⟨by simp only; omega,by simp only; omega⟩, ?_,by simp only; omega,by simp only; omega⟩;simp only;split<;>constructor<;>omega
  ·exact ⟨h1,h2,h3.1,by omega⟩
end Ev
namespace Go.Vw
open Go.Proofs Go.RowKit
attribute [-simp] List.map_set
theorem Nbits_v (k:Int) (a:Int) (w:Nat) (hw1:1≤w) (hw:w≤64) (hk:k=0∨k=1∨k=2):VPure Tryz.prog 136 [vint k,vu a,vnat w] (vu (Ev.pick3 k (Ev.bitsT a w w))):=by
 intro S;have hr:rep0 [V.int .i64 0] 3=[.int .i64 0, .int .i64 0, .int .i64 0]:=rfl;have w0:IntKind.i64.wrap ((w:Int)-1)=(w:Int)-1:=wrap_i64 (by omega) (by omega);refine QB (c:=jc Tryz.f136) Tryz.func136 Tryz.ntmps136 fun hwf=>?_
 refine QT ?_;refine QY ?_
 repeat first|refine QG ?_|refine QY ?_
 refine QT ?_;refine jd [0,1,2,7,8,9,10] rfl (fun c σ S' => ∃ (i:Nat),i≤w∧c=w-i∧σ=[(0,vint k),(1,vu a),(2,vnat w),(7,vint (Ev.bitsT a w i).1),(8,vint (Ev.bitsT a w i).2.1),(9,vint (Ev.bitsT a w i).2.2),(10,vnat i)]∧S'=St S [] []) w ?_ ?_
 ·exact ⟨0,by omega,rfl,by simp [Fr.only,Fr.look,Ev.bitsT],by simp⟩
 ·rintro c σ T ⟨i,hi,rfl,rfl,rfl⟩;have hb:=Ev.bitsT_in a w i hi;have hst:Ev.bitsT a w (i+1)=if Ev.bitA a i then ((w:Int)-1-i,if (Ev.bitsT a w i).2.1=w then (i:Int) else (Ev.bitsT a w i).2.1,(Ev.bitsT a w i).2.2+1) else Ev.bitsT a w i:=rfl
  generalize hs0:Ev.bitsT a w i=s at hb hst ⊢;obtain ⟨s1,s2,s3⟩:=s;simp only at hb hst ⊢;obtain ⟨h1,h2,h3⟩:=hb
  by_cases hit:i<w
  ·have hwi:=jh hit (by omega);have hm:min i IntKind.u64.bits=i:=by rw [qK]; omega
   have w1:IntKind.i64.wrap ((w:Int)-1-i)=(w:Int)-1-i:=wrap_i64 (by omega) (by omega);have w3:IntKind.i64.wrap (s3+1)=s3+1:=wrap_i64 (by omega) (by omega);have hab:Ev.bitA a i=decide (IntKind.u64.wrap (((a.fdiv (2^i) % 2^IntKind.u64.bits).toNat &&& 1 % 2^IntKind.u64.bits:Nat):Int)=1):=rfl
   by_cases hbit:IntKind.u64.wrap (((a.fdiv (2^i) % 2^IntKind.u64.bits).toNat &&& 1 % 2^IntKind.u64.bits:Nat):Int)=1
   ·rw [hab,decide_eq_true hbit,if_pos rfl] at hst
    by_cases hl:s2=w
    ·rw [if_pos hl] at hst;subst hl
     repeat first|refine QG ?_|refine QY ?_ (r:=by conv=>lhs;simp[QV,hit,hm,hbit,w0,w1,w3,hwi])
     show jy _ _ _ _ _ _ _;exact again ⟨Nat.sub_lt_sub_left hit (Nat.lt_succ_self i),i+1,hit,rfl,by rw [hst]; simp [Fr.only,Fr.look],rfl⟩
    ·rw [if_neg hl] at hst
     repeat first|refine QG ?_|refine QY ?_ (r:=by conv=>lhs;simp[QV,hit,hm,hbit,hl,w0,w1,w3,hwi])
     show jy _ _ _ _ _ _ _;exact again ⟨Nat.sub_lt_sub_left hit (Nat.lt_succ_self i),i+1,hit,rfl,by rw [hst]; simp [Fr.only,Fr.look],rfl⟩
   ·rw [hab,decide_eq_false hbit] at hst;simp only [Bool.false_eq_true,if_false] at hst
    repeat first|refine QG ?_|refine QY ?_ (r:=by conv=>lhs;simp[QV,hit,hm,hbit,hwi])
    show jy _ _ _ _ _ _ _;exact again ⟨Nat.sub_lt_sub_left hit (Nat.lt_succ_self i),i+1,hit,rfl,by rw [hst]; simp [Fr.only,Fr.look],rfl⟩
  ·have hie:i=w:=by omega
   subst hie;rw [hs0];rcases hk with rfl | rfl | rfl
   ·have hv:IntKind.u64.wrap s1=s1:=jr (by omega) (by omega)
    repeat first|refine QG ?_|refine QY ?_ (r:=by conv=>lhs;simp[QV,hit,hr,hv])
    exact ja hwf rfl rfl
   ·have hv:IntKind.u64.wrap s2=s2:=jr (by omega) (by omega)
    repeat first|refine QG ?_|refine QY ?_ (r:=by conv=>lhs;simp[QV,hit,hr,hv])
    exact ja hwf rfl rfl
   ·have hv:IntKind.u64.wrap s3=s3:=jr (by omega) (by omega)
    repeat first|refine QG ?_|refine QY ?_ (r:=by conv=>lhs;simp[QV,hit,hr,hv])
    exact ja hwf rfl rfl
end Go.Vw
namespace Ev
open Ss
def fits (t n:Int):Bool:=decide (t=126)||(decide (t=127)&&decide (n<4294967296))
def kindB (n:Nat):Bool:=decide (rof n=0)||((decide (rof n=127)||decide (rof n=126))&&((runary n&&(decide (n=69)||decide (n=80)||(decide (103≤n)&&decide (n≤105))||(decide (121≤n)&&decide (n≤123))||decide (n=167)||decide (n=172)||decide (n=173)||(decide (192≤n)&&decide (n≤196))))||(!runary n&&((decide (70≤n)&&decide (n≤79))||(decide (81≤n)&&decide (n≤90))||(decide (106≤n)&&decide (n≤120))||(decide (124≤n)&&decide (n≤138))))))
theorem kindB_small : ∀ n:Nat,n<256→kindB n=true:=by decide +kernel
theorem rof_in {op:Int} (h:rof op≠0):0≤op∧op<256:=by
 unfold rof at h;split at h
 ·rename_i h1;simp only [rin,Bool.and_eq_true,decide_eq_true_eq] at h1;omega
 ·split at h
  ·rename_i h1;simp only [rin,Bool.and_eq_true,decide_eq_true_eq] at h1;omega
  ·exact absurd rfl h
theorem kinds {op:Int} (h:rof op≠0):(rof op=127∨rof op=126)∧(runary op=true∧(op=69∨op=80∨(103≤op∧op≤105)∨(121≤op∧op≤123)∨op=167∨op=172∨op=173∨(192≤op∧op≤196))∨runary op=false∧((70≤op∧op≤79)∨(81≤op∧op≤90)∨(106≤op∧op≤120)∨(124≤op∧op≤138))):=by
 obtain ⟨h0,h1⟩:=rof_in h;obtain ⟨n,rfl⟩:=Int.eq_ofNat_of_zero_le h0;have hk:=kindB_small n (by omega);simp only [kindB,Bool.or_eq_true,Bool.and_eq_true,decide_eq_true_eq,Bool.not_eq_true',h,false_or] at hk;obtain ⟨k1,k2⟩:=hk;refine ⟨k1, ?_⟩;rcases k2 with ⟨a,b⟩ | ⟨a,b⟩
 ·exact .inl ⟨a,by omega⟩
 ·exact .inr ⟨a,by omega⟩
end Ev
namespace Go.Vw
open Go.Proofs Go.RowKit
attribute [-simp] List.map_set
theorem jcg {t n:Int} (ht:t=127∨t=126) (h0:Ev.U64 n) (h:Ev.fits t n=true):Fit (Ev.widthI t) n:=by
 rcases ht with rfl | rfl
 ·simp only [Ev.fits] at h;simp at h;exact ⟨h0.1,by simp [Ev.widthI]; omega⟩
 ·exact ⟨h0.1,by simp [Ev.widthI]; have:=h0.2; omega⟩
theorem Neval_bad (op:Int) (a:List Int) (h:Ss.rof op=0∨a.length≠(Ss.rsig op).1.length) (ha:a.length<2^62):VPure Tryz.prog 130 [vint op,vl vu a] (.tuple [vu 0,vint 1]):=by
 have cs:=Km op;rw [←Ss.rsig_eq op] at cs
 by_cases h0:Ss.rof op=0
 ·intro S;have hX:Ss.rsig op=([],0,false):=by rw [Ss.rsig,if_pos h0]
  rw [hX] at cs;simp only at cs;refine QB (c:=jc Tryz.f130) Tryz.func130 Tryz.ntmps130 fun hwf=>?_
  refine QT ?_;refine QY ?_;refine QT ?_;refine QP ?_;refine jb rfl (cs) ?_;refine QW ?_
  repeat first|refine QG ?_|refine QY ?_
  exact ja hwf rfl rfl
 ·intro S;obtain ⟨l,hl⟩ : ∃ l,l=(Ss.rsig op).1:=⟨_,rfl⟩
  have hX:Ss.rsig op=(l,Ss.rsigT op,true):=by rw [hl,Ss.rsig,if_neg h0]
  have hne : ¬ l.length=a.length:=by
   rw [←hl] at h;rcases h with h | h
   ·exact absurd h h0
   ·exact fun e=>h e.symm
  rw [hX] at cs;simp only at cs;have hneI : ¬ (l.length:Int)=(a.length:Int):=by omega
  refine QB (c:=jc Tryz.f130) Tryz.func130 Tryz.ntmps130 fun hwf=>?_
  refine QT ?_;refine QY ?_;refine QT ?_;refine QP ?_;refine jb rfl (cs) ?_;refine QW ?_
  repeat first|refine QG ?_|refine QY ?_ (r:=by conv=>lhs;simp[QV,hne,hneI])
  exact ja hwf rfl rfl
theorem Neval_misfit (op:Int) (a:List Int) (h0:Ss.rof op≠0) (hl:a.length=(Ss.rsig op).1.length) (h : ∃ i, ∃ (h1:i<a.length) (h2:i<(Ss.rsig op).1.length),Ev.fits (Ss.rsig op).1[i] a[i]=false):VPure Tryz.prog 130 [vint op,vl vu a] (.tuple [vu 0,vint 1]):=by
 intro S;have cs:=Km op;rw [←Ss.rsig_eq op] at cs;obtain ⟨l,hle⟩ : ∃ l,l=(Ss.rsig op).1:=⟨_,rfl⟩
 have hX:Ss.rsig op=(l,Ss.rsigT op,true):=by rw [hle,Ss.rsig,if_neg h0]
 rw [hX] at cs;simp only [←hle] at cs hl h;have hll:l.length≤2:=by
  rw [hle,Ss.rsig,if_neg h0];simp only;split<;>simp
 clear hX;have hlI:(l.length:Int)=(a.length:Int):=by omega
 refine QB (c:=jc Tryz.f130) Tryz.func130 Tryz.ntmps130 fun hwf=>?_
 refine QT ?_;refine QY ?_;refine QT ?_;refine QP ?_;refine jb rfl (cs) ?_;refine QW ?_
 repeat first|refine QG ?_|refine QY ?_ (r:=by conv=>lhs;simp[QV,hl,hlI])
 refine QT ?_;refine jd [0,1,6,9] rfl (fun c σ S' => ∃ (i:Nat),i≤a.length∧c=a.length-i∧(∀ (q:Nat) (h1:q<a.length) (h2:q<l.length),q<i→Ev.fits l[q] a[q]=true)∧σ=[(0,vint op),(1,vl vu a),(6,vl vint l),(9,vnat i)]∧S'=St S [] []) a.length ?_ ?_
 ·exact ⟨0,by omega,rfl,fun q h1 h2 h3=>by omega,by simp [Fr.only,Fr.look],by simp⟩
 ·rintro c σ T ⟨i,hi,rfl,hq,rfl,rfl⟩
  by_cases hit:i<a.length
  ·have hwi:=jh hit (by omega);have hil:i<l.length:=by omega
   have cf:=jaF l[i] a[i];have hfe:Ev.fits l[i] a[i]=(decide (l[i]=126)||(decide (l[i]=127)&&decide (a[i]<4294967296))):=rfl;rw [←hfe] at cf;obtain ⟨b,hb⟩ : ∃ b,b=Ev.fits l[i] a[i]:=⟨_,rfl⟩
   rw [←hb] at cf;obtain ⟨li,hli⟩ : ∃ x,l[i]=x:=⟨_,rfl⟩
   obtain ⟨ai,hai⟩ : ∃ x,a[i]=x:=⟨_,rfl⟩
   rw [hli,hai] at cf
   repeat first|refine QG ?_|refine QY ?_ (r:=by conv=>lhs;simp[QV,hit])
   refine QT ?_;refine QD (r:=by conv=>lhs;simp[QV,hit,hil,hli,hai]) (k:=?_);refine jb rfl (cf) ?_
   cases b with
   | true =>
    refine QW ?_
    repeat first|refine QG ?_|refine QY ?_ (r:=by conv=>lhs;simp[QV,hwi])
    have hnew : ∀ (q:Nat) (h1:q<a.length) (h2:q<l.length),q<i+1→Ev.fits l[q] a[q]=true:=fun q h1 h2 h3=>by
     rcases Nat.lt_or_ge q i with h4 | h4
     ·exact hq q h1 h2 h4
     ·have:q=i:=by omega
      subst this; exact hb.symm
    show jy _ _ _ _ _ _ _;exact again ⟨Nat.sub_lt_sub_left hit (Nat.lt_succ_self i),i+1,hit,rfl,hnew,by simp [Fr.only,Fr.look],rfl⟩
   | false =>
    refine QW ?_
    repeat first|refine QG ?_|refine QY ?_
    exact ja hwf rfl rfl
  ·exfalso
   obtain ⟨q,h1,h2,h3⟩:=h;rw [hq q h1 h2 (by omega)] at h3
   cases h3
end Go.Vw
