import Derived.Test.YtcpncecdegmliaaGreatC32
/- Part of the proof. -/
set_option linter.unusedVariables false
set_option linter.unusedSimpArgs false
set_option maxRecDepth 10000
set_option maxHeartbeats 4000000
namespace Ev
def valsI (v:List Int) (l:List Int):List Int:=l.map fun i=>v.getD i.toNat 0
end Ev
namespace Go.Vw
open Go.Proofs Go.RowKit
theorem jk (f:Nat→Nat) (l:List Int):V.renL f (l.map vu)=l.map vu:=by
 induction l with
 | nil=>rfl
 | cons x l ih=>simp only [List.map_cons,V.renL,ih]; rfl
theorem jn (p:Nat→Bool) (l:List Int):V.idsL p (l.map vu)=true:=by
 induction l with
 | nil=>rfl
 | cons x l ih=>simp only [List.map_cons,V.idsL,ih]; rfl
end Go.Vw
namespace Go.Vw
open Go.Proofs Go.RowKit
attribute [-simp] List.map_set
theorem rkind_v (t:Int):VPure Tryz.prog 76 [vint t] (.bool (Ss.isKind t)):=by
 intro S;refine QB (c:=jc Tryz.f76) Tryz.func76 Tryz.ntmps76 fun hwf=>?_
 by_cases h:t=127
 ·repeat first|refine QG ?_|refine QY ?_ (r:=by conv=>lhs;simp[QV,h])
  exact ja hwf (by simp [Ss.isKind,h]) rfl
 ·repeat first|refine QG ?_|refine QY ?_ (r:=by conv=>lhs;simp[QV,h])
  exact ja hwf (by simp [Ss.isKind,h]) rfl
theorem YX (most:Nat) (l:List Int) (hl:l.length<2^63):VPure Tryz.prog 39 [vl vint l,vnat most] (.bool (Ss.kinds most l)):=by
 intro S
 by_cases h:l.length≤most
 case neg =>
  have h':(most:Int)<(l.length:Int):=by omega
  have hX:Ss.kinds most l=false:=by simp [Ss.kinds,h]
  rw [hX];refine QB (c:=jc Tryz.f39) Tryz.func39 Tryz.ntmps39 fun hwf=>?_
  repeat first|refine QG ?_|refine QY ?_ (r:=by conv=>lhs;simp[QV,h,h'])
  exact ja hwf rfl rfl
 have h' : ¬ (most:Int)<(l.length:Int):=by omega
 have hX:Ss.kinds most l=l.all Ss.isKind:=by simp [Ss.kinds,h]
 rw [hX];refine QB (c:=jc Tryz.f39) Tryz.func39 Tryz.ntmps39 fun hwf=>?_
 repeat first|refine QG ?_|refine QY ?_ (r:=by conv=>lhs;simp[QV,h,h'])
 refine QT ?_;refine jd [0,5] rfl (fun c σ S' => ∃ (k:Nat),k≤l.length∧c=l.length-k∧(l.drop k).all Ss.isKind=l.all Ss.isKind∧σ=[(0,vl vint l),(5,vnat k)]∧S'=St S [] []) l.length ?_ ?_
 ·exact ⟨0,by omega,rfl,rfl,by simp [Fr.only],rfl⟩
 ·rintro c σ T ⟨k,hk,rfl,hd,rfl,rfl⟩
  by_cases hkt:k<l.length
  ·have hst:=Ss.drop_all Ss.isKind hkt;have hw:=jh hkt hl
   repeat first|refine QG ?_|refine QY ?_ (r:=by conv=>lhs;simp[QV,hkt])
   refine QT ?_;refine QP ?_ (r:=by conv=>lhs;simp[QV,hkt]);refine QL (rkind_v l[k]) ?_;generalize Ss.isKind l[k]=z at *
   by_cases hz:z=true
   ·refine QM (by conv=>lhs;simp[QV,hz]) ?_;refine QN ?_
    repeat first|refine QG ?_|refine QY ?_ (r:=by conv=>lhs;simp[QV,hw,hkt])
    show jy _ _ _ _ _ _ _;exact again ⟨by omega,k+1,by omega,rfl,by rw [←hd,hst,hz,Bool.true_and],by simp [Fr.only],rfl⟩
   ·have hz':z=false:=by simpa using hz
    refine QM (by conv=>lhs;simp[QV,hz']) ?_;refine QN ?_
    repeat first|refine QG ?_|refine QY ?_
    rw [←hd,hst,hz',Bool.false_and];exact ja hwf rfl rfl
  ·repeat first|refine QG ?_|refine QY ?_ (r:=by conv=>lhs;simp[QV,hkt])
   rw [←hd,Ss.drop_all_end _ hkt];exact ja hwf rfl rfl
theorem rsig_v (s:Ss.Sig) (hs:s.Fits):VPure Tryz.prog 40 [jl s] (.bool s.right):=by
 intro S;obtain ⟨⟨h1,_⟩,⟨h2,_⟩⟩:=hs;obtain ⟨a,b⟩:=s;simp only at h1 h2;have hX:Ss.Sig.right ⟨a,b⟩=(Ss.kinds 8 a&&Ss.kinds 8 b):=rfl;rw [hX];have c1:VPure Tryz.prog 39 [vl vint a, .int .i64 8] (.bool (Ss.kinds 8 a)):=YX 8 a (by omega);have c2:VPure Tryz.prog 39 [vl vint b, .int .i64 8] (.bool (Ss.kinds 8 b)):=YX 8 b (by omega);generalize Ss.kinds 8 a=x at *
 generalize Ss.kinds 8 b=y at *
 refine QB (c:=jc Tryz.f40) Tryz.func40 Tryz.ntmps40 fun hwf=>?_
 repeat first|refine QG ?_|refine QY ?_
 refine QT ?_;refine QP ?_;refine QL (c1) ?_
 by_cases hx:x=true
 ·refine QM (by conv=>lhs;simp[QV,hx]) ?_;refine QL (c2) ?_;refine QW ?_
  repeat first|refine QG ?_|refine QY ?_
  exact ja hwf (by simp [hx]) rfl
 ·have hx':x=false:=by simpa using hx
  refine QM (by conv=>lhs;simp[QV,hx']) ?_;refine QN ?_
  repeat first|refine QG ?_|refine QY ?_
  exact ja hwf (by simp [hx']) rfl
theorem KX (e:Ss.Env) (he:e.Fits):VPure Tryz.prog 34 [qM e] (.bool e.right):=by
 intro S;obtain ⟨⟨h1,h2⟩,_,⟨h4,_⟩,h5⟩:=he;obtain ⟨sg,im,gl,mu,me⟩:=e;simp only at h1 h2 h4 h5;have hX:Ss.Env.right ⟨sg,im,gl,mu,me⟩=(decide (0≤im)&&decide (im≤sg.length)&&decide (sg.length≤64)&&decide (mu.length=gl.length)&&Ss.kinds 32 gl&&sg.all Ss.Sig.right):=rfl;rw [hX];have c1:VPure Tryz.prog 39 [vl vint gl, .int .i64 32] (.bool (Ss.kinds 32 gl)):=YX 32 gl (by omega);generalize Ss.kinds 32 gl=x at *
 refine QB (c:=jc Tryz.f34) Tryz.func34 Tryz.ntmps34 fun hwf=>?_
 by_cases k3:(64:Int)<(sg.length:Int)
 ·repeat first|refine QG ?_|refine QY ?_ (r:=by conv=>lhs;simp[QV,k3])
  exact ja hwf (by simp; omega) rfl
 by_cases k1:im<0
 ·repeat first|refine QG ?_|refine QY ?_ (r:=by conv=>lhs;simp[QV,k1,k3])
  exact ja hwf (by simp; omega) rfl
 by_cases k2:(sg.length:Int)<im
 ·repeat first|refine QG ?_|refine QY ?_ (r:=by conv=>lhs;simp[QV,k1,k2,k3])
  exact ja hwf (by simp; omega) rfl
 repeat first|refine QG ?_|refine QY ?_ (r:=by conv=>lhs;simp[QV,k1,k2,k3])
 refine QT ?_;refine QP ?_ (r:=by conv=>lhs;simp[QV,k1,k2,k3]);refine QL (c1) ?_
 by_cases hx:x=true
 case neg =>
  have hx':x=false:=by simpa using hx
  refine QM (by conv=>lhs;simp[QV,hx']) ?_;refine QN ?_
  repeat first|refine QG ?_|refine QY ?_
  exact ja hwf (by simp [hx']) rfl
 by_cases k4:mu.length=gl.length
 case neg =>
  have k4' : ¬ (mu.length:Int)=(gl.length:Int):=by omega
  refine QM (by conv=>lhs;simp[QV,hx,k4,k4']) ?_;refine QN ?_
  repeat first|refine QG ?_|refine QY ?_
  exact ja hwf (by simp [k4]) rfl
 have k4':(mu.length:Int)=(gl.length:Int):=by omega
 have hp:(decide (0≤im)&&decide (im≤sg.length)&&decide (sg.length≤64)&&decide (mu.length=gl.length))=true:=by simp [k4]; omega
 rw [hp,hx];refine QM (by conv=>lhs;simp[QV,hx,k4,k4']) ?_;refine QN ?_
 repeat first|refine QG ?_|refine QY ?_
 have hl:sg.length<2^63:=by omega
 rw [Bool.true_and,Bool.true_and];refine QT ?_;refine jd [1,3] rfl (fun c σ S' => ∃ (k:Nat),k≤sg.length∧c=sg.length-k∧(sg.drop k).all Ss.Sig.right=sg.all Ss.Sig.right∧σ=[(1, .ptr (lid S.nx 0) 0),(3,vnat k)]∧S'=St S [] [some (5,[vl jl sg,vint im,vl vint gl,vl V.bool mu, .bool me])]) sg.length ?_ ?_
 ·exact ⟨0,by omega,rfl,rfl,by simp [Fr.only],rfl⟩
 ·rintro c σ T ⟨k,hk,rfl,hd,rfl,rfl⟩
  by_cases hkt:k<sg.length
  ·have hst:=Ss.drop_all Ss.Sig.right hkt;have hw:=jh hkt hl;have c2:=rsig_v sg[k] (h2 _ (List.getElem_mem hkt));generalize hz0:Ss.Sig.right sg[k]=z at *
   obtain ⟨⟨a,b⟩,hb⟩ : ∃ s,sg[k]=s:=⟨_,rfl⟩
   rw [hb] at c2;have c2':VPure Tryz.prog 40 [.agg [vl vint a,vl vint b]] (.bool z):=c2
   repeat first|refine QG ?_|refine QY ?_ (r:=by conv=>lhs;simp[QV,hkt])
   refine QT ?_;refine QP ?_ (r:=by conv=>lhs;simp[QV,hkt,hb]);refine QL (c2') ?_
   by_cases hz:z=true
   ·refine QM (by conv=>lhs;simp[QV,hz]) ?_;refine QN ?_
    repeat first|refine QG ?_|refine QY ?_ (r:=by conv=>lhs;simp[QV,hw,hkt])
    show jy _ _ _ _ _ _ _;exact again ⟨by omega,k+1,by omega,rfl,by rw [←hd,hst,hz,Bool.true_and],by simp [Fr.only],rfl⟩
   ·have hz':z=false:=by simpa using hz
    refine QM (by conv=>lhs;simp[QV,hz']) ?_;refine QN ?_
    repeat first|refine QG ?_|refine QY ?_
    rw [←hd,hst,hz',Bool.false_and];exact ja hwf rfl rfl
  ·repeat first|refine QG ?_|refine QY ?_ (r:=by conv=>lhs;simp[QV,hkt])
   rw [←hd,Ss.drop_all_end _ hkt];exact ja hwf rfl rfl
end Go.Vw
namespace Ev
def holds (kinds:List Int) (memory:Bool) (s:State):Bool :=
 !(!decide ((s.mem.length:Int).tmod 256=0)||decide (s.most<s.mem.length)||decide (4096<s.most)||(!memory && !decide (s.most=0)))&&(!(!decide (s.globals.length=kinds.length)||decide (s.fuel<0)||decide (1024<s.fuel)||decide (4096<s.input.length)||decide (4096<s.log.length))&&fitsL kinds s.globals)
structure StFits (s:State):Prop where
 mem:Go.Vw.byteL s.mem
 most : -9223372036854775808≤s.most∧s.most<9223372036854775808
 globals:words s.globals
 fuel : -9223372036854775808≤s.fuel∧s.fuel<9223372036854775808
 input:words s.input
 log:words s.log
end Ev
namespace Go.Vw
open Go.Proofs Go.RowKit
attribute [-simp] List.map_set
theorem Nholds_v (kinds:List Int) (memory:Bool) (s:Ev.State) (hk:kinds.length<2^62) (hs:Ev.StFits s):VPure Tryz.prog 98 [vl vint kinds, .bool memory,qb s] (.bool (Ev.holds kinds memory s)):=by
 intro S;obtain ⟨⟨hm,_⟩,_,⟨hg,_⟩,_,⟨hin,_⟩,⟨hlg,_⟩⟩:=hs;obtain ⟨mem,most,gl,fuel,inp,log⟩:=s;simp only at hm hg hin hlg;have henc:qb ⟨mem,most,gl,fuel,inp,log⟩ = .agg [vl vby mem,vint most,vl vu gl,vint fuel,vl vu inp,vl vu log]:=rfl;rw [henc];obtain ⟨b1,hb1⟩ : ∃ b,b=(!decide ((mem.length:Int).tmod 256=0)||decide (most<mem.length)||decide (4096<most)||(!memory && !decide (most=0))):=⟨_,rfl⟩
 obtain ⟨b2,hb2⟩ : ∃ b,b=(!decide (gl.length=kinds.length)||decide (fuel<0)||decide (1024<fuel)||decide (4096<inp.length)||decide (4096<log.length)):=⟨_,rfl⟩
 have hX:Ev.holds kinds memory ⟨mem,most,gl,fuel,inp,log⟩=(!b1&&(!b2&&Ev.fitsL kinds gl)):=by rw [hb1,hb2]; rfl
 rw [hX]
 by_cases c1 : ¬ (mem.length:Int).tmod 256=0
 ·skip
  have e:b1=true:=by rw [hb1]; simp [c1]
  rw [e];simp only [Bool.not_true,Bool.false_and,Bool.and_false];refine QB (c:=jc Tryz.f98) Tryz.func98 Tryz.ntmps98 fun hwf=>?_
  refine QT ?_;refine QY ?_;refine QH 5 0 ?_
  repeat first|refine QG ?_|refine QY ?_ (r:=by conv=>lhs;simp[QV,c1])
  exact ja (X := .bool false) hwf (by simp) rfl
 have c1:(mem.length:Int).tmod 256=0:=Decidable.not_not.1 c1
 by_cases c2:most<(mem.length:Int)
 ·skip
  have e:b1=true:=by rw [hb1]; simp [c1,c2]
  rw [e];simp only [Bool.not_true,Bool.false_and,Bool.and_false];refine QB (c:=jc Tryz.f98) Tryz.func98 Tryz.ntmps98 fun hwf=>?_
  refine QT ?_;refine QY ?_;refine QH 5 0 ?_
  repeat first|refine QG ?_|refine QY ?_ (r:=by conv=>lhs;simp[QV,c1,c2])
  exact ja (X := .bool false) hwf (by simp) rfl
 by_cases c3:4096<most
 ·skip
  have e:b1=true:=by rw [hb1]; simp [c1,c2,c3]
  rw [e];simp only [Bool.not_true,Bool.false_and,Bool.and_false];refine QB (c:=jc Tryz.f98) Tryz.func98 Tryz.ntmps98 fun hwf=>?_
  refine QT ?_;refine QY ?_;refine QH 5 0 ?_
  repeat first|refine QG ?_|refine QY ?_ (r:=by conv=>lhs;simp[QV,c1,c2,c3])
  exact ja (X := .bool false) hwf (by simp) rfl
 by_cases c4:memory=false ∧ ¬ most=0
 ·obtain ⟨rfl,c4⟩:=c4;have e:b1=true:=by rw [hb1]; simp [c1,c2,c3,c4]
  rw [e];simp only [Bool.not_true,Bool.false_and,Bool.and_false];refine QB (c:=jc Tryz.f98) Tryz.func98 Tryz.ntmps98 fun hwf=>?_
  refine QT ?_;refine QY ?_;refine QH 5 0 ?_
  repeat first|refine QG ?_|refine QY ?_ (r:=by conv=>lhs;simp[QV,c1,c2,c3,c4])
  exact ja (X := .bool false) hwf (by simp) rfl
 have eb1:b1=false:=by
  rw [hb1]
  cases memory with
  | true=>simp [c1,c2,c3]
  | false =>
   have h0:most=0:=Decidable.not_not.1 fun h=>c4 ⟨rfl,h⟩
   simp only [decide_eq_true c1,decide_eq_false c2,decide_eq_false c3,decide_eq_true h0]; rfl
 obtain ⟨f1,f2,hf⟩ : ∃ (f1:Bool) (f2:memory=false→(most=0)=True),True:=⟨true,fun h=>eq_true (Decidable.not_not.1 fun h2=>c4 ⟨h,h2⟩),trivial⟩
 by_cases d1 : ¬ gl.length=kinds.length
 ·have dI : ¬ (gl.length:Int)=(kinds.length:Int):=by omega
  have e:b2=true:=by rw [hb2]; simp [d1]
  rw [eb1,e];simp only [Bool.not_true,Bool.false_and,Bool.and_false,Bool.not_false]
  cases memory with
  | true =>
   refine QB (c:=jc Tryz.f98) Tryz.func98 Tryz.ntmps98 fun hwf=>?_
   refine QT ?_;refine QY ?_;refine QH 5 0 ?_
   repeat first|refine QG ?_|refine QY ?_ (r:=by conv=>lhs;simp[QV,c1,c2,c3,d1,dI])
   exact ja (X := .bool false) hwf (by simp) rfl
  | false =>
   have c5:=f2 rfl;refine QB (c:=jc Tryz.f98) Tryz.func98 Tryz.ntmps98 fun hwf=>?_
   refine QT ?_;refine QY ?_;refine QH 5 0 ?_
   repeat first|refine QG ?_|refine QY ?_ (r:=by conv=>lhs;simp[QV,c1,c2,c3,c5,d1,dI])
   exact ja (X := .bool false) hwf (by simp) rfl
 have d1:gl.length=kinds.length:=Decidable.not_not.1 d1;have dI:(gl.length:Int)=(kinds.length:Int):=by omega
 by_cases d2:fuel<0
 ·skip
  have e:b2=true:=by rw [hb2]; simp [d1,d2]
  rw [eb1,e];simp only [Bool.not_true,Bool.false_and,Bool.and_false,Bool.not_false]
  cases memory with
  | true =>
   refine QB (c:=jc Tryz.f98) Tryz.func98 Tryz.ntmps98 fun hwf=>?_
   refine QT ?_;refine QY ?_;refine QH 5 0 ?_
   repeat first|refine QG ?_|refine QY ?_ (r:=by conv=>lhs;simp[QV,c1,c2,c3,d1,dI,d2])
   exact ja (X := .bool false) hwf (by simp) rfl
  | false =>
   have c5:=f2 rfl;refine QB (c:=jc Tryz.f98) Tryz.func98 Tryz.ntmps98 fun hwf=>?_
   refine QT ?_;refine QY ?_;refine QH 5 0 ?_
   repeat first|refine QG ?_|refine QY ?_ (r:=by conv=>lhs;simp[QV,c1,c2,c3,c5,d1,dI,d2])
   exact ja (X := .bool false) hwf (by simp) rfl
 by_cases d3:1024<fuel
 ·skip
  have e:b2=true:=by rw [hb2]; simp [d1,d2,d3]
  rw [eb1,e];simp only [Bool.not_true,Bool.false_and,Bool.and_false,Bool.not_false]
  cases memory with
  | true =>
   refine QB (c:=jc Tryz.f98) Tryz.func98 Tryz.ntmps98 fun hwf=>?_
   refine QT ?_;refine QY ?_;refine QH 5 0 ?_
   repeat first|refine QG ?_|refine QY ?_ (r:=by conv=>lhs;simp[QV,c1,c2,c3,d1,d2,dI,d3])
   exact ja (X := .bool false) hwf (by simp) rfl
  | false =>
   have c5:=f2 rfl;refine QB (c:=jc Tryz.f98) Tryz.func98 Tryz.ntmps98 fun hwf=>?_
   refine QT ?_;refine QY ?_;refine QH 5 0 ?_
   repeat first|refine QG ?_|refine QY ?_ (r:=by conv=>lhs;simp[QV,c1,c2,c3,c5,d1,d2,dI,d3])
   exact ja (X := .bool false) hwf (by simp) rfl
 by_cases d4:4096<inp.length
 ·have d4I:(4096:Int)<(inp.length:Int):=by omega
  have e:b2=true:=by rw [hb2]; simp [d1,d2,d3,d4]
  rw [eb1,e];simp only [Bool.not_true,Bool.false_and,Bool.and_false,Bool.not_false]
  cases memory with
  | true =>
   refine QB (c:=jc Tryz.f98) Tryz.func98 Tryz.ntmps98 fun hwf=>?_
   refine QT ?_;refine QY ?_;refine QH 5 0 ?_
   repeat first|refine QG ?_|refine QY ?_ (r:=by conv=>lhs;simp[QV,c1,c2,c3,d1,d2,d3,dI,d4,d4I])
   exact ja (X := .bool false) hwf (by simp) rfl
  | false =>
   have c5:=f2 rfl;refine QB (c:=jc Tryz.f98) Tryz.func98 Tryz.ntmps98 fun hwf=>?_
   refine QT ?_;refine QY ?_;refine QH 5 0 ?_
   repeat first|refine QG ?_|refine QY ?_ (r:=by conv=>lhs;simp[QV,c1,c2,c3,c5,d1,d2,d3,dI,d4,d4I])
   exact ja (X := .bool false) hwf (by simp) rfl
 have d4I : ¬ (4096:Int)<(inp.length:Int):=by omega
 by_cases d5:4096<log.length
 ·have d5I:(4096:Int)<(log.length:Int):=by omega
  have e:b2=true:=by rw [hb2]; simp [d1,d2,d3,d4,d5]
  rw [eb1,e];simp only [Bool.not_true,Bool.false_and,Bool.and_false,Bool.not_false]
  cases memory with
  | true =>
   refine QB (c:=jc Tryz.f98) Tryz.func98 Tryz.ntmps98 fun hwf=>?_
   refine QT ?_;refine QY ?_;refine QH 5 0 ?_
   repeat first|refine QG ?_|refine QY ?_ (r:=by conv=>lhs;simp[QV,c1,c2,c3,d1,d2,d3,d4,d4I,dI,d5,d5I])
   exact ja (X := .bool false) hwf (by simp) rfl
  | false =>
   have c5:=f2 rfl;refine QB (c:=jc Tryz.f98) Tryz.func98 Tryz.ntmps98 fun hwf=>?_
   refine QT ?_;refine QY ?_;refine QH 5 0 ?_
   repeat first|refine QG ?_|refine QY ?_ (r:=by conv=>lhs;simp[QV,c1,c2,c3,c5,d1,d2,d3,d4,d4I,dI,d5,d5I])
   exact ja (X := .bool false) hwf (by simp) rfl
 have d5I : ¬ (4096:Int)<(log.length:Int):=by omega
 have eb2:b2=false:=by rw [hb2]; simp [d1,d2,d3,d4,d5]
 rw [eb1,eb2];simp only [Bool.not_false,Bool.true_and];obtain ⟨mm,hmm⟩ : ∃ mm:Bool,mm=memory:=⟨_,rfl⟩
 cases memory with
 | true =>
  refine QB (c:=jc Tryz.f98) Tryz.func98 Tryz.ntmps98 fun hwf=>?_
  refine QT ?_;refine QY ?_;refine QH 5 0 ?_
  repeat first|refine QG ?_|refine QY ?_ (r:=by conv=>lhs;simp[QV,c1,c2,c3,d1,dI,d2,d3,d4,d4I,d5,d5I])
  refine QT ?_;refine jd [0,5,7] rfl (fun c σ S' => ∃ (k:Nat),k≤kinds.length∧c=kinds.length-k∧Ev.fitsL (kinds.drop k) (gl.drop k)=Ev.fitsL kinds gl∧σ=[(0,vl vint kinds),(5,(V.agg [vl vby mem,vint most,vl vu gl,vint fuel,vl vu inp,vl vu log]).ref),(7,vnat k)]∧S'=St S [] [none]) kinds.length ?_ ?_
  ·exact ⟨0,by omega,rfl,rfl,by simp [Fr.only,Fr.look],by simp⟩
  ·rintro c σ T ⟨k,hk',rfl,hd,rfl,rfl⟩
   by_cases hkt:k<kinds.length
   ·have hw:=jh hkt (by omega);have hka:k<gl.length:=by omega
    rw [Ev.fitsL_step hkt hka] at hd;have cf:=jaF kinds[k] gl[k];have hfe:Ev.fits kinds[k] gl[k]=(decide (kinds[k]=126)||(decide (kinds[k]=127)&&decide (gl[k]<4294967296))):=rfl;rw [←hfe] at cf;obtain ⟨b,hb⟩ : ∃ b,b=Ev.fits kinds[k] gl[k]:=⟨_,rfl⟩
    rw [←hb] at cf hd;obtain ⟨x,hx⟩ : ∃ x,kinds[k]=x:=⟨_,rfl⟩
    obtain ⟨y,hy⟩ : ∃ y,gl[k]=y:=⟨_,rfl⟩
    rw [hx,hy] at cf
    cases b with
    | true =>
     rw [Bool.true_and] at hd
     repeat first|refine QG ?_|refine QY ?_ (r:=by conv=>lhs;simp[QV,hkt])
     refine QT ?_;refine QD (r:=by conv=>lhs;simp[QV,hkt,hka,hx,hy]) (k:=?_);refine jb rfl (cf) ?_;refine QW ?_
     repeat first|refine QG ?_|refine QY ?_ (r:=by conv=>lhs;simp[QV,hw])
     show jy _ _ _ _ _ _ _;exact again ⟨Nat.sub_lt_sub_left hkt (Nat.lt_succ_self k),k+1,hkt,rfl,hd,by simp [Fr.only,Fr.look],rfl⟩
    | false =>
     rw [Bool.false_and] at hd;rw [←hd]
     repeat first|refine QG ?_|refine QY ?_ (r:=by conv=>lhs;simp[QV,hkt])
     refine QT ?_;refine QD (r:=by conv=>lhs;simp[QV,hkt,hka,hx,hy]) (k:=?_);refine jb rfl (cf) ?_;refine QW ?_
     repeat first|refine QG ?_|refine QY ?_
     exact ja (X := .bool false) hwf (by simp) rfl
   ·rw [Ev.fitsL_end hkt (by omega)] at hd;rw [←hd]
    repeat first|refine QG ?_|refine QY ?_ (r:=by conv=>lhs;simp[QV,hkt])
    exact ja (X := .bool true) hwf (by simp) rfl
 | false =>
  have c5:=f2 rfl;refine QB (c:=jc Tryz.f98) Tryz.func98 Tryz.ntmps98 fun hwf=>?_
  refine QT ?_;refine QY ?_;refine QH 5 0 ?_
  repeat first|refine QG ?_|refine QY ?_ (r:=by conv=>lhs;simp[QV,c1,c2,c3,c5,d1,dI,d2,d3,d4,d4I,d5,d5I])
  refine QT ?_;refine jd [0,5,7] rfl (fun c σ S' => ∃ (k:Nat),k≤kinds.length∧c=kinds.length-k∧Ev.fitsL (kinds.drop k) (gl.drop k)=Ev.fitsL kinds gl∧σ=[(0,vl vint kinds),(5,(V.agg [vl vby mem,vint most,vl vu gl,vint fuel,vl vu inp,vl vu log]).ref),(7,vnat k)]∧S'=St S [] [none]) kinds.length ?_ ?_
  ·exact ⟨0,by omega,rfl,rfl,by simp [Fr.only,Fr.look],by simp⟩
  ·rintro c σ T ⟨k,hk',rfl,hd,rfl,rfl⟩
   by_cases hkt:k<kinds.length
   ·have hw:=jh hkt (by omega);have hka:k<gl.length:=by omega
    rw [Ev.fitsL_step hkt hka] at hd;have cf:=jaF kinds[k] gl[k];have hfe:Ev.fits kinds[k] gl[k]=(decide (kinds[k]=126)||(decide (kinds[k]=127)&&decide (gl[k]<4294967296))):=rfl;rw [←hfe] at cf;obtain ⟨b,hb⟩ : ∃ b,b=Ev.fits kinds[k] gl[k]:=⟨_,rfl⟩
    rw [←hb] at cf hd;obtain ⟨x,hx⟩ : ∃ x,kinds[k]=x:=⟨_,rfl⟩
    obtain ⟨y,hy⟩ : ∃ y,gl[k]=y:=⟨_,rfl⟩
    rw [hx,hy] at cf
    cases b with
    | true =>
     rw [Bool.true_and] at hd
     repeat first|refine QG ?_|refine QY ?_ (r:=by conv=>lhs;simp[QV,hkt])
     refine QT ?_;refine QD (r:=by conv=>lhs;simp[QV,hkt,hka,hx,hy]) (k:=?_);refine jb rfl (cf) ?_;refine QW ?_
     repeat first|refine QG ?_|refine QY ?_ (r:=by conv=>lhs;simp[QV,hw])
     show jy _ _ _ _ _ _ _;exact again ⟨Nat.sub_lt_sub_left hkt (Nat.lt_succ_self k),k+1,hkt,rfl,hd,by simp [Fr.only,Fr.look],rfl⟩
    | false =>
     rw [Bool.false_and] at hd;rw [←hd]
     repeat first|refine QG ?_|refine QY ?_ (r:=by conv=>lhs;simp[QV,hkt])
     refine QT ?_;refine QD (r:=by conv=>lhs;simp[QV,hkt,hka,hx,hy]) (k:=?_);refine jb rfl (cf) ?_;refine QW ?_
     repeat first|refine QG ?_|refine QY ?_
     exact ja (X := .bool false) hwf (by simp) rfl
   ·rw [Ev.fitsL_end hkt (by omega)] at hd;rw [←hd]
    repeat first|refine QG ?_|refine QY ?_ (r:=by conv=>lhs;simp[QV,hkt])
    exact ja (X := .bool true) hwf (by simp) rfl
theorem Nstate_v (e:Ss.Env) (s:Ev.State) (he:e.Fits) (hs:Ev.StFits s):VPure Tryz.prog 72 [qM e,qb s] (.bool (Ev.holds e.globals e.mem s)):=by
 intro S;have ch:=Nholds_v e.globals e.mem s (by have:=he.2.2.1; simp only [Ss.Ints] at this; omega) hs;generalize Ev.holds e.globals e.mem s=b at *
 clear he hs;obtain ⟨sg,im,gl,mu,me⟩:=e;obtain ⟨mem,most,glb,fuel,inp,log⟩:=s;simp only at ch;have ch':VPure Tryz.prog 98 [vl vint gl, .bool me, .agg [vl vby mem,vint most,vl vu glb,vint fuel,vl vu inp,vl vu log]] (.bool b):=ch;have h1:qM ⟨sg,im,gl,mu,me⟩ = .agg [vl jl sg,vint im,vl vint gl,vl V.bool mu, .bool me]:=rfl;have h2:qb ⟨mem,most,glb,fuel,inp,log⟩ = .agg [vl vby mem,vint most,vl vu glb,vint fuel,vl vu inp,vl vu log]:=rfl;rw [h1,h2];refine QB (c:=jc Tryz.f72) Tryz.func72 Tryz.ntmps72 fun hwf=>?_
 refine QT ?_;refine QY ?_;refine QH 2 0 ?_;refine QH 3 1 ?_;refine QT ?_;refine QP ?_;refine QL (ch') ?_;refine QW ?_
 repeat first|refine QG ?_|refine QY ?_
 exact ja (X := .bool b) hwf (by simp) rfl
theorem Nfits_v (e:Ss.Env) (s:Ev.State) (he:e.Fits) (hs:Ev.StFits s):VPure Tryz.prog 35 [qM e,qb s] (.bool (e.right&&Ev.holds e.globals e.mem s)):=by
 intro S;have c1:=KX e he;have c2:=Nstate_v e s he hs;generalize Ev.holds e.globals e.mem s=b at *
 generalize e.right=a at *
 clear he hs;obtain ⟨sg,im,gl,mu,me⟩:=e;obtain ⟨mem,most,glb,fuel,inp,log⟩:=s;have h1:qM ⟨sg,im,gl,mu,me⟩ = .agg [vl jl sg,vint im,vl vint gl,vl V.bool mu, .bool me]:=rfl;have h2:qb ⟨mem,most,glb,fuel,inp,log⟩ = .agg [vl vby mem,vint most,vl vu glb,vint fuel,vl vu inp,vl vu log]:=rfl;rw [h1] at c1 c2 ⊢;rw [h2] at c2 ⊢;refine QB (c:=jc Tryz.f35) Tryz.func35 Tryz.ntmps35 fun hwf=>?_
 refine QT ?_;refine QY ?_;refine QH 2 0 ?_;refine QH 3 1 ?_;refine QT ?_;refine QP ?_;refine QL (c1) ?_
 cases a with
 | false =>
  refine QW ?_
  repeat first|refine QG ?_|refine QY ?_
  exact ja (X := .bool false) hwf (by simp) rfl
 | true =>
  refine QZ ?_;refine QL (c2) ?_;refine QW ?_
  repeat first|refine QG ?_|refine QY ?_
  exact ja (X := .bool b) hwf (by simp) (by simp)
theorem Ngrow_v (m:List Int) (most pages:Int) (hm:byteL m) (hm1 : -9223372036854775808≤most) (hm2:most<9223372036854775808) (hp:Ev.U64 pages) : ∃ (m':List Int) (n:Int),VPure Tryz.prog 129 [vl vby m,vint most,vu pages] (.tuple [vl vby m',vu n])∧byteL m'∧m.length≤m'.length∧0≤n∧n<4294967296∧(m.length≤4096→m'.length≤4096):=by
 obtain ⟨hl,hby⟩:=hm;obtain ⟨p0,p1⟩:=hp;have hb8:m.length*1≤140737488355328:=by omega
 have hcl : ∀ l:List Int,(l.map vby).all V.closed1=true:=fun l=>jq vby (fun _=>rfl) l
 have hap : ∀ S,jN 1 1 S .nils (vl vby m)=some (.slice S.nx 0 m.length,S.add (1,m.map vby)):=fun S=>by
  have:=zG (S:=S) (s:=1) (b:=1) (xs:=m.map vby) (fun x hx=>by
   obtain ⟨y,_,rfl⟩:=List.mem_map.1 hx
   rfl) (by rw [List.length_map]; omega) (by rw [List.length_map]; omega)
  rw [jbF,List.length_map] at this;exact this
 by_cases c1:(m.length:Int).tmod 256=0
 ·by_cases c2:16<pages
  ·refine ⟨m,4294967295,fun S => ?_,⟨hl,hby⟩,Nat.le_refl _,by omega,by omega,fun h=>h⟩;refine QB (c:=jc Tryz.f129) Tryz.func129 Tryz.ntmps129 fun hwf=>?_
   refine QT ?_;refine QY ?_;refine QT ?_;refine QY ?_ (r:=by conv=>lhs;simp[QV,hap])
   repeat first|refine QG ?_|refine QY ?_ (r:=by conv=>lhs;simp[QV,c1,c2])
   exact jf hwf ((Ghost.tuple [] [_] (frz1 (k:=0) (by simp) (by rfl) (hcl m) (by simp))).toB _) rfl
  ·obtain ⟨k,rfl⟩ : ∃ k:Nat,pages=(k:Int):=⟨pages.toNat,by omega⟩
   have w1:IntKind.i64.wrap (k:Int)=(k:Int):=wrap_i64 (by omega) (by omega);have w2:IntKind.i64.wrap ((k:Int)*256)=(k:Int)*256:=wrap_i64 (by omega) (by omega);have w3:IntKind.i64.wrap ((m.length:Int)+(k:Int)*256)=(m.length:Int)+(k:Int)*256:=wrap_i64 (by omega) (by omega);obtain ⟨q,hq⟩ : ∃ q,q=(if 4096<most then 4096 else most):=⟨_,rfl⟩
   have hmin:jca (.int .i64 most) (.int .i64 4096)=some (.int .i64 q):=by rw [hq]; simp [jca]
   by_cases c3:q<(m.length:Int)+(k:Int)*256
   ·refine ⟨m,4294967295,fun S => ?_,⟨hl,hby⟩,Nat.le_refl _,by omega,by omega,fun h=>h⟩;refine QB (c:=jc Tryz.f129) Tryz.func129 Tryz.ntmps129 fun hwf=>?_
    refine QT ?_;refine QY ?_;refine QT ?_;refine QY ?_ (r:=by conv=>lhs;simp[QV,hap])
    repeat first|refine QG ?_|refine QY ?_ (r:=by conv=>lhs;simp[QV,c1,c2,w1,w2,w3,hmin,c3])
    exact jf hwf ((Ghost.tuple [] [_] (frz1 (k:=0) (by simp) (by rfl) (hcl m) (by simp))).toB _) rfl
   ·have hq4:q≤4096:=by rw [hq]; split<;>omega
    have hlk:m.length+k*256≤4096:=by omega
    obtain ⟨d,hd⟩ : ∃ d,(m.length:Int).tdiv 256=d:=⟨_,rfl⟩
    have hd0:0≤d∧d≤4096:=by
     rw [Int.tdiv_eq_ediv_of_nonneg (by omega)] at hd;omega
    have wd:IntKind.i64.wrap d=d:=wrap_i64 (by omega) (by omega);have wd2:IntKind.u64.wrap d=d:=jr (by omega) (by omega);have hb8':(m.length+k*256)*1≤140737488355328:=by omega
    have hb9':m.length+k*256≤140737488355328:=by omega
    have hrep:List.replicate (k*256) (V.int .u8 0)=(List.replicate (k*256) (0:Int)).map vby:=by rw [List.map_replicate]; rfl
    refine ⟨m++List.replicate (k*256) 0,d,fun S => ?_,⟨by simp; omega,fun x hx => ?_⟩,by simp,by omega,by omega,fun _=>by simp; omega⟩
    ·have hapN : ∀ S:Store, ∀ o,S.get o=some (1,m.map vby)→zI 1 1 [.int .u8 0] S (.slice o 0 m.length) (.int .i64 ((k:Int)*256))=some (.slice S.nx 0 (m.length+k*256),(S.del o).add (1,(m++List.replicate (k*256) 0).map vby)):=by
      intro S o ho;have hkk:(k:Int)*256=((k*256:Nat):Int):=by omega
      rw [hkk];simp only [zI,ho];rw [if_pos (by refine ⟨by omega,trivial,by simp,by rw [Int.toNat_natCast]; exact hb8',by rw [Int.toNat_natCast]; exact hb9'⟩)];simp only [Int.toNat_natCast,List.drop_zero,Nat.mul_one,jbR];rw [hrep,List.take_of_length_le (by simp),List.map_append]
     refine QB (c:=jc Tryz.f129) Tryz.func129 Tryz.ntmps129 fun hwf=>?_
     refine QT ?_;refine QY ?_;refine QT ?_;refine QY ?_ (r:=by conv=>lhs;simp[QV,hap])
     repeat first|refine QG ?_|refine QY ?_ (r:=by conv=>lhs;simp[QV,c1,c2,w1,w2,w3,hmin,c3,hapN,hd,wd,wd2])
     exact jf hwf ((Ghost.tuple [] [_] (frz1 (k:=1) (cells:=(m++List.replicate (k*256) 0).map vby) (by simp) (by simp) (hcl _) (by simp))).toB _) rfl
    ·rcases List.mem_append.1 hx with h | h
     ·exact hby x h
     ·have:=List.eq_of_mem_replicate h;omega
 ·refine ⟨m,4294967295,fun S => ?_,⟨hl,hby⟩,Nat.le_refl _,by omega,by omega,fun h=>h⟩;refine QB (c:=jc Tryz.f129) Tryz.func129 Tryz.ntmps129 fun hwf=>?_
  refine QT ?_;refine QY ?_;refine QT ?_;refine QY ?_ (r:=by conv=>lhs;simp[QV,hap])
  repeat first|refine QG ?_|refine QY ?_ (r:=by conv=>lhs;simp[QV,c1])
  exact jf hwf ((Ghost.tuple [] [_] (frz1 (k:=0) (by simp) (by rfl) (hcl m) (by simp))).toB _) rfl
theorem Nbytes_v (a:List Int):VPure Tryz.prog 38 [vl vby a,vl vby a] (.bool true):=by
 intro S;have hall:(a.map vby).all Ye=true:=by simp [Ye,vby]
 obtain ⟨s,hs⟩ : ∃ s,Kd (vl vby a)=some (.str s):=⟨_,by rw [vl,Kd,if_pos hall]⟩
 have hsq:opSeq false (.str s) (.str s)=some (.bool true):=by simp [opSeq]
 refine QB (c:=jc Tryz.f38) Tryz.func38 Tryz.ntmps38 fun hwf=>?_
 refine QT ?_;refine QY ?_;refine QT ?_;refine QY ?_ (r:=by conv=>lhs;simp[QV,hs,hsq])
 repeat first|refine QG ?_|refine QY ?_
 exact ja hwf rfl rfl
end Go.Vw
namespace Ev
structure Ops where
 eval:Int→List Int→Int × Int
 load:List Int→Int→Int→Int→Int × Int
 store:List Int→Int→Int→Int→Int→List Int × Int
 grow:List Int→Int→Int→List Int × Int
abbrev Res:=List Int × State × Int
def mask32 (x:Int):Int:=Go.IntKind.u64.wrap (((x % 2^Go.IntKind.u64.bits).toNat &&& 4294967295 % 2^Go.IntKind.u64.bits:Nat):Int)
def hostL:List Int→List Int→List Int × List Int × Int
 | [],inp=>([],inp,0)
 | _::_,[]=>([],[],39)
 | t::ts,x::inp =>
  let r:=hostL ts inp
  if r.2.2=0 then ((if t=127 then mask32 x else x)::r.1,r.2.1,0) else ([],r.2.1,r.2.2)
def hostF (s:State) (n:Int) (outs args:List Int):Option Res :=
 if s.log.length+1+args.length≤17592186044416 then
  let r:=hostL outs s.input
  some (r.1,{ s with log:=s.log++n::args,input:=r.2.1 },r.2.2)
 else none
def inR (n:Nat) (l:List Int):Bool:=l.all fun i=>decide (0≤i)&&decide (i<n)
def setAll:List Int→List Int→List Int→List Int
 | v,i::is,x::xs=>setAll (v.set i.toNat x) is xs
 | v,_,_=>v
def oneF (O:Ops) (call:Int→List Int→State→Option Res) (x:Ss.Ins) (a:List Int) (s:State):Option Res :=
 if x.op=256 then some ([x.n],s,0)
 else if x.op=258 then (if s.fuel=0 then some ([],s,36) else some ([0],{ s with fuel:=s.fuel-1 },0))
 else if x.op=27 then (match a with
  | [p,q,r]=>some ([if r=0 then q else p],s,0)
  | _=>none)
 else if x.op=35 then (match s.globals[x.n.toNat]? with
  | some g=>some ([g],s,0)
  | none=>none)
 else if x.op=36 then (match a with
  | [p]=>if x.n.toNat<s.globals.length then some ([0],{ s with globals:=s.globals.set x.n.toNat p },0) else none
  | _=>none)
 else if x.op=16 then call x.n a s
 else if x.op=257 then (match a with
  | [p]=>some ([0],s,if insideI s.mem.length p x.n=true then 0 else 35)
  | _=>none)
 else match Ss.accOf x.op with
 | some c=>if c.store=true then (match a with
   | [p,q]=>some ([0],if (O.store s.mem x.op p x.n q).2=0 then { s with mem:=(O.store s.mem x.op p x.n q).1 } else s,if (O.store s.mem x.op p x.n q).2=0 then 0 else 38)
   | _=>none)
  else (match a with
   | [p]=>some ([(O.load s.mem x.op p x.n).1],s,if (O.load s.mem x.op p x.n).2=0 then 0 else 38)
   | _=>none)
 | none=>if x.op=63 then some ([(s.mem.length:Int).tdiv 256],s,0)
  else if x.op=64 then (match a with
   | [p]=>some ([(O.grow s.mem s.most p).2],{ s with mem:=(O.grow s.mem s.most p).1 },0)
   | _=>none)
  else some ([(O.eval x.op a).1],s,(O.eval x.op a).2)
def codeF (O:Ops) (call:Int→List Int→State→Option Res):List Ss.Ins→List Int→State→Option Res
 | [],v,s=>some (v,s,0)
 | x::r,v,s=>if inR v.length x.args=true then
   (match oneF O call x (valsI v x.args) s with
   | some (out,s',e)=>if e≠0 then some ([],s',e)
    else if inR v.length x.outs=true∧x.outs.length≤out.length then codeF O call r (setAll v x.outs out) s' else none
   | none=>none)
  else none
def pickF (v:List Int) (t:Ss.Term):Option Nat :=
 if t.kind=2 then (if inR v.length [t.arg]=true then some (if v.getD t.arg.toNat 0=0 then 1 else 0) else none)
 else if t.kind=3 then (if inR v.length [t.arg]=true∧0<t.to.length then some (if v.getD t.arg.toNat 0<((t.to.length-1:Nat):Int) then (v.getD t.arg.toNat 0).toNat else t.to.length-1) else none)
 else some 0
structure Prog where
 env:Ss.Env
 fns:List Ss.Fn
def callG (P:Prog) (go:Nat→Ss.Fn→List Int→Nat→List Int→State→Option Res) (d:Nat) (n:Int) (args:List Int) (s:State):Option Res :=
 if n<P.env.imports then
  (match P.env.sigs[n.toNat]? with
  | some t=>hostF s n t.out args
  | none=>none)
 else if 16≤d then some ([],s,37)
 else match P.fns[(n-P.env.imports).toNat]? with
  | some f=>go (d+1) f (List.replicate f.types.length 0) 0 args s
  | none=>none
def blocksF (O:Ops) (P:Prog):Nat→Nat→Ss.Fn→List Int→Nat→List Int→State→Option Res
 | 0,_,_,_,_,_,_=>none
 | N+1,d,f,v,at_,args,s=>match f.blocks[at_]? with
  | none=>none
  | some b=>if inR v.length b.params=true∧b.params.length≤args.length then
    (match codeF O (callG P (blocksF O P N) d) b.code (setAll v b.params args) s with
    | none=>none
    | some (v2,s2,e)=>if e≠0 then some ([],s2,e)
     else if b.term.kind=4 then (if inR v2.length b.term.args=true then some (valsI v2 b.term.args,s2,0) else none)
     else if b.term.kind=5 then some ([],s2,32)
     else match pickF v2 b.term with
      | none=>none
      | some k=>match b.term.to[k]? with
       | none=>none
       | some ed=>if inR v2.length ed.args=true∧0≤ed.to then blocksF O P N d f v2 ed.to.toNat (valsI v2 ed.args) s2 else none)
   else none
abbrev callF (O:Ops) (P:Prog) (N:Nat):=callG P (blocksF O P N)
structure OpsOk (O:Ops):Prop where
 eval : ∀ op a,(∀ x∈a,U64 x)→a.length<2^62→U64 (O.eval op a).1
 evalFit : ∀ op a,(∀ x∈a,U64 x)→a.length<2^62→argsOk op a→fits (Ss.rsigT op) (O.eval op a).1=true∧(partialO op=false→(O.eval op a).2=0)
 load : ∀ m op ad off,Go.Vw.byteL m→U64 ad→U64 off→U64 (O.load m op ad off).1∧(((Ss.accOf op).getD ⟨0,0,false,false⟩).kind=127→(O.load m op ad off).1<4294967296)
 store : ∀ m op ad off n,Go.Vw.byteL m→U64 ad→U64 off→U64 n→Go.Vw.byteL (O.store m op ad off n).1∧((O.store m op ad off n).2=0→(O.store m op ad off n).1.length=m.length)
 grow : ∀ m most p,Go.Vw.byteL m → -9223372036854775808≤most→most<9223372036854775808→U64 p→Go.Vw.byteL (O.grow m most p).1∧m.length≤(O.grow m most p).1.length∧0≤(O.grow m most p).2∧(O.grow m most p).2<4294967296
 storeLen : ∀ m op ad off n,(O.store m op ad off n).2=0→(O.store m op ad off n).1.length=m.length
 growLen : ∀ m most p,m.length≤(O.grow m most p).1.length
 growCap : ∀ m most p,m.length≤4096→(O.grow m most p).1.length≤4096
end Ev
namespace Go.Vw
open Go.Proofs Go.RowKit
theorem vu_flat (m:List Int):(m.map vu).flatMap V.cells=m.map vu:=by
 induction m with
 | nil=>rfl
 | cons x m ih=>rw [List.map_cons,List.flatMap_cons,ih]; rfl
theorem app_vu (l:List Int) (hl:l.length≤1048576) (S:Store):jN 1 8 S .nils (vl vu l)=some (.slice S.nx 0 l.length,S.add (1,l.map vu)):=by
 have:=zG (S:=S) (s:=1) (b:=8) (xs:=l.map vu) (fun x hx=>by
  obtain ⟨y,_,rfl⟩:=List.mem_map.1 hx
  rfl) (by rw [List.length_map]; omega) (by rw [List.length_map]; omega)
 rw [vu_flat,List.length_map] at this;exact this
theorem app_vby (l:List Int) (hl:l.length≤1048576) (S:Store):jN 1 1 S .nils (vl vby l)=some (.slice S.nx 0 l.length,S.add (1,l.map vby)):=by
 have:=zG (S:=S) (s:=1) (b:=1) (xs:=l.map vby) (fun x hx=>by
  obtain ⟨y,_,rfl⟩:=List.mem_map.1 hx
  rfl) (by rw [List.length_map]; omega) (by rw [List.length_map]; omega)
 rw [jbF,List.length_map] at this;exact this
end Go.Vw
