import Derived.Test.YtenhhokhkkfgbaaGreatC30
/- Part of the proof. -/
set_option linter.unusedVariables false
set_option linter.unusedSimpArgs false
set_option maxRecDepth 10000
set_option maxHeartbeats 4000000
namespace Ev
def holds (kinds:List Int) (memory:Bool) (s:State):Bool :=
 !(!decide ((s.mem.length:Int).tmod 256=0)||decide (s.most<s.mem.length)||decide (4096<s.most)||(!memory && !decide (s.most=0)))&&(!(!decide (s.globals.length=kinds.length)||decide (s.fuel<0)||decide (1024<s.fuel)||decide (4096<s.input.length)||decide (4096<s.log.length))&&fitsL kinds s.globals)
structure StFits (s:State):Prop where
 mem:Go.Vw.byteL s.mem
 most : -9223372036854775808<=s.most/\s.most<9223372036854775808
 globals:words s.globals
 fuel : -9223372036854775808<=s.fuel/\s.fuel<9223372036854775808
 input:words s.input
 log:words s.log
end Ev
namespace Go.Vw
open Go.Proofs Go.RowKit
attribute [-simp] List.map_set
theorem Nholds_v (kinds:List Int) (memory:Bool) (s:Ev.State) (hk:kinds.length<2^62) (hs:Ev.StFits s):bS 112 [vl vint kinds, .bool memory,qf s] (.bool (Ev.holds kinds memory s)):=by
 intro S;obtain ⟨⟨hm,_⟩,_,⟨hg,_⟩,_,⟨hin,_⟩,⟨hlg,_⟩⟩:=hs;obtain ⟨mem,most,gl,fuel,inp,log⟩:=s;simp only at hm hg hin hlg;have henc:qf ⟨mem,most,gl,fuel,inp,log⟩ = .agg [vl vby mem,vint most,vl vu gl,vint fuel,vl vu inp,vl vu log]:=rfl;rw [henc];obtain ⟨b1,hb1⟩ : ∃ b,b=(!decide ((mem.length:Int).tmod 256=0)||decide (most<mem.length)||decide (4096<most)||(!memory && !decide (most=0))):=⟨_,rfl⟩
 obtain ⟨b2,hb2⟩ : ∃ b,b=(!decide (gl.length=kinds.length)||decide (fuel<0)||decide (1024<fuel)||decide (4096<inp.length)||decide (4096<log.length)):=⟨_,rfl⟩
 have hX:Ev.holds kinds memory ⟨mem,most,gl,fuel,inp,log⟩=(!b1&&(!b2&&Ev.fitsL kinds gl)):=by rw [hb1,hb2]; rfl
 rw [hX]
 by_cases c1 : ¬ (mem.length:Int).tmod 256=0
 ·skip
  have e:b1=true:=by rw [hb1]; simp [c1]
  rw [e];simp only [Bool.not_true,aX,Bool.and_false];refine QB (c:=jc Tryz.f112) Tryz.func112 Tryz.ntmps112 fun hwf=>?_
  refine QY ?_;refine QH 5 0 ?_
  refine bx c1 ?_
  exact ja (X := .bool false) hwf (by simp) rfl
 have c1:(mem.length:Int).tmod 256=0:=Decidable.not_not.1 c1
 by_cases c2:most<(mem.length:Int)
 ·skip
  have e:b1=true:=by rw [hb1]; simp [c1,c2]
  rw [e];simp only [Bool.not_true,aX,Bool.and_false];refine QB (c:=jc Tryz.f112) Tryz.func112 Tryz.ntmps112 fun hwf=>?_
  refine QY ?_;refine QH 5 0 ?_
  refine bt c1 c2 ?_
  exact ja (X := .bool false) hwf (by simp) rfl
 by_cases c3:4096<most
 ·skip
  have e:b1=true:=by rw [hb1]; simp [c1,c2,c3]
  rw [e];simp only [Bool.not_true,aX,Bool.and_false];refine QB (c:=jc Tryz.f112) Tryz.func112 Tryz.ntmps112 fun hwf=>?_
  refine QY ?_;refine QH 5 0 ?_
  refine bv c1 c2 c3 ?_
  exact ja (X := .bool false) hwf (by simp) rfl
 by_cases c4:memory=false /\ ¬ most=0
 ·obtain ⟨rfl,c4⟩:=c4;have e:b1=true:=by rw [hb1]; simp [c1,c2,c3,c4]
  rw [e];simp only [Bool.not_true,aX,Bool.and_false];refine QB (c:=jc Tryz.f112) Tryz.func112 Tryz.ntmps112 fun hwf=>?_
  refine QY ?_;refine QH 5 0 ?_
  refine bD c1 c2 c3 c4 ?_
  exact ja (X := .bool false) hwf (by simp) rfl
 have eb1:b1=false:=by
  rw [hb1]
  cases memory with
  | true=>simp [c1,c2,c3]
  | false =>
   have h0:most=0:=Decidable.not_not.1 fun h=>c4 ⟨rfl,h⟩
   simp only [decide_eq_true c1,decide_eq_false c2,decide_eq_false c3,decide_eq_true h0]; rfl
 obtain ⟨f1,f2,hf⟩ : ∃ (f1:Bool) (f2:memory=false->(most=0)=True),True:=⟨true,fun h=>eq_true (Decidable.not_not.1 fun h2=>c4 ⟨h,h2⟩),trivial⟩
 by_cases d1 : ¬ gl.length=kinds.length
 ·have dI : ¬ (gl.length:Int)=(kinds.length:Int):=by omega
  have e:b2=true:=by rw [hb2]; simp [d1]
  rw [eb1,e];simp only [Bool.not_true,aX,Bool.and_false,Bool.not_false]
  cases memory with
  | true =>
   refine QB (c:=jc Tryz.f112) Tryz.func112 Tryz.ntmps112 fun hwf=>?_
   refine QY ?_;refine QH 5 0 ?_
   refine bJ c1 c2 c3 d1 dI ?_
   exact ja (X := .bool false) hwf (by simp) rfl
  | false =>
   have c5:=f2 rfl;refine QB (c:=jc Tryz.f112) Tryz.func112 Tryz.ntmps112 fun hwf=>?_
   refine QY ?_;refine QH 5 0 ?_
   refine bz c1 c2 c3 c5 d1 dI ?_
   exact ja (X := .bool false) hwf (by simp) rfl
 have d1:gl.length=kinds.length:=Decidable.not_not.1 d1;have dI:(gl.length:Int)=(kinds.length:Int):=by omega
 by_cases d2:fuel<0
 ·skip
  have e:b2=true:=by rw [hb2]; simp [d1,d2]
  rw [eb1,e];simp only [Bool.not_true,aX,Bool.and_false,Bool.not_false]
  cases memory with
  | true =>
   refine QB (c:=jc Tryz.f112) Tryz.func112 Tryz.ntmps112 fun hwf=>?_
   refine QY ?_;refine QH 5 0 ?_
   refine bz c1 c2 c3 d1 dI d2 ?_
   exact ja (X := .bool false) hwf (by simp) rfl
  | false =>
   have c5:=f2 rfl;refine QB (c:=jc Tryz.f112) Tryz.func112 Tryz.ntmps112 fun hwf=>?_
   refine QY ?_;refine QH 5 0 ?_
   repeat first|refine QG ?_|refine QY ?_ (r:=by conv=>lhs;simp[QV,c1,c2,c3,c5,d1,dI,d2])
   exact ja (X := .bool false) hwf (by simp) rfl
 by_cases d3:1024<fuel
 ·skip
  have e:b2=true:=by rw [hb2]; simp [d1,d2,d3]
  rw [eb1,e];simp only [Bool.not_true,aX,Bool.and_false,Bool.not_false]
  cases memory with
  | true =>
   refine QB (c:=jc Tryz.f112) Tryz.func112 Tryz.ntmps112 fun hwf=>?_
   refine QY ?_;refine QH 5 0 ?_
   repeat first|refine QG ?_|refine QY ?_ (r:=by conv=>lhs;simp[QV,c1,c2,c3,d1,d2,dI,d3])
   exact ja (X := .bool false) hwf (by simp) rfl
  | false =>
   have c5:=f2 rfl;refine QB (c:=jc Tryz.f112) Tryz.func112 Tryz.ntmps112 fun hwf=>?_
   refine QY ?_;refine QH 5 0 ?_
   repeat first|refine QG ?_|refine QY ?_ (r:=by conv=>lhs;simp[QV,c1,c2,c3,c5,d1,d2,dI,d3])
   exact ja (X := .bool false) hwf (by simp) rfl
 by_cases d4:4096<inp.length
 ·have d4I:(4096:Int)<(inp.length:Int):=by omega
  have e:b2=true:=by rw [hb2]; simp [d1,d2,d3,d4]
  rw [eb1,e];simp only [Bool.not_true,aX,Bool.and_false,Bool.not_false]
  cases memory with
  | true =>
   refine QB (c:=jc Tryz.f112) Tryz.func112 Tryz.ntmps112 fun hwf=>?_
   refine QY ?_;refine QH 5 0 ?_
   repeat first|refine QG ?_|refine QY ?_ (r:=by conv=>lhs;simp[QV,c1,c2,c3,d1,d2,d3,dI,d4,d4I])
   exact ja (X := .bool false) hwf (by simp) rfl
  | false =>
   have c5:=f2 rfl;refine QB (c:=jc Tryz.f112) Tryz.func112 Tryz.ntmps112 fun hwf=>?_
   refine QY ?_;refine QH 5 0 ?_
   repeat first|refine QG ?_|refine QY ?_ (r:=by conv=>lhs;simp[QV,c1,c2,c3,c5,d1,d2,d3,dI,d4,d4I])
   exact ja (X := .bool false) hwf (by simp) rfl
 have d4I : ¬ (4096:Int)<(inp.length:Int):=by omega
 by_cases d5:4096<log.length
 ·have d5I:(4096:Int)<(log.length:Int):=by omega
  have e:b2=true:=by rw [hb2]; simp [d1,d2,d3,d4,d5]
  rw [eb1,e];simp only [Bool.not_true,aX,Bool.and_false,Bool.not_false]
  cases memory with
  | true =>
   refine QB (c:=jc Tryz.f112) Tryz.func112 Tryz.ntmps112 fun hwf=>?_
   refine QY ?_;refine QH 5 0 ?_
   repeat first|refine QG ?_|refine QY ?_ (r:=by conv=>lhs;simp[QV,c1,c2,c3,d1,d2,d3,d4,d4I,dI,d5,d5I])
   exact ja (X := .bool false) hwf (by simp) rfl
  | false =>
   have c5:=f2 rfl;refine QB (c:=jc Tryz.f112) Tryz.func112 Tryz.ntmps112 fun hwf=>?_
   refine QY ?_;refine QH 5 0 ?_
   repeat first|refine QG ?_|refine QY ?_ (r:=by conv=>lhs;simp[QV,c1,c2,c3,c5,d1,d2,d3,d4,d4I,dI,d5,d5I])
   exact ja (X := .bool false) hwf (by simp) rfl
 have d5I : ¬ (4096:Int)<(log.length:Int):=by omega
 have eb2:b2=false:=by rw [hb2]; simp [d1,d2,d3,d4,d5]
 rw [eb1,eb2];simp only [Bool.not_false,aE];obtain ⟨mm,hmm⟩ : ∃ mm:Bool,mm=memory:=⟨_,rfl⟩
 cases memory with
 | true =>
  refine QB (c:=jc Tryz.f112) Tryz.func112 Tryz.ntmps112 fun hwf=>?_
  refine QY ?_;refine QH 5 0 ?_
  repeat first|refine QG ?_|refine QY ?_ (r:=by conv=>lhs;simp[QV,c1,c2,c3,d1,dI,d2,d3,d4,d4I,d5,d5I])
  refine QT ?_;refine jd [0,5,7] rfl (fun c σ S' => ∃ (k:Nat),k<=kinds.length/\c=kinds.length-k/\Ev.fitsL (kinds.drop k) (gl.drop k)=Ev.fitsL kinds gl/\σ=[(0,vl vint kinds),(5,(V.agg [vl vby mem,vint most,vl vu gl,vint fuel,vl vu inp,vl vu log]).ref),(7,vnat k)]/\S'=St S [] [none]) kinds.length ?_ ?_
  ·exact ⟨0,by omega,rfl,rfl,by simp [Fr.only,Fr.look],by simp⟩
  ·rintro c σ T ⟨k,hk',rfl,hd,rfl,rfl⟩
   by_cases hkt:k<kinds.length
   ·have hw:=jg hkt (by omega);have hka:k<gl.length:=by omega
    rw [Ev.fitsL_step hkt hka] at hd;have cf:=jbe kinds[k] gl[k];have hfe:Ev.fits kinds[k] gl[k]=(decide (kinds[k]=126)||(decide (kinds[k]=127)&&decide (gl[k]<4294967296))):=rfl;rw [<-hfe] at cf;obtain ⟨b,hb⟩ : ∃ b,b=Ev.fits kinds[k] gl[k]:=⟨_,rfl⟩
    rw [<-hb] at cf hd;obtain ⟨x,hx⟩ : ∃ x,kinds[k]=x:=⟨_,rfl⟩
    obtain ⟨y,hy⟩ : ∃ y,gl[k]=y:=⟨_,rfl⟩
    rw [hx,hy] at cf
    cases b with
    | true =>
     rw [aE] at hd
     refine bx hkt ?_
     refine QT ?_;refine QD (r:=by conv=>lhs;simp[QV,hkt,hka,hx,hy]) (k:=?_);refine QL cf ?_;refine QW ?_
     refine bx hw ?_
     show js _ _ _ _ _ _ _;exact again ⟨ao hkt (aY k),k+1,hkt,rfl,hd,by simp [Fr.only,Fr.look],rfl⟩
    | false =>
     rw [aX] at hd;rw [<-hd]
     refine bx hkt ?_
     refine QT ?_;refine QD (r:=by conv=>lhs;simp[QV,hkt,hka,hx,hy]) (k:=?_);refine QL cf ?_;refine bQ ?_
     exact ja (X := .bool false) hwf (by simp) rfl
   ·rw [Ev.fitsL_end hkt (by omega)] at hd;rw [<-hd]
    refine bx hkt ?_
    exact ja (X := .bool true) hwf (by simp) rfl
 | false =>
  have c5:=f2 rfl;refine QB (c:=jc Tryz.f112) Tryz.func112 Tryz.ntmps112 fun hwf=>?_
  refine QY ?_;refine QH 5 0 ?_
  repeat first|refine QG ?_|refine QY ?_ (r:=by conv=>lhs;simp[QV,c1,c2,c3,c5,d1,dI,d2,d3,d4,d4I,d5,d5I])
  refine QT ?_;refine jd [0,5,7] rfl (fun c σ S' => ∃ (k:Nat),k<=kinds.length/\c=kinds.length-k/\Ev.fitsL (kinds.drop k) (gl.drop k)=Ev.fitsL kinds gl/\σ=[(0,vl vint kinds),(5,(V.agg [vl vby mem,vint most,vl vu gl,vint fuel,vl vu inp,vl vu log]).ref),(7,vnat k)]/\S'=St S [] [none]) kinds.length ?_ ?_
  ·exact ⟨0,by omega,rfl,rfl,by simp [Fr.only,Fr.look],by simp⟩
  ·rintro c σ T ⟨k,hk',rfl,hd,rfl,rfl⟩
   by_cases hkt:k<kinds.length
   ·have hw:=jg hkt (by omega);have hka:k<gl.length:=by omega
    rw [Ev.fitsL_step hkt hka] at hd;have cf:=jbe kinds[k] gl[k];have hfe:Ev.fits kinds[k] gl[k]=(decide (kinds[k]=126)||(decide (kinds[k]=127)&&decide (gl[k]<4294967296))):=rfl;rw [<-hfe] at cf;obtain ⟨b,hb⟩ : ∃ b,b=Ev.fits kinds[k] gl[k]:=⟨_,rfl⟩
    rw [<-hb] at cf hd;obtain ⟨x,hx⟩ : ∃ x,kinds[k]=x:=⟨_,rfl⟩
    obtain ⟨y,hy⟩ : ∃ y,gl[k]=y:=⟨_,rfl⟩
    rw [hx,hy] at cf
    cases b with
    | true =>
     rw [aE] at hd
     refine bx hkt ?_
     refine QT ?_;refine QD (r:=by conv=>lhs;simp[QV,hkt,hka,hx,hy]) (k:=?_);refine QL cf ?_;refine QW ?_
     refine bx hw ?_
     show js _ _ _ _ _ _ _;exact again ⟨ao hkt (aY k),k+1,hkt,rfl,hd,by simp [Fr.only,Fr.look],rfl⟩
    | false =>
     rw [aX] at hd;rw [<-hd]
     refine bx hkt ?_
     refine QT ?_;refine QD (r:=by conv=>lhs;simp[QV,hkt,hka,hx,hy]) (k:=?_);refine QL cf ?_;refine bQ ?_
     exact ja (X := .bool false) hwf (by simp) rfl
   ·rw [Ev.fitsL_end hkt (by omega)] at hd;rw [<-hd]
    refine bx hkt ?_
    exact ja (X := .bool true) hwf (by simp) rfl
theorem Nstate_v (e:Ss.Env) (s:Ev.State) (he:e.Fits) (hs:Ev.StFits s):bS 83 [qL e,qf s] (.bool (Ev.holds e.globals e.mem s)):=by
 intro S;have ch:=Nholds_v e.globals e.mem s (by have:=he.2.2.1; simp only [Ss.Ints] at this; omega) hs;generalize Ev.holds e.globals e.mem s=b at *
 clear he hs;obtain ⟨sg,im,gl,mu,me⟩:=e;obtain ⟨mem,most,glb,fuel,inp,log⟩:=s;simp only at ch;have ch':bS 112 [vl vint gl, .bool me, .agg [vl vby mem,vint most,vl vu glb,vint fuel,vl vu inp,vl vu log]] (.bool b):=ch;have h1:qL ⟨sg,im,gl,mu,me⟩ = .agg [vl jm sg,vint im,vl vint gl,vl V.bool mu, .bool me]:=rfl;have h2:qf ⟨mem,most,glb,fuel,inp,log⟩ = .agg [vl vby mem,vint most,vl vu glb,vint fuel,vl vu inp,vl vu log]:=rfl;rw [h1,h2];refine QB (c:=jc Tryz.f83) Tryz.func83 Tryz.ntmps83 fun hwf=>?_
 refine QY ?_;refine QH 2 0 ?_;refine QH 3 1 ?_;refine QP ?_;refine QL (ch') ?_;refine bQ ?_
 exact ja (X := .bool b) hwf (by simp) rfl
theorem Nfits_v (e:Ss.Env) (s:Ev.State) (he:e.Fits) (hs:Ev.StFits s):bS 51 [qL e,qf s] (.bool (e.right&&Ev.holds e.globals e.mem s)):=by
 intro S;have c1:=Ww e he;have c2:=Nstate_v e s he hs;generalize Ev.holds e.globals e.mem s=b at *
 generalize e.right=a at *
 clear he hs;obtain ⟨sg,im,gl,mu,me⟩:=e;obtain ⟨mem,most,glb,fuel,inp,log⟩:=s;have h1:qL ⟨sg,im,gl,mu,me⟩ = .agg [vl jm sg,vint im,vl vint gl,vl V.bool mu, .bool me]:=rfl;have h2:qf ⟨mem,most,glb,fuel,inp,log⟩ = .agg [vl vby mem,vint most,vl vu glb,vint fuel,vl vu inp,vl vu log]:=rfl;rw [h1] at c1 c2 ⊢;rw [h2] at c2 ⊢;refine QB (c:=jc Tryz.f51) Tryz.func51 Tryz.ntmps51 fun hwf=>?_
 refine QY ?_;refine QH 2 0 ?_;refine QH 3 1 ?_;refine QP ?_;refine QL (c1) ?_
 cases a with
 | false =>
  refine bQ ?_
  exact ja (X := .bool false) hwf (by simp) rfl
 | true =>
  refine QZ ?_;refine QL (c2) ?_;refine bQ ?_
  exact ja (X := .bool b) hwf (by simp) (by simp)
theorem Ngrow_v (m:List Int) (most pages:Int) (hm:byteL m) (hm1 : -9223372036854775808<=most) (hm2:most<9223372036854775808) (hp:Ev.U64 pages) : ∃ (m':List Int) (n:Int),bS 144 [vl vby m,vint most,vu pages] (.tuple [vl vby m',vu n])/\byteL m'/\m.length<=m'.length/\0<=n/\n<4294967296/\(m.length<=4096->m'.length<=4096):=by
 obtain ⟨hl,hby⟩:=hm;obtain ⟨p0,p1⟩:=hp;have hb8:m.length*1<=140737488355328:=by omega
 have hcl : ∀ l:List Int,(l.map vby).all V.closed1=true:=fun l=>jq vby (fun _=>rfl) l
 have hap : ∀ S,jR 1 1 S .nils (vl vby m)=some (.slice S.nx 0 m.length,S.add (1,m.map vby)):=fun S=>by
  have:=zT (S:=S) (s:=1) (b:=1) (xs:=m.map vby) (fun x hx=>by
   obtain ⟨y,_,rfl⟩:=bk.1 hx
   rfl) (by rw [aI]; omega) (by rw [aI]; omega)
  rw [jcc,aI] at this;exact this
 by_cases c1:(m.length:Int).tmod 256=0
 ·by_cases c2:16<pages
  ·refine ⟨m,4294967295,fun S => ?_,⟨hl,hby⟩,bf _,by omega,by omega,fun h=>h⟩;refine QB (c:=jc Tryz.f144) Tryz.func144 Tryz.ntmps144 fun hwf=>?_
   refine QY ?_;refine bM hap ?_
   refine bt c1 c2 ?_
   exact jf hwf ((Ghost.tuple [] [_] (frz1 (k:=0) (by simp) (by rfl) (hcl m) (by simp))).toB _) rfl
  ·obtain ⟨k,rfl⟩ : ∃ k:Nat,pages=(k:Int):=⟨pages.toNat,by omega⟩
   have w1:IntKind.i64.wrap (k:Int)=(k:Int):=wrap_i64 (by omega) (by omega);have w2:IntKind.i64.wrap ((k:Int)*256)=(k:Int)*256:=wrap_i64 (by omega) (by omega);have w3:IntKind.i64.wrap ((m.length:Int)+(k:Int)*256)=(m.length:Int)+(k:Int)*256:=wrap_i64 (by omega) (by omega);obtain ⟨q,hq⟩ : ∃ q,q=(if 4096<most then 4096 else most):=⟨_,rfl⟩
   have hmin:jcA (.int .i64 most) (.int .i64 4096)=some (.int .i64 q):=by rw [hq]; simp [jcA]
   by_cases c3:q<(m.length:Int)+(k:Int)*256
   ·refine ⟨m,4294967295,fun S => ?_,⟨hl,hby⟩,bf _,by omega,by omega,fun h=>h⟩;refine QB (c:=jc Tryz.f144) Tryz.func144 Tryz.ntmps144 fun hwf=>?_
    refine QY ?_;refine bM hap ?_
    repeat first|refine QG ?_|refine QY ?_ (r:=by conv=>lhs;simp[QV,c1,c2,w1,w2,w3,hmin,c3])
    exact jf hwf ((Ghost.tuple [] [_] (frz1 (k:=0) (by simp) (by rfl) (hcl m) (by simp))).toB _) rfl
   ·have hq4:q<=4096:=by rw [hq]; split<;>omega
    have hlk:m.length+k*256<=4096:=by omega
    obtain ⟨d,hd⟩ : ∃ d,(m.length:Int).tdiv 256=d:=⟨_,rfl⟩
    have hd0:0<=d/\d<=4096:=by
     rw [Int.tdiv_eq_ediv_of_nonneg (by omega)] at hd;omega
    have wd:IntKind.i64.wrap d=d:=wrap_i64 (by omega) (by omega);have wd2:IntKind.u64.wrap d=d:=bO;have hb8':(m.length+k*256)*1<=140737488355328:=by omega
    have hb9':m.length+k*256<=140737488355328:=by omega
    have hrep:List.replicate (k*256) (V.int .u8 0)=(List.replicate (k*256) (0:Int)).map vby:=by rw [List.map_replicate]; rfl
    refine ⟨m++List.replicate (k*256) 0,d,fun S => ?_,⟨by simp; omega,fun x hx => ?_⟩,by simp,by omega,by omega,fun _=>by simp; omega⟩
    ·have hapN : ∀ S:Store, ∀ o,S.get o=some (1,m.map vby)->zV 1 1 [.int .u8 0] S (.slice o 0 m.length) (.int .i64 ((k:Int)*256))=some (.slice S.nx 0 (m.length+k*256),(S.del o).add (1,(m++List.replicate (k*256) 0).map vby)):=by
      intro S o ho;have hkk:(k:Int)*256=((k*256:Nat):Int):=by omega
      rw [hkk];simp only [zV,ho];rw [if_pos (by refine ⟨by omega,trivial,by simp,by rw [Int.toNat_natCast]; exact hb8',by rw [Int.toNat_natCast]; exact hb9'⟩)];simp only [Int.toNat_natCast,List.drop_zero,Nat.mul_one,jcr];rw [hrep,List.take_of_length_le (by simp),List.map_append]
     refine QB (c:=jc Tryz.f144) Tryz.func144 Tryz.ntmps144 fun hwf=>?_
     refine QY ?_;refine bM hap ?_
     repeat first|refine QG ?_|refine QY ?_ (r:=by conv=>lhs;simp[QV,c1,c2,w1,w2,w3,hmin,c3,hapN,hd,wd,wd2])
     exact jf hwf ((Ghost.tuple [] [_] (frz1 (k:=1) (cells:=(m++List.replicate (k*256) 0).map vby) (by simp) (by simp) (hcl _) (by simp))).toB _) rfl
    ·rcases aG.1 hx with h | h
     ·exact hby x h
     ·have:=List.eq_of_mem_replicate h;omega
 ·refine ⟨m,4294967295,fun S => ?_,⟨hl,hby⟩,bf _,by omega,by omega,fun h=>h⟩;refine QB (c:=jc Tryz.f144) Tryz.func144 Tryz.ntmps144 fun hwf=>?_
  refine QY ?_;refine bM hap ?_
  refine bx c1 ?_
  exact jf hwf ((Ghost.tuple [] [_] (frz1 (k:=0) (by simp) (by rfl) (hcl m) (by simp))).toB _) rfl
theorem Nbytes_v (a:List Int):bS 54 [vl vby a,vl vby a] (.bool true):=by
 intro S;have hall:(a.map vby).all YE=true:=by simp [YE,vby]
 obtain ⟨s,hs⟩ : ∃ s,Kv (vl vby a)=some (.str s):=⟨_,by rw [vl,Kv,if_pos hall]⟩
 have hsq:opSeq false (.str s) (.str s)=some (.bool true):=by simp [opSeq]
 refine QB (c:=jc Tryz.f54) Tryz.func54 Tryz.ntmps54 fun hwf=>?_
 refine QY ?_;refine QY ?_ (r:=by conv=>lhs;simp[QV,hs,hsq])
 refine bw ?_
 exact bN
end Go.Vw
namespace Ev
structure Ops where
 eval:Int->List Int->Int × Int
 load:List Int->Int->Int->Int->Int × Int
 store:List Int->Int->Int->Int->Int->List Int × Int
 grow:List Int->Int->Int->List Int × Int
abbrev Res:=List Int × State × Int
def mask32 (x:Int):Int:=Go.IntKind.u64.wrap (((x % 2^Go.IntKind.u64.bits).toNat &&& 4294967295 % 2^Go.IntKind.u64.bits:Nat):Int)
def hostL:List Int->List Int->List Int × List Int × Int
 | [],inp=>([],inp,0)
 | _::_,[]=>([],[],39)
 | t::ts,x::inp =>
  let r:=hostL ts inp
  if r.2.2=0 then ((if t=127 then mask32 x else x)::r.1,r.2.1,0) else ([],r.2.1,r.2.2)
def hostF (s:State) (n:Int) (outs args:List Int):Option Res :=
 if s.log.length+1+args.length<=17592186044416 then
  let r:=hostL outs s.input
  some (r.1,{ s with log:=s.log++n::args,input:=r.2.1 },r.2.2)
 else none
def inR (n:Nat) (l:List Int):Bool:=l.all fun i=>decide (0<=i)&&decide (i<n)
def setAll:List Int->List Int->List Int->List Int
 | v,i::is,x::xs=>setAll (v.set i.toNat x) is xs
 | v,_,_=>v
def oneF (O:Ops) (call:Int->List Int->State->Option Res) (x:Ss.Ins) (a:List Int) (s:State):Option Res :=
 if x.op=256 then some ([x.n],s,0)
 else if x.op=258 then (if s.fuel=0 then some ([],s,36) else some ([0],{ s with fuel:=s.fuel-1 },0))
 else if x.op=27 then (match a with
  | [p,q,r]=>some ([if r=0 then q else p],s,0)
  | _=>none)
 else if x.op=35 then (match s.globals[x.n.toNat]? with
  | some g=>some ([g],s,0)
  | none=>none)
 else if x.op=36 then (match a with
  | [p]=>if x.n.toNat<s.globals.length then some ([0],{ s with globals:=s.globals.set x.n.toNat p },0) else none
  | _=>none)
 else if x.op=16 then call x.n a s
 else if x.op=257 then (match a with
  | [p]=>some ([0],s,if insideI s.mem.length p x.n=true then 0 else 35)
  | _=>none)
 else match Ss.accOf x.op with
 | some c=>if c.store=true then (match a with
   | [p,q]=>some ([0],if (O.store s.mem x.op p x.n q).2=0 then { s with mem:=(O.store s.mem x.op p x.n q).1 } else s,if (O.store s.mem x.op p x.n q).2=0 then 0 else 38)
   | _=>none)
  else (match a with
   | [p]=>some ([(O.load s.mem x.op p x.n).1],s,if (O.load s.mem x.op p x.n).2=0 then 0 else 38)
   | _=>none)
 | none=>if x.op=63 then some ([(s.mem.length:Int).tdiv 256],s,0)
  else if x.op=64 then (match a with
   | [p]=>some ([(O.grow s.mem s.most p).2],{ s with mem:=(O.grow s.mem s.most p).1 },0)
   | _=>none)
  else some ([(O.eval x.op a).1],s,(O.eval x.op a).2)
def codeF (O:Ops) (call:Int->List Int->State->Option Res):List Ss.Ins->List Int->State->Option Res
 | [],v,s=>some (v,s,0)
 | x::r,v,s=>if inR v.length x.args=true then
   (match oneF O call x (valsI v x.args) s with
   | some (out,s',e)=>if e≠0 then some ([],s',e)
    else if inR v.length x.outs=true/\x.outs.length<=out.length then codeF O call r (setAll v x.outs out) s' else none
   | none=>none)
  else none
def pickF (v:List Int) (t:Ss.Term):Option Nat :=
 if t.kind=2 then (if inR v.length [t.arg]=true then some (if v.getD t.arg.toNat 0=0 then 1 else 0) else none)
 else if t.kind=3 then (if inR v.length [t.arg]=true/\0<t.to.length then some (if v.getD t.arg.toNat 0<((t.to.length-1:Nat):Int) then (v.getD t.arg.toNat 0).toNat else t.to.length-1) else none)
 else some 0
structure Prog where
 env:Ss.Env
 fns:List Ss.Fn
def callG (P:Prog) (go:Nat->Ss.Fn->List Int->Nat->List Int->State->Option Res) (d:Nat) (n:Int) (args:List Int) (s:State):Option Res :=
 if n<P.env.imports then
  (match P.env.sigs[n.toNat]? with
  | some t=>hostF s n t.out args
  | none=>none)
 else if 16<=d then some ([],s,37)
 else match P.fns[(n-P.env.imports).toNat]? with
  | some f=>go (d+1) f (List.replicate f.types.length 0) 0 args s
  | none=>none
def blocksF (O:Ops) (P:Prog):Nat->Nat->Ss.Fn->List Int->Nat->List Int->State->Option Res
 | 0,_,_,_,_,_,_=>none
 | N+1,d,f,v,at_,args,s=>match f.blocks[at_]? with
  | none=>none
  | some b=>if inR v.length b.params=true/\b.params.length<=args.length then
    (match codeF O (callG P (blocksF O P N) d) b.code (setAll v b.params args) s with
    | none=>none
    | some (v2,s2,e)=>if e≠0 then some ([],s2,e)
     else if b.term.kind=4 then (if inR v2.length b.term.args=true then some (valsI v2 b.term.args,s2,0) else none)
     else if b.term.kind=5 then some ([],s2,32)
     else match pickF v2 b.term with
      | none=>none
      | some k=>match b.term.to[k]? with
       | none=>none
       | some ed=>if inR v2.length ed.args=true/\0<=ed.to then blocksF O P N d f v2 ed.to.toNat (valsI v2 ed.args) s2 else none)
   else none
abbrev callF (O:Ops) (P:Prog) (N:Nat):=callG P (blocksF O P N)
structure OpsOk (O:Ops):Prop where
 eval : ∀ op a,(∀ x∈a,U64 x)->a.length<2^62->U64 (O.eval op a).1
 evalFit : ∀ op a,(∀ x∈a,U64 x)->a.length<2^62->argsOk op a->fits (Ss.rsigT op) (O.eval op a).1=true/\(partialO op=false->(O.eval op a).2=0)
 load : ∀ m op ad off,Go.Vw.byteL m->U64 ad->U64 off->U64 (O.load m op ad off).1/\(((Ss.accOf op).getD ⟨0,0,false,false⟩).kind=127->(O.load m op ad off).1<4294967296)
 store : ∀ m op ad off n,Go.Vw.byteL m->U64 ad->U64 off->U64 n->Go.Vw.byteL (O.store m op ad off n).1/\((O.store m op ad off n).2=0->(O.store m op ad off n).1.length=m.length)
 grow : ∀ m most p,Go.Vw.byteL m -> -9223372036854775808<=most->most<9223372036854775808->U64 p->Go.Vw.byteL (O.grow m most p).1/\m.length<=(O.grow m most p).1.length/\0<=(O.grow m most p).2/\(O.grow m most p).2<4294967296
 storeLen : ∀ m op ad off n,(O.store m op ad off n).2=0->(O.store m op ad off n).1.length=m.length
 growLen : ∀ m most p,m.length<=(O.grow m most p).1.length
 growCap : ∀ m most p,m.length<=4096->(O.grow m most p).1.length<=4096
end Ev
namespace Go.Vw
open Go.Proofs Go.RowKit
theorem vu_flat (m:List Int):(m.map vu).flatMap V.cells=m.map vu:=by
 induction m with
 | nil=>rfl
 | cons x m ih=>rw [List.map_cons,List.flatMap_cons,ih]; rfl
theorem app_vu (l:List Int) (hl:l.length<=1048576) (S:Store):jR 1 8 S .nils (vl vu l)=some (.slice S.nx 0 l.length,S.add (1,l.map vu)):=by
 have:=zT (S:=S) (s:=1) (b:=8) (xs:=l.map vu) (fun x hx=>by
  obtain ⟨y,_,rfl⟩:=bk.1 hx
  rfl) (by rw [aI]; omega) (by rw [aI]; omega)
 rw [vu_flat,aI] at this;exact this
theorem app_vby (l:List Int) (hl:l.length<=1048576) (S:Store):jR 1 1 S .nils (vl vby l)=some (.slice S.nx 0 l.length,S.add (1,l.map vby)):=by
 have:=zT (S:=S) (s:=1) (b:=1) (xs:=l.map vby) (fun x hx=>by
  obtain ⟨y,_,rfl⟩:=bk.1 hx
  rfl) (by rw [aI]; omega) (by rw [aI]; omega)
 rw [jcc,aI] at this;exact this
end Go.Vw
namespace Go.Vw
open Go.Proofs Go.RowKit
attribute [-simp] List.map_set
def runC (P:Ev.Prog) (s:Ev.State) (g l:Nat) (d e:Int):List V:=[vl jm P.env.sigs,vint P.env.imports,vl vint P.env.globals,vl V.bool P.env.muts, .bool P.env.mem,vl jI P.fns,vl vby s.mem,vint s.most, .slice g 0 s.globals.length,vint s.fuel,vl vu s.input, .slice l 0 s.log.length,vint d,vint e]
structure RunAt (S:Store) (P:Ev.Prog) (s:Ev.State) (o g l:Nat) (d e:Int):Prop where
 obj:S.get o=some (14,runC P s g l d e)
 glob:S.get g=some (1,s.globals.map vu)
 log:S.get l=some (1,s.log.map vu)
 og:o≠g
 ol:o≠l
 gl:g≠l
def Keeps (S T:Store) (xs:List Nat):Prop:=S.nx<=T.nx /\ ∀ i,i<S.nx->i∉xs->T.get i=S.get i
theorem KQ {S:Store} {u:Upds} {l:List (Option (Nat × List V))} {xs:List Nat} (h : ∀ i c,i∉xs->uGet u i c=c):Keeps S (St S u l) xs :=
 ⟨by rw [jL,lid]; omega,fun i hi hx=>by rw [jh hi,h i _ hx]⟩
theorem host_end {S:Store} {P:Ev.Prog} {s s':Ev.State} {o g l:Nat} {d:Int} {own:List (Option (Nat × List V))} {cells:List V} (kl:Nat) (hwf:S.Wf) (hr:RunAt S P s o g l d 0) (hs:s'.globals=s.globals) (hk:(own[kl]?).join=some (1,s'.log.map vu)) (hc:cells=runC P s' g (lid S.nx kl) d 0) :
  Keeps S (St S [(l,none),(o,some (14,cells))] own) [o,g,l] /\ ∃ l',RunAt (St S [(l,none),(o,some (14,cells))] own) P s' o g l' d 0/\(l'=l\/S.nx<=l'):=by
 have on:=jl hwf hr.obj;have gn:=jl hwf hr.glob;have ln:=jl hwf hr.log;have h1:=hr.og;have h2:=hr.ol;have h3:=hr.gl;refine ⟨KQ fun i c hi => ?_,lid S.nx kl,⟨?_, ?_, ?_,h1, ?_, ?_⟩, .inr (by simp [lid])⟩
 ·simp only [aL,List.not_mem_nil,or_false,not_or] at hi;simp [uGet,hi.1,hi.2.2]
 ·rw [jh on,hc]; simp [uGet,h2]
 ·rw [jh gn,hs]; simp [uGet,Ne.symm h1,h3,hr.glob]
 ·rw [jv,hk]
 ·simp only [lid]; omega
 ·simp only [lid]; omega
theorem mask32_v (x:Int):jbh .and (.int .u64 x) (.int .u64 4294967295)=some (.int .u64 (Ev.mask32 x)):=by
 simp [jbh,Ev.mask32]
theorem hostL_out : ∀ {to inp:List Int}, ¬ (Ev.hostL to inp).2.2=0->Ev.hostL to inp=([],(Ev.hostL to inp).2.1,(Ev.hostL to inp).2.2)
 | [],inp,h=>absurd rfl h
 | t::ts,[],h=>rfl
 | t::ts,x::inp,h=>by
  simp only [Ev.hostL] at h ⊢;split
  ·rename_i hz; rw [if_pos hz] at h; exact absurd rfl h
  ·rfl
theorem hostL_step {to inp ts ik ok:List Int} {t x:Int} (hd:Ev.hostL to inp=(if (Ev.hostL (t::ts) (x::ik)).2.2=0 then (ok++(Ev.hostL (t::ts) (x::ik)).1,(Ev.hostL (t::ts) (x::ik)).2.1,0) else ([],(Ev.hostL (t::ts) (x::ik)).2.1,(Ev.hostL (t::ts) (x::ik)).2.2))) :
  Ev.hostL to inp=(if (Ev.hostL ts ik).2.2=0 then ((ok++[if t=127 then Ev.mask32 x else x])++(Ev.hostL ts ik).1,(Ev.hostL ts ik).2.1,0) else ([],(Ev.hostL ts ik).2.1,(Ev.hostL ts ik).2.2)):=by
 simp only [Ev.hostL] at hd
 by_cases hz:(Ev.hostL ts ik).2.2=0
 ·simp only [hz,if_true] at hd ⊢;rw [hd]; simp
 ·simp only [hz,if_false] at hd ⊢;exact hd
theorem NHost_v (P:Ev.Prog) (s:Ev.State) (o g l:Nat) (d:Int) (n:Int) (t:Ss.Sig) (args:List Int) (r:Ev.Res) (S:Store) (hr:RunAt S P s o g l d 0) (hn:0<=n/\n<9223372036854775808) (ht:t.out.length<=1048576) (hf:Ev.hostF s n t.out args=some r) :
  bU 113 [.ptr o 6,vint n,jm t,vl vu args] S (fun x T=>x = .tuple [vl vu r.1,vint r.2.2]/\Keeps S T [o,g,l] /\ ∃ l',RunAt T P r.2.1 o g l' d 0/\(l'=l\/S.nx<=l')):=by
 have hR:=hr;obtain ⟨h1,h2,h3,h4,h5,h6⟩:=hr;obtain ⟨⟨sg,im,gl,mu,me⟩,fns⟩:=P;obtain ⟨mem,most,glb,fuel,inp,log⟩:=s;obtain ⟨ti,to⟩:=t;simp only at ht;simp only [runC] at h1 h2 h3;simp only [Ev.hostF] at hf;split at hf
 ·rename_i hlen
  cases hf
  have e1:jm ⟨ti,to⟩ = .agg [vl vint ti,vl vint to]:=rfl;rw [e1];have hwn:IntKind.u64.wrap n=n:=bO;have hb8:(log.length+1)*8<=140737488355328:=by omega
  have hb1:log.length+1<=140737488355328:=by omega
  have hb8':(log.length+1+args.length)*8<=140737488355328:=by omega
  have hb1':log.length+1+args.length<=140737488355328:=by omega
  have hap2 : ∀ (S':Store) (o':Nat),S'.get o'=some (1,List.map vu log++[V.int .u64 n])->jR 1 8 S' (.slice o' 0 (log.length+1)) (vl vu args)=some (.slice S'.nx 0 (log.length+1+args.length),(S'.del o').add (1,(log++n::args).map vu)):=fun S' o' h=>by
   rw [jau (s:=1) (enc:=vu) (fun _=>rfl) h (by simp) hb8' hb1'];have e:ju vu args=args.map vu:=by rw [<-vu_flat args,List.flatMap_map]; rfl
   rw [e]; simp [vu]
  refine QB (c:=jc Tryz.f113) Tryz.func113 Tryz.ntmps113 fun hwf=>?_
  have on:=jl hwf h1;have ln:=jl hwf h3;have gn:=jl hwf h2;have oo:=fun u l => @jh S u l o on
  have ool:=fun u l' => @jh S u l' l ln
  have updo:=fun u l c => @jP S u l c o on
  have dell:=fun u l' => @St_delOld S u l' l ln
  refine QY ?_;refine QH 6 0 ?_;refine QY ?_ (r:=by conv=>lhs;simp[QV,oo,ool,updo,dell,h1,h3,h4,h5,h6,hwn,hb8,hb1,hap2]);refine QY ?_;refine QY ?_;refine zx 10 1 rfl (by conv=>lhs; simp [Fr.set]) ?_;obtain ⟨L,hL⟩ : ∃ L,L=log++n::args:=⟨_,rfl⟩
  have hLl:L.length=log.length+1+args.length:=by rw [hL]; simp; omega
  rw [<-hL];have gto:=fun ks=>jZ (n:=S.nx) (o:=o) ks on
  have gtg:=fun ks=>jZ (n:=S.nx) (o:=g) ks gn
  have gpo:=fun ks=>qv (n:=S.nx) (o:=o) ks on
  have gpg:=fun ks=>qv (n:=S.nx) (o:=g) ks gn
  refine QO [0,6,10,11] ?_;refine ZR [3,4] hwf (by decide) (by simp [gto,gtg,gpo,gpg,jn,jo]) (by conv=>lhs; simp [gto,gtg,gpo,gpg,jn,jo]) (by conv=>lhs; simp [gto,gtg,gpo,gpg,jn,jo]) (by conv=>lhs; simp [gto,gtg,gpo,gpg,jn,jo]) ?_
  refine bw ?_
  refine QT ?_;refine jd [0,6,10,11] rfl (fun c σ S' => ∃ (k:Nat) (ik ok:List Int),k<=to.length/\c=to.length-k/\Ev.hostL to inp=(if (Ev.hostL (to.drop k) ik).2.2=0 then (ok++(Ev.hostL (to.drop k) ik).1,(Ev.hostL (to.drop k) ik).2.1,0) else ([],(Ev.hostL (to.drop k) ik).2.1,(Ev.hostL (to.drop k) ik).2.2))/\ok.length=k/\σ=[(0, .ptr o 6),(6,(V.agg [vl vint ti,vl vint to]).ref),(10, .slice (lid S.nx 1) 0 k),(11,vnat k)]/\S'=St S [(l,none),(o,some (14,[vl jm sg,vint im,vl vint gl,vl V.bool mu,V.bool me,vl jI fns,vl vby mem,vint most, .slice g 0 glb.length,vint fuel,vl vu ik,   .slice (lid S.nx 0) 0 L.length,vint d,vint 0]))] [some (1,L.map vu),some (1,ok.map vu)]) to.length ?_ ?_
  ·exact ⟨0,inp,[],by omega,rfl,by rw [List.drop_zero]; split<;>rename_i hz<;>first | (rw [List.nil_append, <-hz]) | (exact (hostL_out hz)),rfl,by simp [Fr.only,Fr.look],by rw [hLl]; simp [hL]⟩
  ·rintro c σ T ⟨k,ik,ok,hk,rfl,hd,hok,rfl,rfl⟩
   by_cases hkt:k<to.length
   ·have hw:=jg hkt (by omega);rw [am hkt] at hd;obtain ⟨tk,htk⟩ : ∃ x,to[k]=x:=⟨_,rfl⟩
    rw [htk] at hd
    cases ik with
    | nil =>
     have hd:Ev.hostL to inp=([],[],39):=hd;rw [hd]
     refine bz hkt oo updo h4 h5 h6 ?_
     exact ⟨_,_,(Ghost.tuple [] [_] (Ghost.nils_list _)).toB _,rfl,host_end (s':=⟨mem,most,glb,fuel,[],L⟩) 0 hwf hR rfl rfl rfl⟩
    | cons x ik =>
     have hl0 : ¬ (ik.length:Int)+1=0:=by omega
     have hdr : ∀ S',qp 1 S' (vl vu (x::ik)) (some (.int .i64 1)) none none=some (vl vu ik):=fun S'=>by
      have:=Kw (S:=S') (s:=1) (enc:=vu) (l:=x::ik) (k := .i64) (h:=1) (fun _=>rfl) (by omega) (by simp only [aC]; omega);exact this
     have hix : ∀ S',jB 1 S' (vl vu (x::ik)) (.int .i64 0)=some (.ref (vu x)):=fun S'=>jas (enc:=vu) (l:=x::ik) rfl rfl
     have hd:=hostL_step hd;have hb8k:(k+1)*8<=140737488355328:=by omega
     have hb1k:k+1<=140737488355328:=by omega
     have hm:=mask32_v x
     by_cases h127:tk=127
     ·rw [if_pos h127] at hd
      repeat first|refine QG ?_|refine QY ?_ (r:=by conv=>lhs;simp[QV,hkt,oo,updo,h4,h5,h6,htk,h127,hl0,hdr,hix,hok,hb8k,hb1k,hw])
      refine jT [0,3] (by conv=>lhs; simp [Fr.only]) hwf (by decide) (by simp [jn,jo,gto,gtg,gpo,gpg]) (by conv=>lhs; simp [jn,jo,gto,gtg,gpo,gpg]) (by conv=>lhs; simp [jn,jo,gto,gtg,gpo,gpg]) (by conv=>lhs; simp [jn,jo,gto,gtg,gpo,gpg]) ⟨?_,k+1,ik,ok++[Ev.mask32 x],hkt,rfl,hd,by simp [hok],by simp [Fr.only,Fr.look],by simp [Ev.mask32]⟩;omega
     ·rw [if_neg h127] at hd
      repeat first|refine QG ?_|refine QY ?_ (r:=by conv=>lhs;simp[QV,hkt,oo,updo,h4,h5,h6,htk,h127,hl0,hdr,hix,hok,hb8k,hb1k,hw])
      refine jT [0,3] (by conv=>lhs; simp [Fr.only]) hwf (by decide) (by simp [jn,jo,gto,gtg,gpo,gpg]) (by conv=>lhs; simp [jn,jo,gto,gtg,gpo,gpg]) (by conv=>lhs; simp [jn,jo,gto,gtg,gpo,gpg]) (by conv=>lhs; simp [jn,jo,gto,gtg,gpo,gpg]) ⟨?_,k+1,ik,ok++[x],hkt,rfl,hd,by simp [hok],by simp [Fr.only,Fr.look],by simp⟩;omega
   ·have hke:k=to.length:=by omega
    subst hke;have hd:Ev.hostL to inp=(ok,ik,0):=by
     rw [List.drop_length] at hd;rw [hd]; simp [Ev.hostL]
    rw [hd]
    refine bx hkt ?_
    exact ⟨_,_,(Ghost.tuple [] [_] (frz1 (k:=1) (cells:=ok.map vu) (by simp) (by rfl) (jq vu (fun _=>rfl) _) (by simp [hok]))).toB _,rfl,host_end (s':=⟨mem,most,glb,fuel,ik,L⟩) 0 hwf hR rfl rfl rfl⟩
 ·cases hf
end Go.Vw
namespace Go.Vw
open Go.Proofs Go.RowKit
theorem fit_fits {t n:Int} (ht:t=126\/t=127) (h:Fit (Ev.widthI t) n):Ev.fits t n=true/\Ev.U64 n:=by
 obtain ⟨h0,h1⟩:=h;rcases ht with rfl | rfl
 ·have e:(2:Int)^Ev.widthI 126=18446744073709551616:=by decide
  rw [e] at h1;exact ⟨rfl,h0,h1⟩
 ·have e:(2:Int)^Ev.widthI 127=4294967296:=by decide
  rw [e] at h1;exact ⟨by simp [Ev.fits,h1],h0,by omega⟩
theorem rsigT_kind {op:Int} (h:Ss.rof op≠0):Ss.rsigT op=126\/Ss.rsigT op=127:=by
 simp only [Ss.rsigT];split
 ·exact .inl rfl
 ·split
  ·exact .inr rfl
  ·simp only [Ss.rof] at h ⊢;split at h
   ·right; rw [if_pos ‹_›]
   ·split at h
    ·left; rw [if_neg ‹_›,if_pos ‹_›]
    ·exact absurd rfl h
theorem Neval_all (op:Int) (a:List Int) (hu : ∀ x∈a,Ev.U64 x) (hl:a.length<2^62) : ∃ p:Int × Int,bS 145 [vint op,vl vu a] (.tuple [vu p.1,vint p.2])/\Ev.U64 p.1/\(Ev.argsOk op a->Ev.fits (Ss.rsigT op) p.1=true/\(Ev.partialO op=false->p.2=0)):=by
 by_cases h:Ev.argsOk op a
 ·obtain ⟨n,e,h1,h2,h3⟩:=Neval_ok op a h hu;obtain ⟨f1,f2⟩:=fit_fits (rsigT_kind h.1) h2;exact ⟨(n,e),h1,f2,fun _=>⟨f1,h3⟩⟩
 ·by_cases h1:Ss.rof op=0\/a.length≠(Ss.rsig op).1.length
  ·exact ⟨(0,1),Neval_bad op a h1 hl,⟨by decide,by decide⟩,fun k=>absurd k h⟩
  ·have h0:Ss.rof op≠0:=fun e=>h1 (.inl e)
   have h2:a.length=(Ss.rsig op).1.length:=Decidable.not_not.1 fun e=>h1 (.inr e)
   refine ⟨(0,1),Neval_misfit op a h0 h2 ?_,⟨by decide,by decide⟩,fun k=>absurd k h⟩;refine Classical.byContradiction fun k=>h ⟨h0,h2,fun i h3 h4 => ?_⟩
   cases hf:Ev.fits (Ss.rsig op).1[i] a[i] with
   | true=>rfl
   | false=>exact absurd ⟨i,h3,h4,hf⟩ k
structure OpsV (O:Ev.Ops):Prop where
 eval : ∀ op a,(∀ x∈a,Ev.U64 x)->a.length<2^62->bS 145 [vint op,vl vu a] (.tuple [vu (O.eval op a).1,vint (O.eval op a).2])
 load : ∀ m op ad off,byteL m->Ev.U64 ad->Ev.U64 off->bS 143 [vl vby m,vint op,vu ad,vu off] (.tuple [vu (O.load m op ad off).1,vint (O.load m op ad off).2])
 store : ∀ m op ad off n,byteL m->Ev.U64 ad->Ev.U64 off->Ev.U64 n->bS 142 [vl vby m,vint op,vu ad,vu off,vu n] (.tuple [vl vby (O.store m op ad off n).1,vint (O.store m op ad off n).2])
 grow : ∀ m most p,byteL m -> -9223372036854775808<=most->most<9223372036854775808->Ev.U64 p->bS 144 [vl vby m,vint most,vu p] (.tuple [vl vby (O.grow m most p).1,vu (O.grow m most p).2])
theorem ops_ex : ∃ O:Ev.Ops,OpsV O/\Ev.OpsOk O:=by
 have he : ∀ op a, ∃ p:Int × Int,(∀ x∈a,Ev.U64 x)->a.length<2^62->bS 145 [vint op,vl vu a] (.tuple [vu p.1,vint p.2])/\Ev.U64 p.1/\(Ev.argsOk op a->Ev.fits (Ss.rsigT op) p.1=true/\(Ev.partialO op=false->p.2=0)):=fun op a=>by
  by_cases h:(∀ x∈a,Ev.U64 x)/\a.length<2^62
  ·obtain ⟨p,hp⟩:=Neval_all op a h.1 h.2;exact ⟨p,fun _ _=>hp⟩
  ·exact ⟨(0,0),fun h1 h2=>absurd ⟨h1,h2⟩ h⟩
 have hl : ∀ m op ad off, ∃ p:Int × Int,byteL m->Ev.U64 ad->Ev.U64 off->bS 143 [vl vby m,vint op,vu ad,vu off] (.tuple [vu p.1,vint p.2])/\Ev.U64 p.1/\(((Ss.accOf op).getD ⟨0,0,false,false⟩).kind=127->p.1<4294967296):=fun m op ad off=>by
  by_cases h:byteL m/\Ev.U64 ad/\Ev.U64 off
  ·obtain ⟨n,e,hp⟩:=Mload_v m op ad off h.1 h.2.1 h.2.2;exact ⟨(n,e),fun _ _ _=>hp⟩
  ·exact ⟨(0,0),fun h1 h2 h3=>absurd ⟨h1,h2,h3⟩ h⟩
 have hs : ∀ m op ad off n, ∃ p:List Int × Int,(byteL m->Ev.U64 ad->Ev.U64 off->Ev.U64 n->bS 142 [vl vby m,vint op,vu ad,vu off,vu n] (.tuple [vl vby p.1,vint p.2])/\byteL p.1/\(p.2=0->p.1.length=m.length))/\(p.2=0->p.1.length=m.length):=fun m op ad off n=>by
  by_cases h:byteL m/\Ev.U64 ad/\Ev.U64 off/\Ev.U64 n
  ·obtain ⟨m',e,hp⟩:=Mstore_v m op ad off n h.1 h.2.1 h.2.2.1 h.2.2.2;exact ⟨(m',e),fun _ _ _ _=>hp,hp.2.2⟩
  ·exact ⟨(m,0),fun h1 h2 h3 h4=>absurd ⟨h1,h2,h3,h4⟩ h,fun _=>rfl⟩
 have hg : ∀ m most p, ∃ r:List Int × Int,(byteL m -> -9223372036854775808<=most->most<9223372036854775808->Ev.U64 p->bS 144 [vl vby m,vint most,vu p] (.tuple [vl vby r.1,vu r.2])/\byteL r.1/\m.length<=r.1.length/\0<=r.2/\r.2<4294967296)/\m.length<=r.1.length/\(m.length<=4096->r.1.length<=4096):=fun m most p=>by
  by_cases h:byteL m /\ -9223372036854775808<=most/\most<9223372036854775808/\Ev.U64 p
  ·obtain ⟨m',n,hp⟩:=Ngrow_v m most p h.1 h.2.1 h.2.2.1 h.2.2.2;exact ⟨(m',n),fun _ _ _ _=>⟨hp.1,hp.2.1,hp.2.2.1,hp.2.2.2.1,hp.2.2.2.2.1⟩,hp.2.2.1,hp.2.2.2.2.2⟩
  ·exact ⟨(m,0),fun h1 h2 h3 h4=>absurd ⟨h1,h2,h3,h4⟩ h,bf _,fun h=>h⟩
 refine ⟨⟨fun op a=>(he op a).choose,fun m op ad off=>(hl m op ad off).choose,fun m op ad off n=>(hs m op ad off n).choose,fun m most p=>(hg m most p).choose⟩,⟨?_, ?_, ?_, ?_⟩,⟨?_, ?_, ?_, ?_, ?_, ?_, ?_, ?_⟩⟩
 ·exact fun op a h1 h2=>((he op a).choose_spec h1 h2).1
 ·exact fun m op ad off h1 h2 h3=>((hl m op ad off).choose_spec h1 h2 h3).1
 ·exact fun m op ad off n h1 h2 h3 h4=>((hs m op ad off n).choose_spec.1 h1 h2 h3 h4).1
 ·exact fun m most p h1 h2 h3 h4=>((hg m most p).choose_spec.1 h1 h2 h3 h4).1
 ·exact fun op a h1 h2=>((he op a).choose_spec h1 h2).2.1
 ·exact fun op a h1 h2 h3=>((he op a).choose_spec h1 h2).2.2 h3
 ·exact fun m op ad off h1 h2 h3=>((hl m op ad off).choose_spec h1 h2 h3).2
 ·exact fun m op ad off n h1 h2 h3 h4=>((hs m op ad off n).choose_spec.1 h1 h2 h3 h4).2
 ·exact fun m most p h1 h2 h3 h4=>((hg m most p).choose_spec.1 h1 h2 h3 h4).2
 ·exact fun m op ad off n=>(hs m op ad off n).choose_spec.2
 ·exact fun m most p=>(hg m most p).choose_spec.2.1
 ·exact fun m most p=>(hg m most p).choose_spec.2.2
end Go.Vw
