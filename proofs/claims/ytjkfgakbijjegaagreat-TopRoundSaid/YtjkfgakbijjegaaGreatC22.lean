import Derived.Test.YtjkfgakbijjegaaGreatC21
import Derived.OpenShut
/- Part of the proof. -/
set_option linter.unusedVariables false
set_option linter.unusedSimpArgs false
set_option maxRecDepth 100000
set_option maxHeartbeats 1000000
namespace Wm
theorem gSig.len {s:Sig} (h:gSig s):s.inn.length<=8/\s.out.length<=8:=by
 obtain ⟨a,r,rfl,h1,h2,_⟩:=h;simp only [Kk];exact ⟨h1,h2⟩
theorem gBt.len {ts:List Sig} (ht:gTs ts) {s:Sig} (h:gBt ts s):s.inn.length<=8/\s.out.length<=8:=by
 rcases h with rfl | ⟨k,_,rfl⟩ | h
 .simp
 .simp
 .exact (ht.2 s h).len
theorem jaP {a b c:Int} (h1:a<=c) (h2:b<=c):imx a b<=c:=by unfold imx; split<;>omega
theorem jfc : ∀ l:List Ins,l.length<=cL l
 | []=>by simp
 | x::xs=>by
  have:=jfc xs;have:=aj7 x;simp only [cL,av];omega
mutual
theorem apc {ts:List Sig} (ht:gTs ts) : ∀ (x:Ins) (d:Nat) (n deep:Int),gI ts x d->deep+d=16->(cI x:Int)<=n->jef x n deep=n-cI x
 | .mk op n0 m ty body els he tg,d,n,deep,hg,hd,hn=>by
  simp only [gI] at hg;simp only [cI] at hn ⊢;simp only [jef];obtain ⟨c,rfl,hg⟩:=hg;have big : ∀ (tg:List Int) (ty:Sig),tg.length<=65->ty.inn.length<=8->ty.out.length<=8 -> ¬ (n-1<0\/imx (imx tg.length ty.inn.length) ty.out.length > 4096):=by
   intro tg ty h1 h2 h3;have:=jaP (c:=4096) (jaP (c:=4096) (a:=tg.length) (b:=ty.inn.length) (by omega) (by omega)) (b:=ty.out.length) (by omega);omega
  rcases hg with ⟨hk,rfl,rfl,rfl,hty,hd0,hb,hE,h4,h5⟩ | ⟨hk,rfl,rfl,rfl,rfl,hop⟩
  .have hl:=hty.len ht;have e1:=jcz ht body (d-1) (n-1) (deep+1) hb (by omega) (by omega);have e2:=jcz ht els (d-1) (n-1-cL body) (deep+1) hE (by omega) (by omega);have hA:(if deep+1 > 16/\0<body.length then -1 else Kx body (n-1) (deep+1))=n-1-cL body:=by rw [if_neg (by omega),e1]
   have hB:(if deep+1 > 16/\0<els.length then -1 else Kx els (n-1-cL body) (deep+1))=n-1-cL body-cL els:=by rw [if_neg (by omega),e2]
   rw [if_neg (big _ _ (by simp) hl.1 hl.2)];simp only [hA,hB];rw [if_neg (by omega),if_neg (by omega)];omega
  .simp only [cL] at hn ⊢;rw [if_neg (big tg ⟨[],[]⟩ hop.lt (by simp) (by simp))];simp only [aF,Nat.lt_irrefl,and_false,if_false,Kx];rw [if_neg (by omega),if_neg (by omega)];simp
theorem jcz {ts:List Sig} (ht:gTs ts) : ∀ (l:List Ins) (d:Nat) (n deep:Int),gL ts l d->deep+d=16->(cL l:Int)<=n->Kx l n deep=n-cL l
 | [],d,n,deep,hg,hd,hn=>by simp [Kx,cL]
 | x::xs,d,n,deep,hg,hd,hn=>by
  simp only [gL] at hg;simp only [cL] at hn ⊢;have e1:=apc ht x d n deep hg.1 hd (by omega);have e2:=jcz ht xs d (n-cI x) deep hg.2 hd (by omega);simp only [Kx];rw [e1,if_neg (by omega),e2];omega
end
mutual
theorem aw7 {ts:List Sig} (ht:gTs ts) : ∀ (x:Ins) (d:Nat),gI ts x d->cI x<=512->okI x/\nI x
 | .mk op n0 m ty body els he tg,d,hg,hc=>by
  simp only [gI] at hg;simp only [cI] at hc;simp only [okI,nI];obtain ⟨c,rfl,hg⟩:=hg;rcases hg with ⟨hk,rfl,rfl,rfl,hty,hd0,hb,hE,h4,h5⟩ | ⟨hk,rfl,rfl,rfl,rfl,hop⟩
  .have hl:=hty.len ht;have e1:=acd ht body (d-1) hb (by omega);have e2:=acd ht els (d-1) hE (by omega);have l1:=jfc body;have l2:=jfc els;exact ⟨⟨⟨by omega,by omega⟩,by omega,by omega,by simp,e1.1,e2.1⟩,by omega,by omega,e1.2,e2.2⟩
  .have:=hop.lt;exact ⟨⟨⟨by simp,by simp⟩,by simp,by simp,by omega,trivial,trivial⟩,hop.ln,hop.lm,trivial,trivial⟩
theorem acd {ts:List Sig} (ht:gTs ts) : ∀ (l:List Ins) (d:Nat),gL ts l d->cL l<=512->okL l/\nL l
 | [],d,hg,hc=>⟨trivial,trivial⟩
 | x::xs,d,hg,hc=>by
  simp only [gL] at hg;simp only [cL] at hc;have e1:=aw7 ht x d hg.1 (by omega);have e2:=acd ht xs d hg.2 (by omega);simp only [okL,nL];exact ⟨⟨e1.1,e2.1⟩,e1.2,e2.2⟩
end
theorem jbw {l:List Nat} (h:gName l):bytes l:=fun c hc=>by have:=h.2 c hc; omega
theorem aro {ts:List Sig} (ht:gTs ts) {f:Func} (hf:gFun ts f):okF f/\nL f.body:=by
 obtain ⟨h1,⟨l,h2,h3,_⟩,h4,h5⟩:=hf;have e:=acd ht f.body 16 h4 h5;have:=jfc f.body;exact ⟨⟨by rw [h2,Kk]; omega,by omega,e.1⟩,e.2⟩
theorem gMod.okM {B:Nat} {m:Mod} (h:gMod B m):okM m:=by
 have hn:m.funcs.length<=32:=by have:=h.fs.1; omega
 refine ⟨⟨by have:=h.ty.1; omega,fun s hs => ?_⟩,⟨by have:=h.im.1; omega,fun x hx=>⟨jbw (h.im.2 x hx).1,jbw (h.im.2 x hx).2.1⟩⟩,⟨by omega,fun f hf=>(aro h.ty (h.fs.2.1 f hf)).1⟩,by have:=h.gl.1; omega,⟨by have:=h.ex.1; omega,fun x hx=>jbw (h.ex.2 x hx).1⟩,⟨by have:=h.da.1; omega,fun x hx => ?_⟩⟩
 .have:=(h.ty.2 s hs).len;exact ⟨by omega,by omega⟩
 .have:=h.da.2.1 x hx;exact ⟨by have:=this.2.1; unfold okD; omega,this.2.2⟩
theorem gMod.few {B:Nat} {m:Mod} (h:gMod B m):few m=true:=by
 have hn:m.funcs.length<=32:=by have:=h.fs.1; omega
 have hp:ZB m<=64:=by
  unfold ZB;have h1:=h.ty.1; have h2:=h.im.1; have h3:=h.gl.1; have h4:=h.ex.1; have h5:=h.da.1;exact jaP (jaP (jaP (jaP (jaP (by omega) (by omega)) (by omega)) (by omega)) (by omega)) (by omega)
 have any_no : ∀ {α:Type} {l:List α} {p:α->Bool},(∀ x∈l,p x=false)->l.any p=false:=fun h=>by
  rw [List.any_eq_false];intro x hx;rw [h x hx];simp
 have e1:m.types.any jdI=false:=any_no fun s hs=>by
  have:=(h.ty.2 s hs).len;have:=jaP (c:=4096) (a:=s.inn.length) (b:=s.out.length) (by omega) (by omega);simp only [jdI,decide_eq_false_iff_not]; omega
 have e2:m.imports.any jdJ=false:=any_no fun x hx=>by
  have h1:=(h.im.2 x hx).1.1;have h2:=(h.im.2 x hx).2.1.1;have:=jaP (c:=32) (a:=x.mod.length) (b:=x.name.length) (by omega) (by omega);simp only [jdJ,decide_eq_false_iff_not]; omega
 have e3:m.exports.any jdK=false:=any_no fun x hx=>by
  have h1:=(h.ex.2 x hx).1.1;simp only [jdK,decide_eq_false_iff_not]; omega
 have e4:m.datas.any jdL=false:=any_no fun x hx=>by
  have h1:=(h.da.2.1 x hx).2.1;simp only [jdL,decide_eq_false_iff_not]; omega
 have e5:m.funcs.any jcf=false:=any_no fun f hf=>by
  obtain ⟨h1,⟨l,h2,h3,_⟩,h4,h5⟩:=h.fs.2.1 f hf;have hr:=jcz h.ty f.body 16 512 0 h4 (by omega) (by omega);unfold jcf room;rw [if_neg (by omega),hr,h2,Kk,Bool.or_eq_false_iff];simp only [decide_eq_false_iff_not];omega
 unfold Wm.few;rw [e1,e2,e3,e4,e5,bg (by omega)]
 rfl
theorem acu {α:Type} {f:α->List Nat} {c:Nat} : ∀ l:List α,(∀ x∈l,(f x).length<=c)->(l.flatMap f).length<=l.length*c
 | [],_=>by simp
 | x::xs,h=>by
  have h1:=h x (by simp);have h2:=acu xs fun y hy=>h y (by simp [hy]);rw [List.flatMap_cons,List.length_append,av,Nat.add_mul];omega
theorem jaL {α:Type} {f:α->List Nat} {c:Nat} {l:List α} (hl:l.length<=32) (h : ∀ x∈l,(f x).length<=c):(qw f l).length<=5+32*c:=by
 unfold qw;split
 .simp
 .have h1:=JC (x:=l.length) (by omega);have h2:=acu l h;have h3:l.length*c<=32*c:=Nat.mul_le_mul_right _ hl;rw [List.length_append];omega
theorem jfK {l:List Nat} (h:gName l):(jeh l).length<=37:=by
 have h1:=h.1;have:=JC (x:=l.length) (by omega);unfold jeh;rw [List.length_append];omega
theorem ab6 (t:Int) (n:Nat):(KC t n).length<=12:=by
 have:=YA Wl 9 (if t=127 then Go.IntKind.i64.wrap (Go.IntKind.i32.wrap n) else Go.IntKind.i64.wrap n);rw [jcT];unfold numW sW;simp only [av,List.length_append,aF];omega
theorem ahe {B:Nat} {m:Mod} (h:gMod B m) (hB:B<=16384):(secW m 1).length<=869/\(secW m 2).length<=2565/\(secW m 3).length<=165/\(secW m 5).length<=12/\(secW m 6).length<=453/\(secW m 7).length<=1381/\(secW m 8).length<=5/\(secW m 10).length<=2405+6*B/\(secW m 11).length<=613+B:=by
 have hn:m.funcs.length<=32:=by have:=h.fs.1; omega
 refine ⟨?_, ?_, ?_, ?_, ?_, ?_, ?_, ?_, ?_⟩
 .refine jaL (f:=sigW) (c:=27) h.ty.1 fun s hs => ?_;obtain ⟨a,r,rfl,h1,h2,h3,h4⟩:=h.ty.2 s hs;have k1:=JC (x:=a.length) (by omega);have k2:=JC (x:=r.length) (by omega);unfold sigW;simp only [Kk,jaH (jcE h3),jaH (jcE h4),av,List.length_append];omega
 .refine jaL (f:=Wn) (c:=80) h.im.1 fun x hx => ?_;obtain ⟨h1,h2,t,h3,h4⟩:=h.im.2 x hx;have k1:=jfK h1;have k2:=jfK h2;have k3:=JC h4;unfold Wn;rw [h3];simp only [List.length_append,av];omega
 .refine jaL (f:=jbH) (c:=5) hn fun f hf => ?_;obtain ⟨t,h1,h2⟩:=(h.fs.2.1 f hf).ty;unfold jbH;rw [h1];exact JC h2
 .show (JP m).length<=12;unfold JP;rcases h.mem with ⟨h1,h2⟩ | ⟨p,q,h1,h2,h3,h4⟩
  .rw [if_neg (by omega)]; simp
  .have k1:=JC (x:=p) (by omega);have k2:=JC (x:=q) (by omega);rw [if_pos (by omega),h1,h2];simp only [List.length_append];have:(putW [1,1]).length=2:=rfl;omega
 .refine jaL (f:=KA) (c:=14) h.gl.1 fun g hg => ?_;have:=ab6 g.type g.n;unfold KA;rw [List.length_append];have:(putW [g.type,if g.wr=true then 1 else 0]).length=2:=rfl;omega
 .refine jaL (f:=Wq) (c:=43) h.ex.1 fun x hx => ?_;obtain ⟨h1,⟨k,h2,_⟩,i,h3,h4⟩:=h.ex.2 x hx;have k1:=jfK h1;have k3:=JC h4;unfold Wq;rw [h3];simp only [List.length_append];have:(putW [x.kind]).length=1:=rfl;omega
 .show (Wx m).length<=5;unfold Wx;rcases h.st with h1 | ⟨n,h1,h2⟩
  .rw [if_neg (by omega)]; simp
  .rw [if_pos (by omega),h1]; exact JC h2
 .show (qw (qa m.types) m.funcs).length<=_;have h1:=h.fs.2.2;have h2 : ∀ l:List Func,(l.flatMap (qa m.types)).length=YT m.types l:=by
   intro l
   induction l with
   | nil=>rfl
   | cons x l ih=>rw [List.flatMap_cons,List.length_append,ih]; simp [YT]
  unfold qw;split
  .simp
  .have k1:=JC (x:=m.funcs.length) (by omega);rw [List.length_append,h2];omega
 .show (qw jcp m.datas).length<=_;have h1:=h.da.1;have h2:=h.da.2.2;have h3 : ∀ l:List Data,(∀ d∈l,gDat d)->(l.flatMap jcp).length<=19*l.length+(l.map fun d=>d.bytes.length).sum:=by
   intro l
   induction l with
   | nil=>intro _; simp
   | cons x l ih =>
    intro hl;have k1:=ih fun y hy=>hl y (by simp [hy]);have k2:=ab6 127 (x.at' % 18446744073709551616).toNat;have k3:=(hl x (by simp)).2.1;have k4:=JC (x:=x.bytes.length) (by omega);have k5:(jcp x).length=1+((KC 127 (x.at' % 18446744073709551616).toNat).length+((jS x.bytes.length).length+x.bytes.length)):=by
     unfold jcp;simp only [av,List.length_append];omega
    rw [List.flatMap_cons,List.length_append,av,List.map_cons,List.sum_cons,k5];omega
  have h4:=h3 m.datas h.da.2.1;unfold qw;split
  .simp
  .have k1:=JC (x:=m.datas.length) (by omega);rw [List.length_append];omega
theorem KL (m:Mod) (k:Nat) (h:(secW m k).length<4294967296):(ZN m k).length<=6+(secW m k).length:=by
 unfold ZN;split
 .simp
 .have:=uW5 h;simp only [av,List.length_append];omega
theorem awd {B:Nat} {m:Mod} (h:gMod B m) (hB:B<=16384) (k:Nat):(secW m k).length<=1000000000000:=by
 obtain ⟨h1,h2,h3,h5,h6,h7,h8,h10,h11⟩:=ahe h hB;unfold secW at h1 h2 h3 h5 h6 h7 h8 h10 h11 ⊢;split<;>first | (simp only at h1 h2 h3 h5 h6 h7 h8 h10 h11; omega) | simp
theorem akw {m:Mod} (h:gMod 1000 m):(qz m).length<=16384:=by
 obtain ⟨h1,h2,h3,h5,h6,h7,h8,h10,h11⟩:=ahe h (by omega);have e0:ZN m 0=[]:=rfl;have e4:ZN m 4=[]:=rfl;have e9:ZN m 9=[]:=rfl;have p1:=KL m 1 (by omega);have p2:=KL m 2 (by omega);have p3:=KL m 3 (by omega);have p5:=KL m 5 (by omega);have p6:=KL m 6 (by omega);have p7:=KL m 7 (by omega);have p8:=KL m 8 (by omega);have p10:=KL m 10 (by omega);have p11:=KL m 11 (by omega);have hm:magic.length=8:=rfl;unfold qz zG;have:List.range 12=[0,1,2,3,4,5,6,7,8,9,10,11]:=rfl;rw [this];simp only [List.flatMap_cons,List.flatMap_nil,List.length_append,e0,e4,e9,aF,hm];omega
theorem gMod.mono {B C:Nat} {m:Mod} (h:gMod B m) (hBC:B<=C):gMod C m:=⟨h.ty,h.im,⟨h.fs.1,h.fs.2.1,by have:=h.fs.2.2; omega⟩,h.gl,h.ex,⟨h.da.1,h.da.2.1,by have:=h.da.2.2; omega⟩,h.mem,h.st⟩
mutual
theorem anx : ∀ x y:Ins,YS x y=true->x=y
 | .mk op n m ty body els he ts, .mk op' n' m' ty' body' els' he' ts',h=>by
  simp only [YS,ae,ai] at h;obtain ⟨⟨⟨⟨⟨⟨⟨h1,h2⟩,h3⟩,h4⟩,h5⟩,h6⟩,h7⟩,h8⟩:=h;rw [h1,h2,h3,h4,h5,h6,jaC body body' h7,jaC els els' h8]
theorem jaC : ∀ x y:List Ins,ZL x y=true->x=y
 | [],[],h=>rfl
 | [],_::_,h=>by simp [ZL] at h
 | _::_,[],h=>by simp [ZL] at h
 | x::xs,y::ys,h=>by
  simp only [ZL,ae] at h;rw [anx x y h.1,jaC xs ys h.2]
end
mutual
theorem aji : ∀ x:Ins,YS x x=true
 | .mk op n m ty body els he ts=>by
  simp only [YS,ae,ai];exact ⟨⟨⟨⟨⟨⟨⟨trivial,trivial⟩,trivial⟩,trivial⟩,trivial⟩,trivial⟩,Zr body⟩,Zr els⟩
theorem Zr : ∀ x:List Ins,ZL x x=true
 | []=>rfl
 | x::xs=>by
  simp only [ZL,ae];exact ⟨aji x,Zr xs⟩
end
theorem eqF_eq {α:Type} {p:α->α->Bool} (h : ∀ x y,p x y=true->x=y) : ∀ l m:List α,Go.Vw.eqF p l m=true->l=m
 | [],[],_=>rfl
 | [],_::_,e=>by simp [Go.Vw.eqF] at e
 | _::_,[],e=>by simp [Go.Vw.eqF] at e
 | x::xs,y::ys,e=>by
  simp only [Go.Vw.eqF,ae] at e;rw [h x y e.1,eqF_eq h xs ys e.2]
theorem jcH {α:Type} {p:α->α->Bool} (h : ∀ x,p x x=true) : ∀ l:List α,Go.Vw.eqF p l l=true
 | []=>rfl
 | x::xs=>by simp only [Go.Vw.eqF,ae]; exact ⟨h x,jcH h xs⟩
theorem apv (x y:Func) (h:jec x y=true):x=y:=by
 obtain ⟨a,b,c⟩:=x;obtain ⟨a',b',c'⟩:=y;simp only [jec,ae,ai] at h;rw [h.1.1,h.1.2,jaC c c' h.2]
theorem apy {a b:Mod} (h:jcZ a b=true):a=b:=by
 obtain ⟨a1,a2,a3,a4,a5,a6,a7,a8,a9⟩:=a;obtain ⟨b1,b2,b3,b4,b5,b6,b7,b8,b9⟩:=b;simp only [jcZ,ae,ai] at h;obtain ⟨⟨⟨⟨⟨⟨⟨⟨⟨⟨_,_⟩,h1⟩,h2⟩,h3⟩,h4⟩,h5⟩,h6⟩,h7⟩,h8⟩,h9⟩:=h;rw [h1,h2,h3,h5,h6,h7,eqF_eq (fun x y h=>aI h) _ _ h4,eqF_eq apv _ _ h8,eqF_eq (fun x y h=>aI h) _ _ h9]
theorem jey {m:Mod} (h:few m=true):jcZ m m=true:=by
 simp only [jcZ,ae,ai];exact ⟨⟨⟨⟨⟨⟨⟨⟨⟨⟨h,h⟩,trivial⟩,trivial⟩,trivial⟩,jcH (p:=fun x y=>decide (x=y)) (fun x=>bf rfl) _⟩,trivial⟩,trivial⟩,trivial⟩,jcH (fun x=>by simp only [jec,ae,ai]; exact ⟨⟨trivial,trivial⟩,Zr _⟩) _⟩,jcH (p:=fun x y=>decide (x=y)) (fun x=>bf rfl) _⟩
theorem jbO {b:List Nat} (hb:bytes b) (h:(qo b).2=(0,0,0)):b.length<=16384/\gMod b.length (qo b).1:=by
 unfold qo at h ⊢;split
 .rename_i hl; rw [if_pos hl] at h; simp at h
 .rename_i hl;rw [if_neg hl] at h;refine ⟨by omega, ?_⟩;cases hm:Kd b with
  | error e=>exact ⟨⟨by simp [qX],fun s h=>by simp [qX] at h⟩,⟨by simp [qX],fun s h=>by simp [qX] at h⟩,⟨by simp [qX],(fun s h=>by simp [qX] at h),by simp [qX,YT]⟩,⟨by simp [qX],fun s h=>by simp [qX] at h⟩,⟨by simp [qX],fun s h=>by simp [qX] at h⟩,⟨by simp [qX],(fun s h=>by simp [qX] at h),by simp [qX]⟩, .inr ⟨0,0,rfl,rfl,by omega,by omega⟩, .inr ⟨0,rfl,by omega⟩⟩
  | ok m=>exact ah6 hb hm
theorem jdN {m:Mod} (hf:few m=true) (hd:qo (qz m)=(m,(0,0,0))):zm m=(qz m,0):=by
 unfold zm;rw [hf,hd,if_neg (by simp),if_pos ⟨rfl,jey hf⟩]
theorem afw {b:List Nat} (hb:bytes b) (h:(qo b).2=(0,0,0)) (he:(zm (qo b).1).2≠0):1000<b.length:=by
 obtain ⟨h1,h2⟩:=jbO hb h;rcases bc 1000 b.length with h3 | h3
 .exact h3
 .exfalso
  have hg:=h2.mono h3;have hd:=jdQ hg (by omega) (akw hg);rw [jdN h2.few hd] at he;exact he rfl
theorem ah4 {m:Mod} (he:(zm m).2=0):qo (zm m).1=(m,(0,0,0))/\jcZ m m=true:=by
 unfold zm at he ⊢;split at he
 .cases he
 .rename_i hf;split at he
  .rename_i hd;rw [if_neg hf,if_pos hd];have e:=apy hd.2;refine ⟨Prod.ext e hd.1,jey (by simpa using hf)⟩
  .cases he
theorem atx {n m:Nat} {tg:List Int} (h:Reads (opR 14) (jab 14 n m tg) (.mk (14:Nat) n m ⟨[],[]⟩ [] [] false tg)):0<tg.length:=by
 have h:=h [] [];have e:opR 14=tabR 14:=rfl;rw [e] at h;unfold tabR at h;split at h
 .cases h
 .split at h
  .cases h
  .injection h with h
   have h:=congrArg Prod.fst h;simp only [Ins.mk.injEq] at h;rw [<-h.2.2.2.2.2.2.2];simp
mutual
theorem tI_g {ts:List Sig} (ht:gTs ts) : ∀ (x:Ins) (d:Nat),gI ts x d->cI x<=512->tI x
 | .mk op n0 m ty body els he tg,d,hg,hc=>by
  simp only [gI] at hg;simp only [cI] at hc;simp only [tI];obtain ⟨c,rfl,hg⟩:=hg;rcases hg with ⟨hk,rfl,rfl,rfl,hty,hd0,hb,hE,h4,h5⟩ | ⟨hk,rfl,rfl,rfl,rfl,hop⟩
  .have hl:=hty.len ht;have e1:=tL_g ht body (d-1) hb (by omega);have e2:=tL_g ht els (d-1) hE (by omega);have l1:=jfc body;have l2:=jfc els;refine ⟨?_,by omega,by omega,by omega,by simp,fun h=>by omega,by omega,by omega,e1,e2⟩;unfold Ss.I64; omega
  .have:=hop.lt;have h256:=hop.lc;refine ⟨by unfold Ss.I64; omega,hop.ln,by simp,by simp,by omega,fun h => ?_,by simp,by simp,trivial,trivial⟩;have:c=14:=by omega
   subst this;exact atx hop.rd
theorem tL_g {ts:List Sig} (ht:gTs ts) : ∀ (l:List Ins) (d:Nat),gL ts l d->cL l<=512->tL l
 | [],d,hg,hc=>trivial
 | x::xs,d,hg,hc=>by
  simp only [gL] at hg;simp only [cL] at hc;exact ⟨tI_g ht x d hg.1 (by omega),tL_g ht xs d hg.2 (by omega)⟩
end
theorem aou:okM qX:=⟨⟨by decide,fun s h=>by cases h⟩,⟨by decide,fun s h=>by cases h⟩,⟨by decide,fun s h=>by cases h⟩,by decide,⟨by decide,fun s h=>by cases h⟩,⟨by decide,fun s h=>by cases h⟩⟩
theorem au0 {B:Nat} {m:Mod} (h:gMod B m) (hB:B<=16384):okM (qo (qz m)).1:=by
 rcases bc 16384 (qz m).length with hl | hl
 .unfold qo;rw [if_pos hl];exact aou
 .rw [jdQ h hB hl];exact h.okM
theorem amw {B:Nat} {m:Mod} (h:gMod B m) (hB:B<=16384):Go.Vw.okCh m:=by
 refine ⟨h.okM,fun f hf=>(aro h.ty (h.fs.2.1 f hf)).2,awd h hB,au0 h hB,fun s hs => ?_,fun f hf => ?_,fun f hf => ?_, ?_,fun d hd => ?_, ?_⟩
 .have:=(h.ty.2 s hs).len;omega
 .obtain ⟨t,h1,_⟩:=(h.fs.2.1 f hf).ty;omega
 .have:=h.fs.2.1 f hf;exact ⟨tL_g h.ty f.body 16 this.bd this.n,this.n⟩
 .have:=h.gl.1; omega
 .obtain ⟨⟨n,h1,h2⟩,_⟩:=h.da.2.1 d hd;omega
 .rcases h.mem with ⟨h1,_⟩ | ⟨p,q,h1,_,h2,h3⟩<;>omega
def sumsB:List Ins:=[.mk 65 1 0 ⟨[],[]⟩ [] [] false [], .mk 65 2 0 ⟨[],[]⟩ [] [] false [], .mk 106 0 0 ⟨[],[]⟩ [] [] false []]
def sumsM:Mod:=⟨[⟨[],[127]⟩],[],[⟨0,[],sumsB⟩], -1,0,[],[], -1,[]⟩
end Wm
namespace Go.Vw
open Go.Proofs Go.RowKit Wm
attribute [-simp] List.map_set
theorem rep93 (a b c d e f g h i:V):rep0 [a,b,c,d,e,f,g,h,i] 3=[a,b,c,d,e,f,g,h,i,a,b,c,d,e,f,g,h,i,a,b,c,d,e,f,g,h,i]:=rfl
theorem rep21 (a b:V):rep0 [a,b] 1=[a,b]:=rfl
theorem rep31 (a b c:V):rep0 [a,b,c] 1=[a,b,c]:=rfl
theorem aan {S:Store} {l:OL} (k:Nat) {s:Nat} {cs:List V} (hk:k<l.length) (hc:(l[k]?).join=some (s,cs)):Seen (St S [] l) (St S [] (l.set k (some (s,cs.map nl)))):=by
 have:=Seen.likeL (S:=St S [] l) (o:=lid S.nx k) (s:=s) (by rw [Yo]; exact hc) (jfN cs)
 rwa [Yn hk] at this
theorem jft {α:Type} {enc:α->V} {S:Store} {l:OL} {k j i s s2:Nat} {cs:List V} {ls:List α} (hs : ∀ a,(enc a).cells.length=s) (hcl : ∀ a,(enc a).closed=true) (hk:k<l.length/\j<l.length) (hc:(l[k]?).join=some (s,jF enc ls)) (hne:k≠j) (hj:(l[j]?).join=some (s2,cs)) (hi:cs[i]? = some (.slice (lid S.nx k) 0 ls.length)) :
  Seen (St S [] l) (St S [] ((l.set k none).set j (some (s2,cs.set i (vl enc ls))))):=by
 have hfz:=jdF (B:=S) (u:=[]) (l:=l) (k:=k) (enc:=enc) (s:=s) hs hcl ls hk.1 hc;have:=Seen.cell (o:=lid S.nx j) (s:=s2) (cs:=cs) (i:=i) hfz (Kr _ _ _) (by rw [Yo]; exact hj) hi (by rw [Yo,List.getElem?_set_ne hne]; exact hj)
 rwa [Yn (by rw [List.length_set]; exact hk.2)] at this
theorem au3:bF 11 [] (jR sumsM):=by
 intro S;refine qm (c:=jf Tryz.f11) Tryz.func11 rfl (by conv=>lhs; reduce) (by simp [Tryz.ntmps11]) ?_;rw [Tryz.ntmps11];intro hwf;refine bk ?_;refine QY ?_ (r:=by conv=>lhs;simp[QV,rep93]);refine QY ?_ (r:=by conv=>lhs;simp[QV,rep21,rep31]);show VWp _ _ _ _ _ _ _;refine QO [0] ?_;refine Jf (Seen.reach (aan 1 (aI rfl) rfl)) ?_;refine Jf (Seen.reach (jft (k:=1) (j:=4) (i:=2) (enc:=encI) (ls:=sumsB) YD Wr ⟨aI rfl,aI rfl⟩ rfl (by decide) rfl rfl)) ?_;refine Jf (Seen.reach (aan 4 (aI rfl) rfl)) ?_;refine Jf (Seen.reach (jft (k:=2) (j:=3) (i:=1) (enc:=bH) (ls:=[127]) (fun _=>rfl) (fun _=>rfl) ⟨aI rfl,aI rfl⟩ rfl (by decide) rfl rfl)) ?_;refine Jf (Seen.reach (aan 3 (aI rfl) rfl)) ?_;refine Jf (Seen.reach (jft (k:=3) (j:=0) (i:=0) (enc:=je) (ls:=sumsM.types) (fun _=>rfl) (fun _=>rfl) ⟨aI rfl,aI rfl⟩ rfl (by decide) rfl rfl)) ?_;refine Jf (Seen.reach (jft (k:=4) (j:=0) (i:=2) (enc:=encF) (ls:=sumsM.funcs) jga jdO ⟨aI rfl,aI rfl⟩ rfl (by decide) rfl rfl)) ?_;refine Jf (Seen.reach (aan 0 (aI rfl) rfl)) ?_;show VWp _ _ _ _ _ _ (St S [] [some (9,[vl je sumsM.types, .list [],vl encF sumsM.funcs, .int .i64 (-1), .int .i64 0, .list [], .list [], .int .i64 (-1), .list []]),none,none,none,none]);refine QT ?_;refine ada rfl ?_;refine ⟨_,(by conv=>lhs; simp [resL,qC]),jd hwf rfl (by simp [jR])⟩
end Go.Vw
namespace Wm
theorem jcJ:qo (qz sumsM)=(sumsM,(0,0,0)):=by kernel_rfl
theorem ao4:few sumsM=true:=by kernel_rfl
theorem aps:jfa sumsM=(0,0,0):=by kernel_rfl
theorem ael:bytes (qz sumsM):=by
 have h:(qz sumsM).all (fun c=>decide (c<256))=true:=by kernel_rfl
 intro c hc;simpa using ax.1 h c hc
theorem aad:Go.Vw.okCh sumsM:=by
 have h:=jbO ael (by rw [jcJ]);rw [jcJ] at h;exact amw h.2 h.1
theorem arh:zm sumsM=(qz sumsM,0):=jdN ao4 jcJ
end Wm
namespace Go.Vw
open Go.Proofs Go.RowKit Wm
attribute [-simp] List.map_set
theorem agg0 (neg:Bool):qn true neg [0,0,0] (.agg [.int .i64 0, .int .i64 0, .int .i64 0]) (.agg [.int .i64 0, .int .i64 0, .int .i64 0])=some (.bool (!neg)):=by
 cases neg<;>simp [qn,qu,qq]
theorem asn:bF 5 [] (.bool true):=by
 intro S;have hs:=au3;have he:=jfX sumsM aad.ok aad.nl aad.sl aad.od;have hd:=acb (qz sumsM) ael;have hc:=ag9 sumsM aad;rw [arh] at he;rw [jcJ] at hd;rw [aps] at hc;have hln:sumsM.funcs.length=1:=rfl;obtain ⟨m,hm⟩ : ∃ m,sumsM=m:=⟨_,rfl⟩
 obtain ⟨w,hw⟩ : ∃ w,qz sumsM=w:=⟨_,rfl⟩
 rw [hw] at he hd;rw [hm] at hs he hd hc hln;have hff:=Kt;have ha1:=agg0 false;simp only [jR,qh] at hs he hd hc;refine bE Tryz.func5 Tryz.ntmps5 fun hwf=>?_;refine bk ?_;refine QP ?_;refine QL (hs) ?_;refine QZ ?_;refine QL (he) ?_;refine QW ?_;refine QP ?_;refine QL (hd) ?_;refine QW ?_;show VWp _ _ _ _ _ _ _;refine QP ?_ (r:=by conv=>lhs;simp[QV,hff,ha1]);refine jA rfl hc ?_;refine QM (by conv=>lhs;simp[QV,hff,ha1,hln]) ?_;refine bA ?_;exact bw
theorem aggN (neg:Bool) (e1 e2 e3:Int):qn true neg [0,0,0] (.agg [.int .i64 e1, .int .i64 e2, .int .i64 e3]) (.agg [.int .i64 0, .int .i64 0, .int .i64 0])=some (.bool (neg ^^ decide ((e1,e2,e3)=((0,0,0):Int × Int × Int)))):=by
 cases neg<;>simp [qn,qu,qq]<;>(by_cases z1:e1=0<;>by_cases z2:e2=0<;>simp [z1,z2])
theorem aggS (e1 e2 e3:Int):qn true false [0,0,0] (.agg [.int .i64 e1, .int .i64 e2, .int .i64 e3]) (.agg [.int .i64 e1, .int .i64 e2, .int .i64 e3])=some (.bool true):=by
 simp [qn,qu,qq]
theorem axf {m:Mod} (he:(zm m).2=0):(zm m).1=qz m:=by
 unfold zm at he ⊢;split at he
 .cases he
 .rename_i hf;split at he
  .rename_i hd;rw [if_neg hf,if_pos hd]
  .cases he
theorem ahv (b:List Nat) (hb : ∀ x∈b,x<256):bF 3 [vl vb b] (.bool true):=by
 intro S;have hr:=asn;have hd:=acb b hb;have hff:=Kt;obtain ⟨⟨m,e⟩,hD⟩ : ∃ d,qo b=d:=⟨_,rfl⟩
 rw [hD] at hd;simp only at hd;obtain ⟨e1,e2,e3⟩:=e;have hag:=aggN true e1 e2 e3;by_cases he:(e1,e2,e3)=((0,0,0):Int × Int × Int)
 .rw [bf he] at hag;rw [he] at hD;have hD2:(qo b).2=(0,0,0):=by rw [hD]
  obtain ⟨hB,hg⟩:=jbO hb hD2;rw [hD] at hg;have hok:=amw hg hB;have hen:=jfX m hok.ok hok.nl hok.sl hok.od;have hck:=ag9 m hok;obtain ⟨⟨w,ec⟩,hE⟩ : ∃ d,zm m=d:=⟨_,rfl⟩
  rw [hE] at hen;simp only [jR,qh] at hd hen;refine bE Tryz.func3 Tryz.ntmps3 fun hwf=>?_;refine bk ?_;refine QP ?_;refine QL (hd) ?_;refine QW ?_;refine QP ?_ (r:=by conv=>lhs;simp[QV,hff,hag]);refine jA rfl hr ?_;refine bz ?_;refine QP ?_;refine QL (hen) ?_;refine QW ?_;show VWp _ _ _ _ _ _ _;by_cases hec:ec=0
  .have hE2:(zm m).2=0:=by rw [hE]; exact hec
   obtain ⟨hbk,hsm⟩:=ah4 hE2;rw [hE] at hbk;simp only at hbk;have hbw:Wm.bytes w:=by
    have:=axf hE2;rw [hE] at this;rw [show w=qz m from this];exact jgg hok.ok 12 (aT _)
   have hd2:=acb w hbw;rw [hbk] at hd2;have hsv:=agu m m hok.ok hok.ok;rw [hsm] at hsv;obtain ⟨⟨c1,c2,c3⟩,hC⟩ : ∃ c,jfa m=c:=⟨_,rfl⟩
   rw [hC] at hck;have ha0:=agg0 false;have haS:=aggS c1 c2 c3;subst hec;simp only [jR,qh] at hd2 hsv hck;refine bk ?_;refine QP ?_;refine QL (hd2) ?_;refine QW ?_;refine QP ?_;refine QL (hen) ?_;refine QW ?_;show VWp _ _ _ _ _ _ _;refine QO [0,2,3,5,7,8,9,10] ?_;have hts:=jeD w;have hsq:opSeq false (vstr w) (vstr w)=some (.bool true):=by simp [opSeq,vstr]
   have ov:(vstr w).one=true:=rfl;refine bC (r:=by conv=>lhs;simp[QV,hff,ha0,hts,hsq,ov]) (k:=?_);refine jA rfl hck ?_;refine QZ ?_;refine jA rfl hck ?_;refine QM (by conv=>lhs;simp[QV,hff,haS]) ?_;refine jA rfl hsv ?_;refine bz ?_;exact bw
  .have hlen:=afw hb hD2 (by rw [hD,hE]; exact hec);have hl2:(b.length:Int) > 1000:=by omega
   refine bm hec hl2 ?_;exact bw
 .rw [bg he] at hag;simp only [jR,qh] at hd;refine bE Tryz.func3 Tryz.ntmps3 fun hwf=>?_;refine bk ?_;refine QP ?_;refine QL (hd) ?_;refine QW ?_;refine QY ?_ (r:=by conv=>lhs;simp[QV,hff,hag]);refine bk ?_;refine QP ?_;refine QL (hr) ?_;refine bz ?_;exact bw
end Go.Vw
namespace Go.Vw
open Go.Proofs Go.RowKit Go.ChangeShapes Go.WideShapes
def vby (n:Int):V := .int .u8 n
theorem awk:ReadsC Tryz.prog 5 (fun n:Int=>[vby n]) (fun n=>0<=n/\n<256) :=
 (ReadsC.int Tryz.underlying5).map id (fun _=>rfl) (fun n h=>by have h1:=bounds_u8 h; simp only [id]; omega)
theorem as6:ReadsC Tryz.prog 22 (fun l:List Int=>[vl vby l]) (fun l => ∀ x∈l,0<=x/\x<256) :=
 (ReadsC.slice vby Tryz.underlying22 awk (aI (by kernel_rfl)) (fun _ => .inr rfl)).map id (fun _=>rfl) (fun l h=>h.2)
theorem ajl (l:List Int) (h : ∀ x∈l,0<=x/\x<256):bF 3 [vl vby l] (.bool true):=by
 have e:vl vby l=vl vb (l.map Int.toNat):=by
  simp only [vl,List.map_map];refine congrArg V.list (aP fun x hx => ?_);have:=h x hx;simp only [Function.comp,vby,vb];rw [Int.toNat_of_nonneg this.1]
 rw [e];refine ahv _ fun x hx => ?_;obtain ⟨y,hy,rfl⟩:=List.mem_map.1 hx;have:=h y hy;omega
end Go.Vw
