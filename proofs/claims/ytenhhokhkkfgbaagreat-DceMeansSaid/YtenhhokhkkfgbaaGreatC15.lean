import Derived.Test.YtenhhokhkkfgbaaGreatC14
/- Part of the proof. -/
set_option linter.unusedVariables false
set_option linter.unusedSimpArgs false
set_option maxRecDepth 10000
set_option maxHeartbeats 4000000
namespace Go.Vw
open Go.Proofs Go.RowKit
attribute [-simp] List.map_set
theorem jcZ {w:Nat} (hw:w<=64) {a b:Int} (ha:Fit w a) (hb:Fit w b) : ∃ m n:Nat,a=m/\b=n/\m<2^w/\n<2^w/\(a % 2^IntKind.u64.bits).toNat=m/\(b % 2^IntKind.u64.bits).toNat=n:=by
 have ua:=ha.u64 hw;have ub:=hb.u64 hw;obtain ⟨a0,a1⟩:=ha;obtain ⟨b0,b1⟩:=hb;have hc:=WH w;have e64:(2:Int)^IntKind.u64.bits=18446744073709551616:=by rw [qQ]; rfl
 rw [e64];have h1:=ua.2;have h2:=ub.2;exact ⟨a.toNat,b.toNat,by omega,by omega,by omega,by omega,by omega,by omega⟩
theorem fit_nat {w:Nat} (hw:w<=64) {m:Nat} (h:m<2^w):Fit w (IntKind.u64.wrap (m:Int)):=by
 have hc:=WH w;have hf:Fit w (m:Int):=⟨by omega,by omega⟩
 have hu:=hf.u64 hw;rw [wrap_u64' hu.1 hu.2];exact hf
theorem fit_and {w:Nat} (hw:w<=64) {a b:Int} (ha:Fit w a) (hb:Fit w b):Fit w (IntKind.u64.wrap (((a % 2^IntKind.u64.bits).toNat &&& (b % 2^IntKind.u64.bits).toNat:Nat):Int)):=by
 obtain ⟨m,n,_,_,h1,h2,e1,e2⟩:=jcZ hw ha hb;rw [e1,e2];exact fit_nat hw (Nat.and_lt_two_pow _ h2)
theorem fit_or {w:Nat} (hw:w<=64) {a b:Int} (ha:Fit w a) (hb:Fit w b):Fit w (IntKind.u64.wrap (((a % 2^IntKind.u64.bits).toNat ||| (b % 2^IntKind.u64.bits).toNat:Nat):Int)):=by
 obtain ⟨m,n,_,_,h1,h2,e1,e2⟩:=jcZ hw ha hb;rw [e1,e2];exact fit_nat hw (Nat.or_lt_two_pow h1 h2)
theorem fit_xor {w:Nat} (hw:w<=64) {a b:Int} (ha:Fit w a) (hb:Fit w b):Fit w (IntKind.u64.wrap (((a % 2^IntKind.u64.bits).toNat ^^^ (b % 2^IntKind.u64.bits).toNat:Nat):Int)):=by
 obtain ⟨m,n,_,_,h1,h2,e1,e2⟩:=jcZ hw ha hb;rw [e1,e2];exact fit_nat hw (Nat.xor_lt_two_pow h1 h2)
theorem fit_shr {w:Nat} {a:Int} (ha:Fit w a) (q:Nat):Fit w (a.fdiv (2^q)):=by
 have hp:(0:Int)<2^q:=Int.pow_pos (by decide);rw [Int.fdiv_eq_ediv_of_nonneg _ (by omega)];have h1:=Int.ediv_nonneg ha.1 (b:=2^q) (by omega);have h2:=Int.ediv_le_self (2^q) ha.1;exact ⟨h1,Int.lt_of_le_of_lt h2 ha.2⟩
theorem fit_turn {w:Nat} {a:Int} (ha:Fit w a) : ∀ k,Fit w (Ev.turnI w k a)
 | 0=>ha
 | k+1=>zg _ w
theorem Nwhole_v (k:Int) (a b:Int) (w:Nat) (hw1:1<=w) (hw:w<=64) (hk0:0<=k) (hk1:k<=14) (ha:Fit w a) (hb:Fit w b) : ∃ n e:Int,bS 153 [vint k,vu a,vu b,vnat w] (.tuple [vu n,vint e])/\Fit w n/\(k<3\/6<k->e=0):=by
 have ua:=ha.u64 hw;obtain ⟨q,hq,hqw⟩ : ∃ q:Nat,b.tmod (w:Int)=q/\q<w:=by
  obtain ⟨b0,_⟩:=hb;obtain ⟨m,rfl⟩ : ∃ m:Nat,b=m:=⟨b.toNat,by omega⟩
  exact ⟨m % w,rfl,Nat.mod_lt _ (by omega)⟩
 have hw0 : ¬ w=0:=by omega
 have cw:IntKind.u64.wrap (w:Int)=w:=bO;have cq:IntKind.i64.wrap (q:Int)=q:=wrap_i64 (by omega) (by omega);have cl:=fun v hv=>Ye v w hw hv
 have hm:min q IntKind.u64.bits=q:=by rw [qQ]; omega
 have hm2:min q IntKind.i64.bits=q:=by rw [i64_bits]; omega
 have cs:=qS a w hw;have ct:=fun j hj=>(Nturned_v a j w hj hw1 hw ua).1
 have wq:IntKind.i64.wrap ((w:Int)-(q:Int))=((w-q:Nat):Int):=by rw [wrap_i64 (by omega) (by omega)]; omega
 have hqI:(q:Int)<=w:=by omega
 by_cases h0:k=0
 ·subst h0;refine ⟨(IntKind.u64.wrap (a+b)) % 2^w,0,fun S => ?_,zg _ w,fun _=>rfl⟩;refine QB (c:=jc Tryz.f153) Tryz.func153 Tryz.ntmps153 fun hwf=>?_
  refine QY ?_
  refine bD cw hw0 hq cq ?_
  refine QP ?_ (r:=by conv=>lhs;simp[QV,hm,wq,hqI]);refine QL (cl _ (wrap_u64_in _)) ?_;refine bQ ?_
  exact bN
 by_cases h1:k=1
 ·subst h1;refine ⟨(IntKind.u64.wrap (a-b)) % 2^w,0,fun S => ?_,zg _ w,fun _=>rfl⟩;refine QB (c:=jc Tryz.f153) Tryz.func153 Tryz.ntmps153 fun hwf=>?_
  refine QY ?_
  refine bD cw hw0 hq cq ?_
  refine QP ?_ (r:=by conv=>lhs;simp[QV,hm,wq,hqI]);refine QL (cl _ (wrap_u64_in _)) ?_;refine bQ ?_
  exact bN
 by_cases h2:k=2
 ·subst h2;refine ⟨(IntKind.u64.wrap (a*b)) % 2^w,0,fun S => ?_,zg _ w,fun _=>rfl⟩;refine QB (c:=jc Tryz.f153) Tryz.func153 Tryz.ntmps153 fun hwf=>?_
  refine QY ?_
  refine bD cw hw0 hq cq ?_
  refine QP ?_ (r:=by conv=>lhs;simp[QV,hm,wq,hqI]);refine QL (cl _ (wrap_u64_in _)) ?_;refine bQ ?_
  exact bN
 by_cases h7:k=7
 ·subst h7;refine ⟨_,0,fun S => ?_,fit_and hw ha hb,fun _=>rfl⟩;refine QB (c:=jc Tryz.f153) Tryz.func153 Tryz.ntmps153 fun hwf=>?_
  refine QY ?_
  refine bz cw hw0 hq cq hm hm2 ?_
  exact bN
 by_cases h8:k=8
 ·subst h8;refine ⟨_,0,fun S => ?_,fit_or hw ha hb,fun _=>rfl⟩;refine QB (c:=jc Tryz.f153) Tryz.func153 Tryz.ntmps153 fun hwf=>?_
  refine QY ?_
  refine bz cw hw0 hq cq hm hm2 ?_
  exact bN
 by_cases h9:k=9
 ·subst h9;refine ⟨_,0,fun S => ?_,fit_xor hw ha hb,fun _=>rfl⟩;refine QB (c:=jc Tryz.f153) Tryz.func153 Tryz.ntmps153 fun hwf=>?_
  refine QY ?_
  refine bz cw hw0 hq cq hm hm2 ?_
  exact bN
 by_cases h10:k=10
 ·subst h10;refine ⟨(IntKind.u64.wrap (a*2^q)) % 2^w,0,fun S => ?_,zg _ w,fun _=>rfl⟩;refine QB (c:=jc Tryz.f153) Tryz.func153 Tryz.ntmps153 fun hwf=>?_
  refine QY ?_
  refine bD cw hw0 hq cq ?_
  refine QP ?_ (r:=by conv=>lhs;simp[QV,hm,wq,hqI]);refine QL (cl _ (wrap_u64_in _)) ?_;refine bQ ?_
  exact bN
 by_cases h11:k=11
 ·subst h11;refine ⟨(IntKind.u64.wrap ((Ev.sgnI a w).fdiv (2^q))) % 2^w,0,fun S => ?_,zg _ w,fun _=>rfl⟩;refine QB (c:=jc Tryz.f153) Tryz.func153 Tryz.ntmps153 fun hwf=>?_
  refine QY ?_
  refine bD cw hw0 hq cq ?_
  refine QP ?_;refine QL cs ?_;refine bB hm2 ?_;refine QL (cl _ (wrap_u64_in _)) ?_;refine bQ ?_
  exact bN
 by_cases h12:k=12
 ·subst h12;refine ⟨_,0,fun S => ?_,fit_shr ha q,fun _=>rfl⟩;refine QB (c:=jc Tryz.f153) Tryz.func153 Tryz.ntmps153 fun hwf=>?_
  refine QY ?_
  refine bz cw hw0 hq cq hm hm2 ?_
  exact bN
 by_cases h13:k=13
 ·subst h13;refine ⟨_,0,fun S => ?_,fit_turn ha q,fun _=>rfl⟩;refine QB (c:=jc Tryz.f153) Tryz.func153 Tryz.ntmps153 fun hwf=>?_
  refine QY ?_
  refine bD cw hw0 hq cq ?_
  refine QP ?_ (r:=by conv=>lhs;simp[QV,hm,wq,hqI]);refine QL (ct q (by omega)) ?_;refine bQ ?_
  exact bN
 by_cases h14:k=14
 ·subst h14;refine ⟨_,0,fun S => ?_,fit_turn ha (w-q),fun _=>rfl⟩;refine QB (c:=jc Tryz.f153) Tryz.func153 Tryz.ntmps153 fun hwf=>?_
  refine QY ?_
  refine bD cw hw0 hq cq ?_
  refine QP ?_ (r:=by conv=>lhs;simp[QV,hm,wq,hqI]);refine QL (ct (w-q) (by omega)) ?_;refine bQ ?_
  exact bN
 have hr:3<=k/\k<=6:=by omega
 obtain ⟨n,e,cd,hf⟩:=Ndivide_v (k-3) a b w hw1 hw ha hb;refine ⟨n,e,fun S => ?_,hf,fun h=>by omega⟩;have wk:IntKind.i64.wrap (k-3)=k-3:=wrap_i64 (by omega) (by omega);refine QB (c:=jc Tryz.f153) Tryz.func153 Tryz.ntmps153 fun hwf=>?_
 refine QY ?_
 repeat first|refine QG ?_|refine QY ?_ (r:=by conv=>lhs;simp[QV,cw,hw0,hq,cq,h0,h1,h2,h7,h8,h9,h10,h11,h12,h13,h14])
 refine bH wk ?_;refine QL cd ?_;refine bQ ?_
 exact bN
end Go.Vw
namespace Ev
def bitA (a:Int) (i:Nat):Bool:=decide (Go.IntKind.u64.wrap (((a.fdiv (2^i) % 2^Go.IntKind.u64.bits).toNat &&& 1 % 2^Go.IntKind.u64.bits:Nat):Int)=1)
def bitsT (a:Int) (w:Nat):Nat->Int × Int × Int
 | 0=>(w,w,0)
 | i+1=>if bitA a i then ((w:Int)-1-i,if (bitsT a w i).2.1=w then (i:Int) else (bitsT a w i).2.1,(bitsT a w i).2.2+1) else bitsT a w i
def pick3 (k:Int) (s:Int × Int × Int):Int:=if k=0 then s.1 else if k=1 then s.2.1 else s.2.2
theorem bitsT_in (a:Int) (w:Nat) : ∀ i,i<=w->(0<=(bitsT a w i).1/\(bitsT a w i).1<=w)/\(0<=(bitsT a w i).2.1/\(bitsT a w i).2.1<=w)/\(0<=(bitsT a w i).2.2/\(bitsT a w i).2.2<=i)
 | 0,_=>⟨⟨by simp [bitsT],by simp [bitsT]⟩,⟨by simp [bitsT],by simp [bitsT]⟩,by simp [bitsT],by simp [bitsT]⟩
 | i+1,h=>by
  obtain ⟨h1,h2,h3⟩:=bitsT_in a w i (by omega);rw [bitsT];split
  ·refine ⟨⟨by simp only; omega,by simp only; omega⟩, ?_,by simp only; omega,by simp only; omega⟩;simp only;split<;>constructor<;>omega
  ·exact ⟨h1,h2,h3.1,by omega⟩
end Ev
namespace Go.Vw
open Go.Proofs Go.RowKit
attribute [-simp] List.map_set
theorem Nbits_v (k:Int) (a:Int) (w:Nat) (hw1:1<=w) (hw:w<=64) (hk:k=0\/k=1\/k=2):bS 152 [vint k,vu a,vnat w] (vu (Ev.pick3 k (Ev.bitsT a w w))):=by
 intro S;have hr:rep0 [V.int .i64 0] 3=[.int .i64 0, .int .i64 0, .int .i64 0]:=rfl;have w0:IntKind.i64.wrap ((w:Int)-1)=(w:Int)-1:=wrap_i64 (by omega) (by omega);refine QB (c:=jc Tryz.f152) Tryz.func152 Tryz.ntmps152 fun hwf=>?_
 refine QY ?_
 refine bw ?_
 refine QT ?_;refine jd [0,1,2,7,8,9,10] rfl (fun c σ S' => ∃ (i:Nat),i<=w/\c=w-i/\σ=[(0,vint k),(1,vu a),(2,vnat w),(7,vint (Ev.bitsT a w i).1),(8,vint (Ev.bitsT a w i).2.1),(9,vint (Ev.bitsT a w i).2.2),(10,vnat i)]/\S'=St S [] []) w ?_ ?_
 ·exact ⟨0,by omega,rfl,by simp [Fr.only,Fr.look,Ev.bitsT],by simp⟩
 ·rintro c σ T ⟨i,hi,rfl,rfl,rfl⟩;have hb:=Ev.bitsT_in a w i hi;have hst:Ev.bitsT a w (i+1)=if Ev.bitA a i then ((w:Int)-1-i,if (Ev.bitsT a w i).2.1=w then (i:Int) else (Ev.bitsT a w i).2.1,(Ev.bitsT a w i).2.2+1) else Ev.bitsT a w i:=rfl
  generalize hs0:Ev.bitsT a w i=s at hb hst ⊢;obtain ⟨s1,s2,s3⟩:=s;simp only at hb hst ⊢;obtain ⟨h1,h2,h3⟩:=hb
  by_cases hit:i<w
  ·have hwi:=jg hit (by omega);have hm:min i IntKind.u64.bits=i:=by rw [qQ]; omega
   have w1:IntKind.i64.wrap ((w:Int)-1-i)=(w:Int)-1-i:=wrap_i64 (by omega) (by omega);have w3:IntKind.i64.wrap (s3+1)=s3+1:=wrap_i64 (by omega) (by omega);have hab:Ev.bitA a i=decide (IntKind.u64.wrap (((a.fdiv (2^i) % 2^IntKind.u64.bits).toNat &&& 1 % 2^IntKind.u64.bits:Nat):Int)=1):=rfl
   by_cases hbit:IntKind.u64.wrap (((a.fdiv (2^i) % 2^IntKind.u64.bits).toNat &&& 1 % 2^IntKind.u64.bits:Nat):Int)=1
   ·rw [hab,decide_eq_true hbit,if_pos rfl] at hst
    by_cases hl:s2=w
    ·rw [if_pos hl] at hst;subst hl
     repeat first|refine QG ?_|refine QY ?_ (r:=by conv=>lhs;simp[QV,hit,hm,hbit,w0,w1,w3,hwi])
     show js _ _ _ _ _ _ _;exact again ⟨ao hit (aY i),i+1,hit,rfl,by rw [hst]; simp [Fr.only,Fr.look],rfl⟩
    ·rw [if_neg hl] at hst
     repeat first|refine QG ?_|refine QY ?_ (r:=by conv=>lhs;simp[QV,hit,hm,hbit,hl,w0,w1,w3,hwi])
     show js _ _ _ _ _ _ _;exact again ⟨ao hit (aY i),i+1,hit,rfl,by rw [hst]; simp [Fr.only,Fr.look],rfl⟩
   ·rw [hab,decide_eq_false hbit] at hst;simp only [aF,if_false] at hst
    refine bD hit hm hbit hwi ?_
    show js _ _ _ _ _ _ _;exact again ⟨ao hit (aY i),i+1,hit,rfl,by rw [hst]; simp [Fr.only,Fr.look],rfl⟩
  ·have hie:i=w:=by omega
   subst hie;rw [hs0];rcases hk with rfl | rfl | rfl
   ·have hv:IntKind.u64.wrap s1=s1:=bO
    refine bv hit hr hv ?_
    exact bN
   ·have hv:IntKind.u64.wrap s2=s2:=bO
    refine bv hit hr hv ?_
    exact bN
   ·have hv:IntKind.u64.wrap s3=s3:=bO
    refine bv hit hr hv ?_
    exact bN
end Go.Vw
namespace Ev
open Ss
def fits (t n:Int):Bool:=decide (t=126)||(decide (t=127)&&decide (n<4294967296))
def kindB (n:Nat):Bool:=decide (rof n=0)||((decide (rof n=127)||decide (rof n=126))&&((runary n&&(decide (n=69)||decide (n=80)||(decide (103<=n)&&decide (n<=105))||(decide (121<=n)&&decide (n<=123))||decide (n=167)||decide (n=172)||decide (n=173)||(decide (192<=n)&&decide (n<=196))))||(!runary n&&((decide (70<=n)&&decide (n<=79))||(decide (81<=n)&&decide (n<=90))||(decide (106<=n)&&decide (n<=120))||(decide (124<=n)&&decide (n<=138))))))
theorem kindB_small : ∀ n:Nat,n<256->kindB n=true:=by decide +kernel
theorem rof_in {op:Int} (h:rof op≠0):0<=op/\op<256:=by
 unfold rof at h;split at h
 ·rename_i h1;simp only [rin,af,aj] at h1;omega
 ·split at h
  ·rename_i h1;simp only [rin,af,aj] at h1;omega
  ·exact absurd rfl h
theorem kinds {op:Int} (h:rof op≠0):(rof op=127\/rof op=126)/\(runary op=true/\(op=69\/op=80\/(103<=op/\op<=105)\/(121<=op/\op<=123)\/op=167\/op=172\/op=173\/(192<=op/\op<=196))\/runary op=false/\((70<=op/\op<=79)\/(81<=op/\op<=90)\/(106<=op/\op<=120)\/(124<=op/\op<=138))):=by
 obtain ⟨h0,h1⟩:=rof_in h;obtain ⟨n,rfl⟩:=Int.eq_ofNat_of_zero_le h0;have hk:=kindB_small n (by omega);simp only [kindB,bq,af,aj,Bool.not_eq_true',h,false_or] at hk;obtain ⟨k1,k2⟩:=hk;refine ⟨k1, ?_⟩;rcases k2 with ⟨a,b⟩ | ⟨a,b⟩
 ·exact .inl ⟨a,by omega⟩
 ·exact .inr ⟨a,by omega⟩
end Ev
namespace Go.Vw
open Go.Proofs Go.RowKit
attribute [-simp] List.map_set
theorem jcJ {t n:Int} (ht:t=127\/t=126) (h0:Ev.U64 n) (h:Ev.fits t n=true):Fit (Ev.widthI t) n:=by
 rcases ht with rfl | rfl
 ·simp only [Ev.fits] at h;simp at h;exact ⟨h0.1,by simp [Ev.widthI]; omega⟩
 ·exact ⟨h0.1,by simp [Ev.widthI]; have:=h0.2; omega⟩
theorem Neval_bad (op:Int) (a:List Int) (h:Ss.rof op=0\/a.length≠(Ss.rsig op).1.length) (ha:a.length<2^62):bS 145 [vint op,vl vu a] (.tuple [vu 0,vint 1]):=by
 have cs:=KG op;rw [<-Ss.rsig_eq op] at cs
 by_cases h0:Ss.rof op=0
 ·intro S;have hX:Ss.rsig op=([],0,false):=by rw [Ss.rsig,if_pos h0]
  rw [hX] at cs;simp only at cs;refine QB (c:=jc Tryz.f145) Tryz.func145 Tryz.ntmps145 fun hwf=>?_
  refine QY ?_;refine QP ?_;refine QL cs ?_;refine bQ ?_
  exact bN
 ·intro S;obtain ⟨l,hl⟩ : ∃ l,l=(Ss.rsig op).1:=⟨_,rfl⟩
  have hX:Ss.rsig op=(l,Ss.rsigT op,true):=by rw [hl,Ss.rsig,if_neg h0]
  have hne : ¬ l.length=a.length:=by
   rw [<-hl] at h;rcases h with h | h
   ·exact absurd h h0
   ·exact fun e=>h e.symm
  rw [hX] at cs;simp only at cs;have hneI : ¬ (l.length:Int)=(a.length:Int):=by omega
  refine QB (c:=jc Tryz.f145) Tryz.func145 Tryz.ntmps145 fun hwf=>?_
  refine QY ?_;refine QP ?_;refine QL cs ?_;refine QW ?_
  refine bt hne hneI ?_
  exact bN
theorem Neval_misfit (op:Int) (a:List Int) (h0:Ss.rof op≠0) (hl:a.length=(Ss.rsig op).1.length) (h : ∃ i, ∃ (h1:i<a.length) (h2:i<(Ss.rsig op).1.length),Ev.fits (Ss.rsig op).1[i] a[i]=false):bS 145 [vint op,vl vu a] (.tuple [vu 0,vint 1]):=by
 intro S;have cs:=KG op;rw [<-Ss.rsig_eq op] at cs;obtain ⟨l,hle⟩ : ∃ l,l=(Ss.rsig op).1:=⟨_,rfl⟩
 have hX:Ss.rsig op=(l,Ss.rsigT op,true):=by rw [hle,Ss.rsig,if_neg h0]
 rw [hX] at cs;simp only [<-hle] at cs hl h;have hll:l.length<=2:=by
  rw [hle,Ss.rsig,if_neg h0];simp only;split<;>simp
 clear hX;have hlI:(l.length:Int)=(a.length:Int):=by omega
 refine QB (c:=jc Tryz.f145) Tryz.func145 Tryz.ntmps145 fun hwf=>?_
 refine QY ?_;refine QP ?_;refine QL cs ?_;refine QW ?_
 refine bt hl hlI ?_
 refine QT ?_;refine jd [0,1,6,9] rfl (fun c σ S' => ∃ (i:Nat),i<=a.length/\c=a.length-i/\(∀ (q:Nat) (h1:q<a.length) (h2:q<l.length),q<i->Ev.fits l[q] a[q]=true)/\σ=[(0,vint op),(1,vl vu a),(6,vl vint l),(9,vnat i)]/\S'=St S [] []) a.length ?_ ?_
 ·exact ⟨0,by omega,rfl,fun q h1 h2 h3=>by omega,by simp [Fr.only,Fr.look],by simp⟩
 ·rintro c σ T ⟨i,hi,rfl,hq,rfl,rfl⟩
  by_cases hit:i<a.length
  ·have hwi:=jg hit (by omega);have hil:i<l.length:=by omega
   have cf:=jbe l[i] a[i];have hfe:Ev.fits l[i] a[i]=(decide (l[i]=126)||(decide (l[i]=127)&&decide (a[i]<4294967296))):=rfl;rw [<-hfe] at cf;obtain ⟨b,hb⟩ : ∃ b,b=Ev.fits l[i] a[i]:=⟨_,rfl⟩
   rw [<-hb] at cf;obtain ⟨li,hli⟩ : ∃ x,l[i]=x:=⟨_,rfl⟩
   obtain ⟨ai,hai⟩ : ∃ x,a[i]=x:=⟨_,rfl⟩
   rw [hli,hai] at cf
   refine bx hit ?_
   refine QT ?_;refine QD (r:=by conv=>lhs;simp[QV,hit,hil,hli,hai]) (k:=?_);refine QL cf ?_
   cases b with
   | true =>
    refine QW ?_
    refine bx hwi ?_
    have hnew : ∀ (q:Nat) (h1:q<a.length) (h2:q<l.length),q<i+1->Ev.fits l[q] a[q]=true:=fun q h1 h2 h3=>by
     rcases Nat.lt_or_ge q i with h4 | h4
     ·exact hq q h1 h2 h4
     ·have:q=i:=by omega
      subst this; exact hb.symm
    show js _ _ _ _ _ _ _;exact again ⟨ao hit (aY i),i+1,hit,rfl,hnew,by simp [Fr.only,Fr.look],rfl⟩
   | false =>
    refine bQ ?_
    exact bN
  ·exfalso
   obtain ⟨q,h1,h2,h3⟩:=h;rw [hq q h1 h2 (by omega)] at h3
   cases h3
end Go.Vw
