import Derived.Test.YtenhhokhkkfgbaaGreatC16
/- Part of the proof. -/
set_option linter.unusedVariables false
set_option linter.unusedSimpArgs false
set_option maxRecDepth 10000
set_option maxHeartbeats 8000000
namespace Ev
def ldT (m:List Int) (p:Nat):Nat->Int
 | 0=>0
 | k+1=>orI (ldT m p k) (Go.IntKind.u64.wrap (m.getD (p+k) 0*2^(8*k)))
def sxT (s:Nat) (n:Int):Nat->Int
 | 0=>n
 | k+1=>orI (sxT s n k) (Go.IntKind.u64.wrap (2^(s+k)))
end Ev
namespace Go.Vw
open Go.Proofs Go.RowKit
attribute [-simp] List.map_set
theorem orI_in (x y:Int):Ev.U64 (Ev.orI x y):=wrap_u64_in _
theorem Mload_v (m:List Int) (op addr off:Int) (hm:byteL m) (ha:Ev.U64 addr) (ho:Ev.U64 off) : ∃ n e:Int,bS 143 [vl vby m,vint op,vu addr,vu off] (.tuple [vu n,vint e])/\Ev.U64 n/\(((Ss.accOf op).getD ⟨0,0,false,false⟩).kind=127->n<4294967296):=by
 have ca:=Yd op;obtain ⟨acc,hac⟩ : ∃ x,x=(Ss.accOf op).getD ⟨0,0,false,false⟩:=⟨_,rfl⟩
 have hwid:(Ss.accOf op).isSome=true->acc.width=1\/acc.width=2\/acc.width=4\/acc.width=8:=by
  intro h;obtain ⟨v,hv⟩:=Option.isSome_iff_exists.1 h;rw [hv,aS] at hac;subst hac;have hm2 : ∀ (L:List (Int × Ss.Acc)),Ss.findK op L=some acc -> ∃ q∈L,q.2=acc:=by
   intro L
   induction L with
   | nil=>intro h; cases h
   | cons q L ih =>
    intro h;obtain ⟨k,v⟩:=q;simp only [Ss.findK] at h;split at h
    ·cases h; exact ⟨(k,acc),by simp,rfl⟩
    ·obtain ⟨q,h1,h2⟩:=ih h;exact ⟨q,by simp [h1],h2⟩
  obtain ⟨q,h1,rfl⟩:=hm2 _ hv;have hall : ∀ q∈Ss.accL,q.2.width=1\/q.2.width=2\/q.2.width=4\/q.2.width=8:=by decide
  exact hall q h1
 rw [<-hac] at ca ⊢;obtain ⟨ki,wi,st,sg⟩:=acc;simp only at ca hwid;generalize (Ss.accOf op).isSome=ok at *
 cases ok with
 | false =>
  refine ⟨0,1,fun S => ?_,⟨by omega,by omega⟩,fun _=>by omega⟩;refine QB (c:=jc Tryz.f143) Tryz.func143 Tryz.ntmps143 fun hwf=>?_
  refine QY ?_;refine QP ?_;refine QL ca ?_;refine bQ ?_
  exact bN
 | true =>
 cases st with
 | true =>
  refine ⟨0,1,fun S => ?_,⟨by omega,by omega⟩,fun _=>by omega⟩;refine QB (c:=jc Tryz.f143) Tryz.func143 Tryz.ntmps143 fun hwf=>?_
  refine QY ?_;refine QP ?_;refine QL ca ?_;refine bQ ?_
  exact bN
 | false =>
 by_cases h1:4294967295<addr
 ·refine ⟨0,1,fun S => ?_,⟨by omega,by omega⟩,fun _=>by omega⟩;refine QB (c:=jc Tryz.f143) Tryz.func143 Tryz.ntmps143 fun hwf=>?_
  refine QY ?_;refine QP ?_;refine QL ca ?_;refine QW ?_
  refine bx h1 ?_
  exact bN
 by_cases h2:4294967295<off
 ·refine ⟨0,1,fun S => ?_,⟨by omega,by omega⟩,fun _=>by omega⟩;refine QB (c:=jc Tryz.f143) Tryz.func143 Tryz.ntmps143 fun hwf=>?_
  refine QY ?_;refine QP ?_;refine QL ca ?_;refine QW ?_
  refine bt h1 h2 ?_
  exact bN
 obtain ⟨a0,a1⟩:=ha;obtain ⟨o0,o1⟩:=ho;have hw:=hwid rfl;obtain ⟨w,rfl⟩ : ∃ w:Nat,wi=(w:Int):=⟨wi.toNat,by omega⟩
 obtain ⟨p,hp⟩ : ∃ p:Nat,addr+off=(p:Int):=⟨(addr+off).toNat,by omega⟩
 have wp:IntKind.u64.wrap (addr+off)=(p:Int):=by rw [wrap_u64' (by omega) (by omega)]; exact hp
 have ww:IntKind.u64.wrap (w:Int)=(w:Int):=bO;have cin:=jbd m (p:Int) (w:Int) hm (by omega) (by omega)
 cases hin:Ev.insideI m.length (p:Int) (w:Int) with
 | false =>
  rw [hin] at cin;refine ⟨0,35,fun S => ?_,⟨by omega,by omega⟩,fun _=>by omega⟩;refine QB (c:=jc Tryz.f143) Tryz.func143 Tryz.ntmps143 fun hwf=>?_
  refine QY ?_;refine QP ?_;refine QL ca ?_;refine QW ?_
  refine bt h1 h2 ?_
  refine bK wp ww ?_;refine QL cin ?_;refine bQ ?_
  exact bN
 | true =>
 rw [hin] at cin;have hml:=hm.1;have hpw:p+w<=m.length:=by
  simp only [Ev.insideI,af,aj] at hin;omega
 have cs:=Msigned_v op;obtain ⟨sb,hsb⟩ : ∃ b,b=sgnO op:=⟨_,rfl⟩
 rw [<-hsb] at cs;obtain ⟨D,hD⟩ : ∃ D,D=Ev.ldT m p w:=⟨_,rfl⟩
 have hDu : ∀ k,Ev.U64 (Ev.ldT m p k):=fun k=>by
  cases k with
  | zero=>exact ⟨by simp [Ev.ldT],by simp [Ev.ldT]⟩
  | succ k=>exact orI_in _ _
 obtain ⟨n1,hn1⟩ : ∃ x,x=if sb=true/\IntKind.u64.wrap (((D.fdiv (2^(8*w-1)) % 2^IntKind.u64.bits).toNat &&& 1 % 2^IntKind.u64.bits:Nat):Int)=1 then Ev.sxT (8*w) D (64-8*w) else D:=⟨_,rfl⟩
 have hn1u:Ev.U64 n1:=by
  rw [hn1];split
  ·cases hk:64-8*w with
   | zero=>rw [Ev.sxT,hD]; exact hDu w
   | succ k=>exact orI_in _ _
  ·rw [hD]; exact hDu w
 obtain ⟨n2,hn2⟩ : ∃ x,x=if ki=127 then IntKind.u64.wrap (((n1 % 2^IntKind.u64.bits).toNat &&& 4294967295 % 2^IntKind.u64.bits:Nat):Int) else n1:=⟨_,rfl⟩
 have hn2u:Ev.U64 n2:=by
  rw [hn2];split
  ·exact wrap_u64_in _
  ·exact hn1u
 refine ⟨n2,0,fun S => ?_,hn2u,fun hk => ?_⟩
 rotate_left
 ·have hk:ki=127:=hk;rw [hn2,if_pos hk];have hle:((n1 % 2^IntKind.u64.bits).toNat &&& 4294967295 % 2^IntKind.u64.bits:Nat)<4294967296:=by
   have:(4294967295 % 2^IntKind.u64.bits:Nat)=4294967295:=by decide
   rw [this];exact Nat.lt_of_le_of_lt Nat.and_le_right (by omega)
  rw [wrap_u64' (by omega) (by omega)];omega
 have w8:IntKind.i64.wrap (8*(w:Int))=8*(w:Int):=wrap_i64 (by omega) (by omega);have w81:IntKind.i64.wrap (8*(w:Int)-1)=8*(w:Int)-1:=wrap_i64 (by omega) (by omega);have t81:(8*(w:Int)-1).toNat=8*w-1:=by omega
 have p81:(1:Int)<=8*(w:Int):=by omega
 have hm8:min (8*w-1) IntKind.u64.bits=8*w-1:=by rw [qQ]; omega
 refine QB (c:=jc Tryz.f143) Tryz.func143 Tryz.ntmps143 fun hwf=>?_
 refine QY ?_;refine QP ?_;refine QL ca ?_;refine QW ?_
 refine bt h1 h2 ?_
 refine bK wp ww ?_;refine QL cin ?_;refine bQ ?_
 refine QT ?_;refine jd [0,1,2,3,10,11,14,15] rfl (fun c σ S' => ∃ (i:Nat),i<=w/\c=w-i/\σ=[(0,vl vby m),(1,vint op),(2,vu addr),(3,vu off),(10,vint ki),(11,vnat w),(14,vu (Ev.ldT m p i)),(15,vnat i)]/\S'=St S [] []) w ?_ ?_
 ·exact ⟨0,by omega,rfl,by simp [Fr.only,Fr.look,vu,Ev.ldT],by simp⟩
 ·rintro c σ T ⟨i,hi,rfl,rfl,rfl⟩
  by_cases hit:i<w
  ·have hwi:=jg hit (by omega);have hpi:p+i<m.length:=by omega
   have hx:=hm.2 _ (ah hpi);have hst:Ev.ldT m p (i+1)=Ev.orI (Ev.ldT m p i) (IntKind.u64.wrap (m.getD (p+i) 0*2^(8*i))):=rfl;rw [ag,ac hpi,aS] at hst;have hidx : ∀ S',jB 1 S' (vl vby m) (.int .u64 ((p+i:Nat):Int))=some (.ref (vby m[p+i])):=fun S'=>zO (S:=S') (enc:=vby) (l:=m) (k := .u64) (i:=p+i) (x:=m[p+i]) (s:=1) rfl (ac hpi)
   generalize m[p+i]=x at *
   have hid2 : ∀ S',jB 1 S' (vl vby m) (.int .u64 ((p:Int)+(i:Int)))=some (.ref (.int .u8 x)):=hidx
   have wi':IntKind.u64.wrap (i:Int)=(i:Int):=bO;have wsum:IntKind.u64.wrap ((p:Int)+(i:Int))=(p:Int)+(i:Int):=bO;have wx:IntKind.u64.wrap x=x:=bO;have w8i:IntKind.i64.wrap (8*(i:Int))=8*(i:Int):=wrap_i64 (by omega) (by omega);have t8i:(8*(i:Int)).toNat=8*i:=by omega
   have p8i:(0:Int)<=8*(i:Int):=by omega
   have hm8i:min (8*i) IntKind.u64.bits=8*i:=by rw [qQ]; omega
   refine bx hit ?_
   refine QY ?_ (r:=by conv=>lhs;simp[QV,wp,wi',wsum,hid2,wx,w8i,t8i,p8i,hm8i])
   refine bx hwi ?_
   show js _ _ _ _ _ _ _;exact again ⟨ao hit (aY i),i+1,hit,rfl,by simp [Fr.only,Fr.look,vu,hst,Ev.orI],rfl⟩
  ·have hie:i=w:=by omega
   subst hie;rw [<-hD]
   refine bx hit ?_
   refine QP ?_;refine QL cs ?_
   cases sb with
   | false =>
    rw [if_neg (by simp)] at hn1;refine QW ?_
    by_cases hki:ki=127
    ·have q:(ki=127)=True:=eq_true hki;rw [if_pos hki] at hn2;rw [hn2,hn1]
     refine bx q ?_
     exact bN
    ·rw [if_neg hki] at hn2;rw [hn2,hn1]
     refine bx hki ?_
     exact bN
   | true =>
    by_cases hb:IntKind.u64.wrap (((D.fdiv (2^(8*i-1)) % 2^IntKind.u64.bits).toNat &&& 1 % 2^IntKind.u64.bits:Nat):Int)=1
    ·rw [if_pos ⟨rfl,hb⟩] at hn1;refine QM (by conv=>lhs;simp[QV,w8,w81,t81,p81,hm8,hb]) ?_;refine QN ?_
     refine bx w8 ?_
     refine QT ?_;refine jd [10,14,16] rfl (fun c σ S' => ∃ (k:Nat),k<=64-8*i/\c=64-8*i-k/\σ=[(10,vint ki),(14,vu (Ev.sxT (8*i) D k)),(16,vint (8*(i:Int)+(k:Int)))]/\S'=St S [] []) (64-8*i) ?_ ?_
     ·exact ⟨0,by omega,rfl,by simp [Fr.only,Fr.look,vu,Ev.sxT],by simp⟩
     ·rintro c σ T ⟨k,hk,rfl,rfl,rfl⟩
      by_cases hkt:k<64-8*i
      ·have hkI:8*(i:Int)+(k:Int)<64:=by omega
       have wk:IntKind.i64.wrap (8*(i:Int)+(k:Int)+1)=8*(i:Int)+(k:Int)+1:=wrap_i64 (by omega) (by omega);have tk:(8*(i:Int)+(k:Int)).toNat=8*i+k:=by omega
       have pk:(0:Int)<=8*(i:Int)+(k:Int):=by omega
       have mk:min (8*i+k) IntKind.u64.bits=8*i+k:=by rw [qQ]; omega
       have hst:Ev.sxT (8*i) D (k+1)=Ev.orI (Ev.sxT (8*i) D k) (IntKind.u64.wrap (2^(8*i+k))):=rfl;have e1:8*(i:Int)+((k+1:Nat):Int)=8*(i:Int)+(k:Int)+1:=by omega
       refine bx hkI ?_
       refine QY ?_ (r:=by conv=>lhs;simp[QV,tk,pk,mk])
       refine bx wk ?_
       show js _ _ _ _ _ _ _;exact again ⟨ao hkt (aY k),k+1,hkt,rfl,by rw [hst,e1]; simp [Fr.only,Fr.look,vu,Ev.orI],rfl⟩
      ·have hke:k=64-8*i:=by omega
       subst hke;have hkI : ¬ 8*(i:Int)+((64-8*i:Nat):Int)<64:=by omega
       generalize ((64-8*i:Nat):Int)=kz at hkI ⊢;have hkF:(8*(i:Int)+kz<64)=False:=eq_false hkI
       by_cases hki:ki=127
       ·have q:(ki=127)=True:=eq_true hki;rw [if_pos hki] at hn2;rw [hn2,hn1]
        refine bt hkF q ?_
        exact bN
       ·rw [if_neg hki] at hn2;rw [hn2,hn1]
        refine bt hkF hki ?_
        exact bN
    ·rw [if_neg (fun h=>hb h.2)] at hn1;refine QM (by conv=>lhs;simp[QV,w8,w81,t81,p81,hm8,hb]) ?_;refine QN ?_
     by_cases hki:ki=127
     ·have q:(ki=127)=True:=eq_true hki;rw [if_pos hki] at hn2;rw [hn2,hn1]
      refine bx q ?_
      exact bN
     ·rw [if_neg hki] at hn2;rw [hn2,hn1]
      refine bx hki ?_
      exact bN
end Go.Vw
namespace Ev
def stT (m:List Int) (p:Nat) (n:Int):Nat->List Int
 | 0=>m
 | k+1=>(stT m p n k).set (p+k) (Go.IntKind.u8.wrap (n.fdiv (2^(8*k))))
end Ev
namespace Go.Vw
open Go.Proofs Go.RowKit
attribute [-simp] List.map_set
theorem wrap_u8_in (n:Int):0<=IntKind.u8.wrap n/\IntKind.u8.wrap n<256:=by
 have e:IntKind.u8.wrap n=n % 256:=by simp [IntKind.wrap,IntKind.bits,IntKind.signed]
 rw [e];exact ⟨Int.emod_nonneg _ (by decide),Int.emod_lt_of_pos _ (by decide)⟩
theorem jce (m:List Int) (p:Nat) (n:Int) : ∀ k,(Ev.stT m p n k).length=m.length
 | 0=>rfl
 | k+1=>by rw [Ev.stT,List.length_set]; exact jce m p n k
theorem stT_in {m:List Int} (h:byteL m) (p:Nat) (n:Int) : ∀ k,byteL (Ev.stT m p n k)
 | 0=>h
 | k+1=>by
  refine ⟨by rw [jce]; exact h.1,fun x hx => ?_⟩;rcases List.mem_or_eq_of_mem_set hx with h1 | rfl
  ·exact (stT_in h p n k).2 x h1
  ·exact wrap_u8_in _
theorem jcc (m:List Int):(m.map vby).flatMap V.cells=m.map vby:=by
 induction m with
 | nil=>rfl
 | cons x m ih=>simp only [List.map_cons,List.flatMap_cons,ih]; rfl
theorem Mstore_v (m:List Int) (op addr off n:Int) (hm:byteL m) (ha:Ev.U64 addr) (ho:Ev.U64 off) (hn:Ev.U64 n) : ∃ (m':List Int) (e:Int),bS 142 [vl vby m,vint op,vu addr,vu off,vu n] (.tuple [vl vby m',vint e])/\byteL m'/\(e=0->m'.length=m.length):=by
 have ca:=Yd op;obtain ⟨acc,hac⟩ : ∃ x,x=(Ss.accOf op).getD ⟨0,0,false,false⟩:=⟨_,rfl⟩
 have hwid:(Ss.accOf op).isSome=true->acc.width=1\/acc.width=2\/acc.width=4\/acc.width=8:=by
  intro h;obtain ⟨v,hv⟩:=Option.isSome_iff_exists.1 h;rw [hv,aS] at hac;subst hac;have hm2 : ∀ (L:List (Int × Ss.Acc)),Ss.findK op L=some acc -> ∃ q∈L,q.2=acc:=by
   intro L
   induction L with
   | nil=>intro h; cases h
   | cons q L ih =>
    intro h;obtain ⟨k,v⟩:=q;simp only [Ss.findK] at h;split at h
    ·cases h; exact ⟨(k,acc),by simp,rfl⟩
    ·obtain ⟨q,h1,h2⟩:=ih h;exact ⟨q,by simp [h1],h2⟩
  obtain ⟨q,h1,rfl⟩:=hm2 _ hv;have hall : ∀ q∈Ss.accL,q.2.width=1\/q.2.width=2\/q.2.width=4\/q.2.width=8:=by decide
  exact hall q h1
 rw [<-hac] at ca;obtain ⟨ki,wi,st,sg⟩:=acc;simp only at ca hwid;generalize (Ss.accOf op).isSome=ok at *
 cases ok with
 | false =>
  refine ⟨[],1,fun S => ?_,⟨by simp,by simp⟩,by simp⟩;refine QB (c:=jc Tryz.f142) Tryz.func142 Tryz.ntmps142 fun hwf=>?_
  refine QY ?_;refine QP ?_;refine QL ca ?_;refine bQ ?_
  exact qy hwf ((Ghost.tuple [] [_] (Ghost.nils_list _)).toB _) zI (by rfl)
 | true =>
 cases st with
 | false =>
  refine ⟨[],1,fun S => ?_,⟨by simp,by simp⟩,by simp⟩;refine QB (c:=jc Tryz.f142) Tryz.func142 Tryz.ntmps142 fun hwf=>?_
  refine QY ?_;refine QP ?_;refine QL ca ?_;refine bQ ?_
  exact qy hwf ((Ghost.tuple [] [_] (Ghost.nils_list _)).toB _) zI (by rfl)
 | true =>
 by_cases h1:4294967295<addr
 ·skip
  refine ⟨[],1,fun S => ?_,⟨by simp,by simp⟩,by simp⟩;refine QB (c:=jc Tryz.f142) Tryz.func142 Tryz.ntmps142 fun hwf=>?_
  refine QY ?_;refine QP ?_;refine QL ca ?_;refine QW ?_
  refine bx h1 ?_
  exact qy hwf ((Ghost.tuple [] [_] (Ghost.nils_list _)).toB _) zI (by rfl)
 by_cases h2:4294967295<off
 ·skip
  refine ⟨[],1,fun S => ?_,⟨by simp,by simp⟩,by simp⟩;refine QB (c:=jc Tryz.f142) Tryz.func142 Tryz.ntmps142 fun hwf=>?_
  refine QY ?_;refine QP ?_;refine QL ca ?_;refine QW ?_
  refine bt h1 h2 ?_
  exact qy hwf ((Ghost.tuple [] [_] (Ghost.nils_list _)).toB _) zI (by rfl)
 have cf:=jbe ki n;obtain ⟨fb,hfb⟩ : ∃ b,b=(decide (ki=126)||(decide (ki=127)&&decide (n<4294967296))):=⟨_,rfl⟩
 rw [<-hfb] at cf
 cases fb with
 | false =>
  refine ⟨[],1,fun S => ?_,⟨by simp,by simp⟩,by simp⟩;refine QB (c:=jc Tryz.f142) Tryz.func142 Tryz.ntmps142 fun hwf=>?_
  refine QY ?_;refine QP ?_;refine QL ca ?_;refine bQ ?_
  refine bK h1 h2 ?_;refine QL cf ?_;refine bQ ?_
  exact qy hwf ((Ghost.tuple [] [_] (Ghost.nils_list _)).toB _) zI (by rfl)
 | true =>
 obtain ⟨a0,a1⟩:=ha;obtain ⟨o0,o1⟩:=ho;have hw:=hwid rfl;obtain ⟨w,rfl⟩ : ∃ w:Nat,wi=(w:Int):=⟨wi.toNat,by omega⟩
 obtain ⟨p,hp⟩ : ∃ p:Nat,addr+off=(p:Int):=⟨(addr+off).toNat,by omega⟩
 have wp:IntKind.u64.wrap (addr+off)=(p:Int):=by rw [wrap_u64' (by omega) (by omega)]; exact hp
 have ww:IntKind.u64.wrap (w:Int)=(w:Int):=bO;have cin:=jbd m (p:Int) (w:Int) hm (by omega) (by omega)
 cases hin:Ev.insideI m.length (p:Int) (w:Int) with
 | false =>
  rw [hin] at cin;refine ⟨[],35,fun S => ?_,⟨by simp,by simp⟩,by simp⟩;refine QB (c:=jc Tryz.f142) Tryz.func142 Tryz.ntmps142 fun hwf=>?_
  refine QY ?_;refine QP ?_;refine QL ca ?_;refine bQ ?_
  refine bK h1 h2 ?_;refine QL cf ?_;refine bQ ?_
  refine bK wp ww ?_;refine QL cin ?_;refine bQ ?_
  exact qy hwf ((Ghost.tuple [] [_] (Ghost.nils_list _)).toB _) zI (by rfl)
 | true =>
 rw [hin] at cin;have hml:=hm.1;have hpw:p+w<=m.length:=by
  simp only [Ev.insideI,af,aj] at hin;omega
 refine ⟨Ev.stT m p n w,0,fun S => ?_,stT_in hm p n w,fun _=>jce m p n w⟩;have hap : ∀ S,jR 1 1 S .nils (vl vby m)=some (.slice S.nx 0 m.length,S.add (1,m.map vby)):=fun S=>by
  have:=zT (S:=S) (s:=1) (b:=1) (xs:=m.map vby) (fun x hx=>by
   obtain ⟨y,_,rfl⟩:=bk.1 hx
   rfl) (by rw [aI]; omega) (by rw [aI]; omega)
  rw [jcc,aI] at this;exact this
 refine QB (c:=jc Tryz.f142) Tryz.func142 Tryz.ntmps142 fun hwf=>?_
 refine QY ?_;refine QP ?_;refine QL ca ?_;refine bQ ?_
 refine bK h1 h2 ?_;refine QL cf ?_;refine bQ ?_
 refine bK wp ww ?_;refine QL cin ?_;refine QW ?_
 refine bx hap ?_
 refine QT ?_;refine jd [2,3,4,13,16,17] rfl (fun c σ S' => ∃ (i:Nat) (B:List Int),i<=w/\c=w-i/\B=Ev.stT m p n i/\σ=[(2,vu addr),(3,vu off),(4,vu n),(13,vnat w),(16, .slice (lid S.nx 0) 0 m.length),(17,vnat i)]/\S'=St S [] [some (1,B.map vby)]) w ?_ ?_
 ·exact ⟨0,m,by omega,rfl,rfl,by simp [Fr.only,Fr.look,vu],by simp⟩
 ·rintro c σ T ⟨i,B,hi,rfl,hB,rfl,rfl⟩;have hBl:B.length=m.length:=by rw [hB,jce]
  by_cases hit:i<w
  ·have hwi:=jg hit (by omega);have hst:B.set (p+i) (IntKind.u8.wrap (n.fdiv (2^(8*i))))=Ev.stT m p n (i+1):=by rw [hB]; rfl
   have hpi:p+i<B.length:=by omega
   have hpm:(p:Int)+(i:Int)<(m.length:Int):=by omega
   have p0:(0:Int)<=(p:Int)+(i:Int):=by omega
   have tp:((p:Int)+(i:Int)).toNat=p+i:=by omega
   have wi':IntKind.u64.wrap (i:Int)=(i:Int):=bO;have wsum:IntKind.u64.wrap ((p:Int)+(i:Int))=(p:Int)+(i:Int):=bO;have w8i:IntKind.i64.wrap (8*(i:Int))=8*(i:Int):=wrap_i64 (by omega) (by omega);have t8i:(8*(i:Int)).toNat=8*i:=by omega
   have p8i:(0:Int)<=8*(i:Int):=by omega
   have hm8i:min (8*i) IntKind.u64.bits=8*i:=by rw [qQ]; omega
   have hset : ∀ x,(B.map vby).set (p+i) (.int .u8 x)=(B.set (p+i) x).map vby:=fun x=>by rw [List.map_set]; rfl
   refine bx hit ?_
   refine QY ?_ (r:=by conv=>lhs;simp[QV,wp,wi',wsum,w8i,t8i,p8i,hm8i,hpi,hpm,p0,tp,hset])
   refine bx hwi ?_
   rw [hst];show js _ _ _ _ _ _ _;exact again ⟨ao hit (aY i),i+1,_,hit,rfl,rfl,by simp [Fr.only,Fr.look],rfl⟩
  ·have hie:i=w:=by omega
   subst hie;rw [<-hB, <-hBl]
   refine bx hit ?_
   exact jf hwf ((Ghost.tuple [] [_] (frz1 (k:=0) (by simp) (by rfl) (jq vby (fun _=>rfl) _) (by simp))).toB _) rfl
end Go.Vw
namespace Ev
structure State where
 mem:List Int
 most:Int
 globals:List Int
 fuel:Int
 input:List Int
 log:List Int
def words (l:List Int):Prop:=l.length<=140737488355328 /\ ∀ x∈l,U64 x
def fitsL:List Int->List Int->Bool
 | [],[]=>true
 | t::ts,n::ns=>fits t n&&fitsL ts ns
 | _,_=>false
theorem fitsL_len : ∀ {l m:List Int},fitsL l m=true->l.length=m.length
 | [],[],_=>rfl
 | t::ts,n::ns,h=>by
  simp only [fitsL,af] at h;simp [fitsL_len h.2]
theorem fitsL_step {l m:List Int} {k:Nat} (h1:k<l.length) (h2:k<m.length):fitsL (l.drop k) (m.drop k)=(fits l[k] m[k]&&fitsL (l.drop (k+1)) (m.drop (k+1))):=by
 rw [am h1,am h2,fitsL]
theorem fitsL_end {l m:List Int} {k:Nat} (h1 : ¬ k<l.length) (h2 : ¬ k<m.length):fitsL (l.drop k) (m.drop k)=true:=by
 rw [aH.2 (by omega),aH.2 (by omega)]; rfl
end Ev
namespace Go.Vw
open Go.Proofs Go.RowKit
attribute [-simp] List.map_set
def qf (s:Ev.State):V := .agg [vl vby s.mem,vint s.most,vl vu s.globals,vint s.fuel,vl vu s.input,vl vu s.log]
theorem ZK (a b:List Int) (ha:a.length<2^62):bS 17 [vl vu a,vl vu b] (.bool (decide (a=b))):=by
 intro S;refine QB (c:=jc Tryz.f17) Tryz.func17 Tryz.ntmps17 fun hwf=>?_
 refine QY ?_
 by_cases hl:a.length=b.length
 ·have hlI:(a.length:Int)=(b.length:Int):=by omega
  refine bt hl hlI ?_
  refine QT ?_;refine jd [0,1,5] rfl (fun c σ S' => ∃ (k:Nat),k<=a.length/\c=a.length-k/\decide (a.drop k=b.drop k)=decide (a=b)/\σ=[(0,vl vu a),(1,vl vu b),(5,vnat k)]/\S'=St S [] []) a.length ?_ ?_
  ·exact ⟨0,by omega,rfl,rfl,by simp [Fr.only,Fr.look],by simp⟩
  ·rintro c σ T ⟨k,hk,rfl,hd,rfl,rfl⟩
   by_cases hkt:k<a.length
   ·have hw:=jg hkt (by omega);have hkb:k<b.length:=by omega
    rw [am hkt,am hkb] at hd;obtain ⟨x,hx⟩ : ∃ x,a[k]=x:=⟨_,rfl⟩
    obtain ⟨y,hy⟩ : ∃ y,b[k]=y:=⟨_,rfl⟩
    rw [hx,hy] at hd
    by_cases he:x=y
    ·have hd2:decide (a.drop (k+1)=b.drop (k+1))=decide (a=b):=by rw [<-hd,he]; simp
     refine bx hkt ?_
     refine QT ?_;refine QD (r:=by conv=>lhs;simp[QV,hkt,hkb,hx,hy,he]) (k:=?_);refine QN ?_
     refine bx hw ?_
     show js _ _ _ _ _ _ _;exact again ⟨ao hkt (aY k),k+1,hkt,rfl,hd2,by simp [Fr.only,Fr.look],rfl⟩
    ·have hd2:decide (a=b)=false:=by rw [<-hd]; simp [he]
     rw [hd2]
     refine bx hkt ?_
     refine QT ?_;refine QD (r:=by conv=>lhs;simp[QV,hkt,hkb,hx,hy,he]) (k:=?_);refine bR ?_
     exact bN
   ·have hd2:decide (a=b)=true:=by
     rw [<-hd,aH.2 (by omega),aH.2 (by omega)]; rfl
    rw [hd2]
    refine bx hkt ?_
    exact bN
 ·have hlI : ¬ (a.length:Int)=(b.length:Int):=by omega
  have hne:decide (a=b)=false:=decide_eq_false (fun e=>hl (by rw [e]));rw [hne]
  refine bt hl hlI ?_
  exact bN
theorem Ngiven_v (l a:List Int) (ha:l.length<2^62):bS 52 [vl vint l,vl vu a] (.bool (Ev.fitsL l a)):=by
 intro S;refine QB (c:=jc Tryz.f52) Tryz.func52 Tryz.ntmps52 fun hwf=>?_
 refine QY ?_
 by_cases hl:l.length=a.length
 ·have hlI:(l.length:Int)=(a.length:Int):=by omega
  refine bt hl hlI ?_
  refine QT ?_;refine jd [0,1,5] rfl (fun c σ S' => ∃ (k:Nat),k<=l.length/\c=l.length-k/\Ev.fitsL (l.drop k) (a.drop k)=Ev.fitsL l a/\σ=[(0,vl vint l),(1,vl vu a),(5,vnat k)]/\S'=St S [] []) l.length ?_ ?_
  ·exact ⟨0,by omega,rfl,rfl,by simp [Fr.only,Fr.look],by simp⟩
  ·rintro c σ T ⟨k,hk,rfl,hd,rfl,rfl⟩
   by_cases hkt:k<l.length
   ·have hw:=jg hkt (by omega);have hka:k<a.length:=by omega
    rw [Ev.fitsL_step hkt hka] at hd;have cf:=jbe l[k] a[k];have hfe:Ev.fits l[k] a[k]=(decide (l[k]=126)||(decide (l[k]=127)&&decide (a[k]<4294967296))):=rfl;rw [<-hfe] at cf;obtain ⟨b,hb⟩ : ∃ b,b=Ev.fits l[k] a[k]:=⟨_,rfl⟩
    rw [<-hb] at cf hd;obtain ⟨x,hx⟩ : ∃ x,l[k]=x:=⟨_,rfl⟩
    obtain ⟨y,hy⟩ : ∃ y,a[k]=y:=⟨_,rfl⟩
    rw [hx,hy] at cf
    cases b with
    | true =>
     rw [aE] at hd
     refine bx hkt ?_
     refine QT ?_;refine QD (r:=by conv=>lhs;simp[QV,hkt,hka,hx,hy]) (k:=?_);refine QL cf ?_;refine QW ?_
     refine bx hw ?_
     show js _ _ _ _ _ _ _;exact again ⟨ao hkt (aY k),k+1,hkt,rfl,hd,by simp [Fr.only,Fr.look],rfl⟩
    | false =>
     rw [aX] at hd;rw [<-hd]
     refine bx hkt ?_
     refine QT ?_;refine QD (r:=by conv=>lhs;simp[QV,hkt,hka,hx,hy]) (k:=?_);refine QL cf ?_;refine bQ ?_
     exact bN
   ·rw [Ev.fitsL_end hkt (by omega)] at hd;rw [<-hd]
    refine bx hkt ?_
    exact bN
 ·have hlI : ¬ (l.length:Int)=(a.length:Int):=by omega
  have hne:Ev.fitsL l a=false:=by
   cases h:Ev.fitsL l a with
   | false=>rfl
   | true=>exact absurd (Ev.fitsL_len h) hl
  rw [hne]
  refine bt hl hlI ?_
  exact bN
end Go.Vw
/-
 Functions in SSA form: how long their lists are.
-/
namespace Ss
def shortL (ls:List (List Int)):Bool:=ls.all fun l=>decide (l.length<=4096)
def Ins.small (x:Ins):Bool:=decide (x.args.length<=4096)&&decide (x.outs.length<=4096)
def Edge.small (x:Edge):Bool:=decide (x.args.length<=4096)
def Block.small (b:Block):Bool:=decide (b.params.length<=4096)&&decide (b.term.to.length<=4096)&&decide (b.term.args.length<=4096)&&b.code.all Ins.small&&b.term.to.all Edge.small
def smallFrom (n:Nat):List Block->Bool
 | []=>true
 | b::bs=>decide (n+b.code.length<=4096)&&b.small&&smallFrom (n+b.code.length) bs
def Fn.heads (f:Fn):Bool:=decide (f.types.length<=4096)&&decide (f.blocks.length<=4096)&&decide (f.sig.inn.length<=4096)&&decide (f.sig.out.length<=4096)
def Fn.small (f:Fn):Bool:=f.heads&&smallFrom 0 f.blocks
def count (bs:List Block):Nat:=(bs.map fun b=>b.code.length).sum
theorem WB : ∀ {bs:List Block} {n:Nat},smallFrom n bs=true->(∀ b∈bs,b.small=true)/\(n<=4096->n+count bs<=4096)
 | [],n,_=>⟨by simp,by simp [count]⟩
 | b::bs,n,h=>by
  simp only [smallFrom,af,aj] at h;obtain ⟨⟨h1,h2⟩,h3⟩:=h;obtain ⟨k1,k2⟩:=WB h3;refine ⟨fun x hx => ?_,fun _ => ?_⟩
  ·rcases aL.1 hx with rfl | hx
   ·exact h2
   ·exact k1 x hx
  ·have:=k2 h1;simp only [count,List.map_cons,List.sum_cons] at this ⊢;omega
theorem YT : ∀ {bs:List Block} {n:Nat},(∀ b∈bs,b.small=true)->n+count bs<=4096->smallFrom n bs=true
 | [],n,_,_=>rfl
 | b::bs,n,h,hn=>by
  simp only [count,List.map_cons,List.sum_cons] at hn;simp only [smallFrom,af,aj];exact ⟨⟨by omega,h b (by simp)⟩,YT (fun x hx=>h x (by simp [hx])) (by simp only [count]; omega)⟩
theorem small_iff (f:Fn):f.small=true↔f.heads=true/\(∀ b∈f.blocks,b.small=true)/\count f.blocks<=4096:=by
 simp only [Fn.small,af];constructor
 ·rintro ⟨h1,h2⟩;obtain ⟨k1,k2⟩:=WB h2;exact ⟨h1,k1,by simpa using k2 (by omega)⟩
 ·rintro ⟨h1,h2,h3⟩;exact ⟨h1,YT h2 (by simpa using h3)⟩
theorem drop_all {α:Type} (p:α->Bool) {l:List α} {k:Nat} (h:k<l.length):(l.drop k).all p=(p l[k]&&(l.drop (k+1)).all p):=by
 rw [am h,List.all_cons]
theorem drop_all_end {α:Type} (p:α->Bool) {l:List α} {k:Nat} (h : ¬ k<l.length):(l.drop k).all p=true:=by
 have:l.drop k=[]:=by rw [aH]; omega
 rw [this]; rfl
theorem drop_small {n:Nat} {l:List Block} {k:Nat} (h:k<l.length):smallFrom n (l.drop k)=(decide (n+l[k].code.length<=4096)&&l[k].small&&smallFrom (n+l[k].code.length) (l.drop (k+1))):=by
 rw [am h,smallFrom]
theorem drop_small_end {n:Nat} {l:List Block} {k:Nat} (h : ¬ k<l.length):smallFrom n (l.drop k)=true:=by
 have:l.drop k=[]:=by rw [aH]; omega
 rw [this]; rfl
end Ss
namespace Go.Vw
open Go.Proofs Go.RowKit
attribute [-simp] List.map_set
theorem RSmall_v (f:Ss.Fn) (hf:f.Fits):bS 33 [jI f] (.bool f.small):=by
 intro S;obtain ⟨⟨fi,fo⟩,ts,bs⟩:=f;obtain ⟨_,_,hbl0,hbf⟩:=hf;simp only at hbl0 hbf;have hbl:bs.length<2^63:=by omega
 refine QB (c:=jc Tryz.f33) Tryz.func33 Tryz.ntmps33 fun hwf=>?_
 by_cases h1:(4096:Int)<(ts.length:Int)
 ·refine bx h1 ?_
  exact ja hwf (by simp [Ss.Fn.small,Ss.Fn.heads]; omega) rfl
 by_cases h2:(4096:Int)<(bs.length:Int)
 ·refine bt h1 h2 ?_
  exact ja hwf (by simp [Ss.Fn.small,Ss.Fn.heads]; omega) rfl
 by_cases h3:(4096:Int)<(fi.length:Int)
 ·refine bv h1 h2 h3 ?_
  exact ja hwf (by simp [Ss.Fn.small,Ss.Fn.heads]; omega) rfl
 by_cases h4:(4096:Int)<(fo.length:Int)
 ·refine bD h1 h2 h3 h4 ?_
  exact ja hwf (by simp [Ss.Fn.small,Ss.Fn.heads]; omega) rfl
 have hh:Ss.Fn.small ⟨⟨fi,fo⟩,ts,bs⟩=Ss.smallFrom 0 bs:=by
  have:Ss.Fn.heads ⟨⟨fi,fo⟩,ts,bs⟩=true:=by simp [Ss.Fn.heads]; omega
  simp [Ss.Fn.small,this]
 rw [hh]
 refine bD h1 h2 h3 h4 ?_
 refine QT ?_;refine jd [1,3,4] rfl (fun c σ S' => ∃ (k n:Nat),k<=bs.length/\n<=4096/\c=bs.length-k/\Ss.smallFrom n (bs.drop k)=Ss.smallFrom 0 bs/\σ=[(1, .ptr (lid S.nx 0) 0),(3,vnat n),(4,vnat k)]/\S'=St S [] [some (4,[vl vint fi,vl vint fo,vl vint ts,vl je bs])]) bs.length ?_ ?_
 ·exact ⟨0,0,by omega,by omega,rfl,rfl,by simp [Fr.only],rfl⟩
 ·rintro c σ T ⟨k,n,hk,hn,rfl,hd,rfl,rfl⟩
  by_cases hkt:k<bs.length
  ·have hw:=jg hkt hbl;have hbk:=hbf _ (ah hkt);have hst:=Ss.drop_small (n:=n) hkt;obtain ⟨⟨ps,code,⟨tk,ta,to,az⟩⟩,hb⟩ : ∃ b,bs[k]=b:=⟨_,rfl⟩
   rw [hb] at hst hbk;obtain ⟨_,⟨hcl0,_⟩,_,_,⟨htl0,_⟩,_⟩:=hbk;simp only at hcl0 htl0;have hcl:code.length<2^63:=by omega
   have htl:to.length<2^63:=by omega
   have hwn:IntKind.i64.wrap ((n:Int)+(code.length:Int))=(n:Int)+(code.length:Int):=wrap_i64 (by omega) (by omega);have hS:Ss.Block.small ⟨ps,code,⟨tk,ta,to,az⟩⟩=(decide (ps.length<=4096)&&decide (to.length<=4096)&&decide (az.length<=4096)&&code.all Ss.Ins.small&&to.all Ss.Edge.small):=rfl
   by_cases g1:(4096:Int)<(n:Int)+(code.length:Int)
   ·have e:Ss.smallFrom n (bs.drop k)=false:=by rw [hst]; simp; omega
    rw [<-hd,e]
    refine bD hkt hb hwn g1 ?_
    exact bN
   by_cases g2:(4096:Int)<(ps.length:Int)
   ·have e:Ss.smallFrom n (bs.drop k)=false:=by rw [hst,hS]; simp; omega
    rw [<-hd,e]
    refine bJ hkt hb hwn g1 g2 ?_
    exact bN
   by_cases g3:(4096:Int)<(to.length:Int)
   ·have e:Ss.smallFrom n (bs.drop k)=false:=by rw [hst,hS]; simp; omega
    rw [<-hd,e]
    refine bz hkt hb hwn g1 g2 g3 ?_
    exact bN
   by_cases g4:(4096:Int)<(az.length:Int)
   ·have e:Ss.smallFrom n (bs.drop k)=false:=by rw [hst,hS]; simp; omega
    rw [<-hd,e]
    repeat first|refine QG ?_|refine QY ?_ (r:=by conv=>lhs;simp[QV,hkt,hb,hwn,g1,g2,g3,g4])
    exact bN
   rw [show decide (n+code.length<=4096)=true by simp; omega,hS,show decide (ps.length<=4096)=true by simp; omega,show decide (to.length<=4096)=true by simp; omega,show decide (az.length<=4096)=true by simp; omega,aE,aE,aE,aE] at hst
   repeat first|refine QG ?_|refine QY ?_ (r:=by conv=>lhs;simp[QV,hkt,hb,hwn,g1,g2,g3,g4])
   refine QT ?_;refine jd [1,3,4,5,6] rfl (fun c σ S' => ∃ (j:Nat),j<=code.length/\c=code.length-j/\(code.drop j).all Ss.Ins.small=code.all Ss.Ins.small/\σ=[(1, .ptr (lid S.nx 0) 0),(3,vnat (n+code.length)),(4,vnat k),(5, .ptr (lid S.nx 1) 0),(6,vnat j)]/\S'=St S [] [some (4,[vl vint fi,vl vint fo,vl vint ts,vl je bs]),some (6,[vl vint ps,vl jp code,vint tk,vint ta,vl jk to,vl vint az])]) code.length ?_ ?_
   ·exact ⟨0,by omega,rfl,rfl,by simp [Fr.only],rfl⟩
   ·rintro c σ T ⟨j,hj,rfl,hdj,rfl,rfl⟩
    by_cases hjt:j<code.length
    ·have hwj:=jg hjt hcl;have hstj:=Ss.drop_all Ss.Ins.small hjt;obtain ⟨⟨io,iN,ia,iu⟩,hx⟩ : ∃ b,code[j]=b:=⟨_,rfl⟩
     rw [hx] at hstj;have hX:Ss.Ins.small ⟨io,iN,ia,iu⟩=(decide (ia.length<=4096)&&decide (iu.length<=4096)):=rfl
     by_cases q1:(4096:Int)<(ia.length:Int)
     ·have e:code.all Ss.Ins.small=false:=by rw [<-hdj,hstj,hX]; simp; omega
      rw [<-hd,hst,e]
      refine bv hjt hx q1 ?_
      exact bN
     by_cases q2:(4096:Int)<(iu.length:Int)
     ·have e:code.all Ss.Ins.small=false:=by rw [<-hdj,hstj,hX]; simp; omega
      rw [<-hd,hst,e]
      refine bD hjt hx q1 q2 ?_
      exact bN
     rw [hX,show decide (ia.length<=4096)=true by simp; omega,show decide (iu.length<=4096)=true by simp; omega,aE,aE] at hstj
     refine bD hjt hx q1 q2 ?_
     show js _ _ _ _ _ _ _;exact again ⟨ao hjt (aY j),j+1,hjt,rfl,by rw [<-hdj,hstj],by simp [Fr.only,hwj],rfl⟩
    ·rw [Ss.drop_all_end _ hjt] at hdj;rw [<-hdj,aE] at hst
     refine bx hjt ?_
     refine QT ?_;refine jd [1,3,4,5,7] rfl (fun c σ S' => ∃ (j:Nat),j<=to.length/\c=to.length-j/\(to.drop j).all Ss.Edge.small=to.all Ss.Edge.small/\σ=[(1, .ptr (lid S.nx 0) 0),(3,vnat (n+code.length)),(4,vnat k),(5, .ptr (lid S.nx 1) 0),(7,vnat j)]/\S'=St S [] [some (4,[vl vint fi,vl vint fo,vl vint ts,vl je bs]),some (6,[vl vint ps,vl jp code,vint tk,vint ta,vl jk to,vl vint az])]) to.length ?_ ?_
     ·exact ⟨0,by omega,rfl,rfl,by simp [Fr.only],rfl⟩
     ·rintro c σ T ⟨j,hj,rfl,hdj,rfl,rfl⟩
      by_cases hjt:j<to.length
      ·have hwj:=jg hjt htl;have hstj:=Ss.drop_all Ss.Edge.small hjt;obtain ⟨⟨io,ia⟩,hx⟩ : ∃ b,to[j]=b:=⟨_,rfl⟩
       rw [hx] at hstj;have hX:Ss.Edge.small ⟨io,ia⟩=decide (ia.length<=4096):=rfl
       by_cases q1:(4096:Int)<(ia.length:Int)
       ·have e:to.all Ss.Edge.small=false:=by rw [<-hdj,hstj,hX]; simp; omega
        rw [<-hd,hst,e]
        refine bv hjt hx q1 ?_
        exact bN
       rw [hX,show decide (ia.length<=4096)=true by simp; omega,aE] at hstj
       refine bv hjt hx q1 ?_
       show js _ _ _ _ _ _ _;exact again ⟨ao hjt (aY j),j+1,hjt,rfl,by rw [<-hdj,hstj],by simp [Fr.only,hwj],rfl⟩
      ·rw [Ss.drop_all_end _ hjt] at hdj;rw [<-hdj,aE] at hst
       refine bt hjt hw ?_
       refine QA [0] (h:=⟨?_,k+1,n+code.length,hkt,by omega,rfl,by rw [<-hd,hst],by simp,rfl⟩);omega
  ·rw [Ss.drop_small_end hkt] at hd;rw [<-hd]
   refine bx hkt ?_
   exact bN
theorem short1_v (l:List Int):bS 117 ([vl vint l]++[]) (.bool (decide (4096<l.length))):=by
 intro S;refine QB (c:=jc Tryz.f117) Tryz.func117 Tryz.ntmps117 fun hwf=>?_
 refine bw ?_
 exact ja hwf (by simp; omega) rfl
theorem jcg (ls:List (List Int)) (hl:ls.length<2^63):bS 93 [vl (vl vint) ls] (.bool (Ss.shortL ls)):=by
 intro S;have e:(!ls.any fun l=>decide (4096<l.length))=Ss.shortL ls:=by
  rw [Ss.shortL,List.not_any_eq_all_not]
  congr 1; funext l; by_cases h:l.length<=4096<;>simp [h]<;>omega
 rw [<-e];refine QB (c:=jc Tryz.f93) Tryz.func93 Tryz.ntmps93 fun hwf=>?_
 refine bw ?_
 refine QP ?_;refine jb rfl (AnyL_v ls (fun l=>decide (4096<l.length)) _ [] rfl hl (fun l _=>short1_v l)) ?_;refine bQ ?_
 exact bN
theorem shortL_1 (a:List Int):Ss.shortL [a]=decide (a.length<=4096):=by simp [Ss.shortL]
theorem Zw (a b:List Int):Ss.shortL [a,b]=(decide (a.length<=4096)&&decide (b.length<=4096)):=by simp [Ss.shortL]
theorem shortL_3 (a b c:List Int):Ss.shortL [a,b,c]=(decide (a.length<=4096)&&decide (b.length<=4096)&&decide (c.length<=4096)):=by simp [Ss.shortL,Bool.and_assoc]
theorem small_v (f:Ss.Fn) (hf:f.Fits):bS 58 [jI f] (.bool f.small):=by
 intro S;obtain ⟨⟨fi,fo⟩,ts,bs⟩:=f;obtain ⟨_,_,hbl0,hbf⟩:=hf;simp only at hbl0 hbf;have hbl:bs.length<2^63:=by omega
 refine QB (c:=jc Tryz.f58) Tryz.func58 Tryz.ntmps58 fun hwf=>?_
 refine bw ?_
 refine QP ?_;refine qU (xs':=[vl (vl vint) [ts,fi,fo]]) rfl (GhostArgs.one [] [] (frz1 (k:=1) (len:=3) (by simp) rfl rfl rfl)) (jcg _ (by simp)) ?_;simp only [aq,au]
 cases h1:Ss.shortL [ts,fi,fo] with
 | false =>
  refine bB h1 ?_;refine bR ?_
  refine ja hwf ?_ rfl;rw [shortL_3] at h1;simp [Ss.Fn.small,Ss.Fn.heads] at h1 ⊢;omega
 | true =>
 by_cases h2:(4096:Int)<(bs.length:Int)
 ·refine bF h1 h2 ?_;refine bR ?_
  exact ja hwf (by simp [Ss.Fn.small,Ss.Fn.heads]; omega) rfl
 have hh:Ss.Fn.small ⟨⟨fi,fo⟩,ts,bs⟩=Ss.smallFrom 0 bs:=by
  have:Ss.Fn.heads ⟨⟨fi,fo⟩,ts,bs⟩=true:=by rw [shortL_3] at h1; simp [Ss.Fn.heads] at h1 ⊢; omega
  simp [Ss.Fn.small,this]
 rw [hh];refine bF h1 h2 ?_;refine bR ?_
 refine QO [3,28,29,30] ?_;refine QK [0] ?_;refine QT ?_;refine jd [3,28,29,30] rfl (fun c σ S' => ∃ (k n:Nat),k<=bs.length/\n<=4096/\c=bs.length-k/\Ss.smallFrom n (bs.drop k)=Ss.smallFrom 0 bs/\σ=[(3,vint (4096-(n:Int))),(28,vl je bs),(29,vnat bs.length),(30,vnat k)]/\S'=St S [] [some (4,[vl vint fi,vl vint fo,vl vint ts,vl je bs])]) bs.length ?_ ?_
 ·exact ⟨0,0,by omega,by omega,rfl,rfl,by simp [Fr.only],rfl⟩
 ·rintro c σ T ⟨k,n,hk,hn,rfl,hd,rfl,rfl⟩
  by_cases hkt:k<bs.length
  ·have hw:=jg hkt hbl;have hbk:=hbf _ (ah hkt);have hst:=Ss.drop_small (n:=n) hkt;obtain ⟨⟨ps,code,⟨tk,ta,to,az⟩⟩,hb⟩ : ∃ b,bs[k]=b:=⟨_,rfl⟩
   rw [hb] at hst hbk;obtain ⟨_,⟨hcl0,_⟩,_,_,⟨htl0,_⟩,_⟩:=hbk;simp only at hcl0 htl0;have hcl:code.length<2^63:=by omega
   have htl:to.length<2^63:=by omega
   have hwn:IntKind.i64.wrap (4096-(n:Int)-(code.length:Int))=4096-(n:Int)-(code.length:Int):=wrap_i64 (by omega) (by omega);have hS:Ss.Block.small ⟨ps,code,⟨tk,ta,to,az⟩⟩=(decide (ps.length<=4096)&&decide (to.length<=4096)&&decide (az.length<=4096)&&code.all Ss.Ins.small&&to.all Ss.Edge.small):=rfl
   by_cases g1:4096-(n:Int)-(code.length:Int)<0
   ·have e:Ss.smallFrom n (bs.drop k)=false:=by rw [hst]; simp; omega
    rw [<-hd,e]
    refine bD hkt hb hwn g1 ?_
    exact bN
   refine bD hkt hb hwn g1 ?_
   refine QP ?_ (r:=by conv=>lhs;simp[QV,hkt,hb,hwn,g1]);refine qU (xs':=[vl (vl vint) [ps,az]]) rfl (GhostArgs.one [] [] (frz1 (k:=2) (len:=2) (by simp) rfl rfl rfl)) (jcg _ (by simp)) ?_;simp only [aq,au]
   cases g2:Ss.shortL [ps,az] with
   | false =>
    have e:Ss.smallFrom n (bs.drop k)=false:=by rw [Zw] at g2; rw [hst,hS]; simp at g2 ⊢; omega
    rw [<-hd,e];refine bB g2 ?_;refine bR ?_
    exact bN
   | true =>
   by_cases g3:(4096:Int)<(to.length:Int)
   ·have e:Ss.smallFrom n (bs.drop k)=false:=by rw [hst,hS]; simp; omega
    rw [<-hd,e];refine bF g2 g3 ?_;refine bR ?_
    exact bN
   rw [Zw] at g2;have g2':ps.length<=4096/\az.length<=4096:=by simpa using g2
   rw [show decide (n+code.length<=4096)=true by simp; omega,hS,show decide (ps.length<=4096)=true by simp; omega,show decide (to.length<=4096)=true by simp; omega,show decide (az.length<=4096)=true by simp; omega,aE,aE,aE,aE] at hst;rw [<-Zw] at g2;refine bF g2 g3 ?_;refine bR ?_
   refine QO [3,5,28,29,30,59,60,61] ?_;refine QK [0,1] ?_;refine QT ?_;refine jd [3,5,28,29,30,59,60,61] rfl (fun c σ S' => ∃ (j:Nat),j<=code.length/\c=code.length-j/\(code.drop j).all Ss.Ins.small=code.all Ss.Ins.small/\σ=[(3,vint (4096-(n:Int)-(code.length:Int))),(5, .ptr (lid S.nx 1) 0),(28,vl je bs),(29,vnat bs.length),(30,vnat k),(59,vl jp code),(60,vnat code.length),(61,vnat j)]/\S'=St S [] [some (4,[vl vint fi,vl vint fo,vl vint ts,vl je bs]),some (6,[vl vint ps,vl jp code, .int .i64 tk, .int .i64 ta,vl jk to,vl vint az])]) code.length ?_ ?_
   ·exact ⟨0,by omega,rfl,rfl,by simp [Fr.only],rfl⟩
   ·rintro c σ T ⟨j,hj,rfl,hdj,rfl,rfl⟩
    by_cases hjt:j<code.length
    ·have hwj:=jg hjt hcl;have hstj:=Ss.drop_all Ss.Ins.small hjt;obtain ⟨⟨io,iN,ia,iu⟩,hx⟩ : ∃ b,code[j]=b:=⟨_,rfl⟩
     rw [hx] at hstj;have hX:Ss.Ins.small ⟨io,iN,ia,iu⟩=Ss.shortL [ia,iu]:=(Zw _ _).symm;rw [hX] at hstj
     refine bt hjt hx ?_
     refine bK hjt hx ?_;refine qU (xs':=[vl (vl vint) [ia,iu]]) rfl (GhostArgs.one [] [] (frz1 (k:=3) (len:=2) (by simp) rfl rfl rfl)) (jcg _ (by simp)) ?_;simp only [aq,au]
     cases q1:Ss.shortL [ia,iu] with
     | false =>
      rw [q1,aX] at hstj;have e:code.all Ss.Ins.small=false:=by rw [<-hdj,hstj]
      rw [<-hd,hst,e];refine bB q1 ?_;refine bR ?_
      exact bN
     | true =>
      rw [q1,aE] at hstj;refine bB q1 ?_;refine bR ?_
      refine QA [0,1] (h:=⟨?_,j+1,hjt,rfl,by rw [<-hdj,hstj],by simp [hwj],rfl⟩);omega
    ·rw [Ss.drop_all_end _ hjt] at hdj;rw [<-hdj,aE] at hst
     refine bx hjt ?_
     refine QT ?_;refine jd [3,28,29,30,75,76,77] rfl (fun c σ S' => ∃ (j:Nat),j<=to.length/\c=to.length-j/\(to.drop j).all Ss.Edge.small=to.all Ss.Edge.small/\σ=[(3,vint (4096-(n:Int)-(code.length:Int))),(28,vl je bs),(29,vnat bs.length),(30,vnat k),(75,vl jk to),(76,vnat to.length),(77,vnat j)]/\S'=St S [] [some (4,[vl vint fi,vl vint fo,vl vint ts,vl je bs]),some (6,[vl vint ps,vl jp code, .int .i64 tk, .int .i64 ta,vl jk to,vl vint az])]) to.length ?_ ?_
     ·exact ⟨0,by omega,rfl,rfl,by simp [Fr.only],rfl⟩
     ·rintro c σ T ⟨j,hj,rfl,hdj,rfl,rfl⟩
      by_cases hjt:j<to.length
      ·have hwj:=jg hjt htl;have hstj:=Ss.drop_all Ss.Edge.small hjt;obtain ⟨⟨io,ia⟩,hx⟩ : ∃ b,to[j]=b:=⟨_,rfl⟩
       rw [hx] at hstj;have hX:Ss.Edge.small ⟨io,ia⟩=Ss.shortL [ia]:=(shortL_1 _).symm;rw [hX] at hstj
       refine bt hjt hx ?_
       refine bK hjt hx ?_;refine qU (xs':=[vl (vl vint) [ia]]) rfl (GhostArgs.one [] [] (frz1 (k:=3) (len:=1) (by simp) rfl rfl rfl)) (jcg _ (by simp)) ?_;simp only [aq,au]
       cases q1:Ss.shortL [ia] with
       | false =>
        rw [q1,aX] at hstj;have e:to.all Ss.Edge.small=false:=by rw [<-hdj,hstj]
        rw [<-hd,hst,e];refine bB q1 ?_;refine bR ?_
        exact bN
       | true =>
        rw [q1,aE] at hstj;refine bB q1 ?_;refine bR ?_
        refine QA [0,1] (h:=⟨?_,j+1,hjt,rfl,by rw [<-hdj,hstj],by simp [hwj],rfl⟩);omega
      ·rw [Ss.drop_all_end _ hjt] at hdj;rw [<-hdj] at hst
       refine bt hjt hw ?_
       refine QA [0] (h:=⟨?_,k+1,n+code.length,hkt,by omega,rfl,by rw [<-hd,hst,aE],by simp; omega,rfl⟩);omega
  ·rw [Ss.drop_small_end hkt] at hd;rw [<-hd]
   refine bx hkt ?_
   exact bN
end Go.Vw
