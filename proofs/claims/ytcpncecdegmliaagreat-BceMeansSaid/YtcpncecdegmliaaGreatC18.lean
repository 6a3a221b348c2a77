import Derived.Test.YtcpncecdegmliaaGreatC17
/- Part of the proof. -/
set_option linter.unusedVariables false
set_option linter.unusedSimpArgs false
set_option maxRecDepth 10000
set_option maxHeartbeats 8000000
namespace Ev
def ldT (m:List Int) (p:Nat):Nat→Int
 | 0=>0
 | k+1=>orI (ldT m p k) (Go.IntKind.u64.wrap (m.getD (p+k) 0*2^(8*k)))
def sxT (s:Nat) (n:Int):Nat→Int
 | 0=>n
 | k+1=>orI (sxT s n k) (Go.IntKind.u64.wrap (2^(s+k)))
end Ev
namespace Go.Vw
open Go.Proofs Go.RowKit
attribute [-simp] List.map_set
theorem orI_in (x y:Int):Ev.U64 (Ev.orI x y):=wrap_u64_in _
theorem Mload_v (m:List Int) (op addr off:Int) (hm:byteL m) (ha:Ev.U64 addr) (ho:Ev.U64 off) : ∃ n e:Int,VPure Tryz.prog 128 [vl vby m,vint op,vu addr,vu off] (.tuple [vu n,vint e])∧Ev.U64 n∧(((Ss.accOf op).getD ⟨0,0,false,false⟩).kind=127→n<4294967296):=by
 have ca:=WE op;obtain ⟨acc,hac⟩ : ∃ x,x=(Ss.accOf op).getD ⟨0,0,false,false⟩:=⟨_,rfl⟩
 have hwid:(Ss.accOf op).isSome=true→acc.width=1∨acc.width=2∨acc.width=4∨acc.width=8:=by
  intro h;obtain ⟨v,hv⟩:=Option.isSome_iff_exists.1 h;rw [hv,Option.getD_some] at hac;subst hac;have hm2 : ∀ (L:List (Int × Ss.Acc)),Ss.findK op L=some acc → ∃ q∈L,q.2=acc:=by
   intro L
   induction L with
   | nil=>intro h; cases h
   | cons q L ih =>
    intro h;obtain ⟨k,v⟩:=q;simp only [Ss.findK] at h;split at h
    ·cases h; exact ⟨(k,acc),by simp,rfl⟩
    ·obtain ⟨q,h1,h2⟩:=ih h;exact ⟨q,by simp [h1],h2⟩
  obtain ⟨q,h1,rfl⟩:=hm2 _ hv;have hall : ∀ q∈Ss.accL,q.2.width=1∨q.2.width=2∨q.2.width=4∨q.2.width=8:=by decide
  exact hall q h1
 rw [←hac] at ca ⊢;obtain ⟨ki,wi,st,sg⟩:=acc;simp only at ca hwid;generalize (Ss.accOf op).isSome=ok at *
 cases ok with
 | false =>
  refine ⟨0,1,fun S => ?_,⟨by omega,by omega⟩,fun _=>by omega⟩;refine QB (c:=jc Tryz.f128) Tryz.func128 Tryz.ntmps128 fun hwf=>?_
  refine QT ?_;refine QY ?_;refine QT ?_;refine QP ?_;refine jb rfl (ca) ?_;refine QW ?_
  repeat first|refine QG ?_|refine QY ?_
  exact ja hwf rfl rfl
 | true =>
 cases st with
 | true =>
  refine ⟨0,1,fun S => ?_,⟨by omega,by omega⟩,fun _=>by omega⟩;refine QB (c:=jc Tryz.f128) Tryz.func128 Tryz.ntmps128 fun hwf=>?_
  refine QT ?_;refine QY ?_;refine QT ?_;refine QP ?_;refine jb rfl (ca) ?_;refine QW ?_
  repeat first|refine QG ?_|refine QY ?_
  exact ja hwf rfl rfl
 | false =>
 by_cases h1:4294967295<addr
 ·refine ⟨0,1,fun S => ?_,⟨by omega,by omega⟩,fun _=>by omega⟩;refine QB (c:=jc Tryz.f128) Tryz.func128 Tryz.ntmps128 fun hwf=>?_
  refine QT ?_;refine QY ?_;refine QT ?_;refine QP ?_;refine jb rfl (ca) ?_;refine QW ?_
  repeat first|refine QG ?_|refine QY ?_ (r:=by conv=>lhs;simp[QV,h1])
  exact ja hwf rfl rfl
 by_cases h2:4294967295<off
 ·refine ⟨0,1,fun S => ?_,⟨by omega,by omega⟩,fun _=>by omega⟩;refine QB (c:=jc Tryz.f128) Tryz.func128 Tryz.ntmps128 fun hwf=>?_
  refine QT ?_;refine QY ?_;refine QT ?_;refine QP ?_;refine jb rfl (ca) ?_;refine QW ?_
  repeat first|refine QG ?_|refine QY ?_ (r:=by conv=>lhs;simp[QV,h1,h2])
  exact ja hwf rfl rfl
 obtain ⟨a0,a1⟩:=ha;obtain ⟨o0,o1⟩:=ho;have hw:=hwid rfl;obtain ⟨w,rfl⟩ : ∃ w:Nat,wi=(w:Int):=⟨wi.toNat,by omega⟩
 obtain ⟨p,hp⟩ : ∃ p:Nat,addr+off=(p:Int):=⟨(addr+off).toNat,by omega⟩
 have wp:IntKind.u64.wrap (addr+off)=(p:Int):=by rw [jr (by omega) (by omega)]; exact hp
 have ww:IntKind.u64.wrap (w:Int)=(w:Int):=jr (by omega) (by omega);have cin:=jaE m (p:Int) (w:Int) hm (by omega) (by omega)
 cases hin:Ev.insideI m.length (p:Int) (w:Int) with
 | false =>
  rw [hin] at cin;refine ⟨0,35,fun S => ?_,⟨by omega,by omega⟩,fun _=>by omega⟩;refine QB (c:=jc Tryz.f128) Tryz.func128 Tryz.ntmps128 fun hwf=>?_
  refine QT ?_;refine QY ?_;refine QT ?_;refine QP ?_;refine jb rfl (ca) ?_;refine QW ?_
  repeat first|refine QG ?_|refine QY ?_ (r:=by conv=>lhs;simp[QV,h1,h2])
  refine QT ?_;refine QP ?_ (r:=by conv=>lhs;simp[QV,wp,ww]);refine jb rfl (cin) ?_;refine QW ?_
  repeat first|refine QG ?_|refine QY ?_
  exact ja hwf rfl rfl
 | true =>
 rw [hin] at cin;have hml:=hm.1;have hpw:p+w≤m.length:=by
  simp only [Ev.insideI,Bool.and_eq_true,decide_eq_true_eq] at hin;omega
 have cs:=Msigned_v op;obtain ⟨sb,hsb⟩ : ∃ b,b=sgnO op:=⟨_,rfl⟩
 rw [←hsb] at cs;obtain ⟨D,hD⟩ : ∃ D,D=Ev.ldT m p w:=⟨_,rfl⟩
 have hDu : ∀ k,Ev.U64 (Ev.ldT m p k):=fun k=>by
  cases k with
  | zero=>exact ⟨by simp [Ev.ldT],by simp [Ev.ldT]⟩
  | succ k=>exact orI_in _ _
 obtain ⟨n1,hn1⟩ : ∃ x,x=if sb=true∧IntKind.u64.wrap (((D.fdiv (2^(8*w-1)) % 2^IntKind.u64.bits).toNat &&& 1 % 2^IntKind.u64.bits:Nat):Int)=1 then Ev.sxT (8*w) D (64-8*w) else D:=⟨_,rfl⟩
 have hn1u:Ev.U64 n1:=by
  rw [hn1];split
  ·cases hk:64-8*w with
   | zero=>rw [Ev.sxT,hD]; exact hDu w
   | succ k=>exact orI_in _ _
  ·rw [hD]; exact hDu w
 obtain ⟨n2,hn2⟩ : ∃ x,x=if ki=127 then IntKind.u64.wrap (((n1 % 2^IntKind.u64.bits).toNat &&& 4294967295 % 2^IntKind.u64.bits:Nat):Int) else n1:=⟨_,rfl⟩
 have hn2u:Ev.U64 n2:=by
  rw [hn2];split
  ·exact wrap_u64_in _
  ·exact hn1u
 refine ⟨n2,0,fun S => ?_,hn2u,fun hk => ?_⟩
 rotate_left
 ·have hk:ki=127:=hk;rw [hn2,if_pos hk];have hle:((n1 % 2^IntKind.u64.bits).toNat &&& 4294967295 % 2^IntKind.u64.bits:Nat)<4294967296:=by
   have:(4294967295 % 2^IntKind.u64.bits:Nat)=4294967295:=by decide
   rw [this];exact Nat.lt_of_le_of_lt Nat.and_le_right (by omega)
  rw [jr (by omega) (by omega)];omega
 have w8:IntKind.i64.wrap (8*(w:Int))=8*(w:Int):=wrap_i64 (by omega) (by omega);have w81:IntKind.i64.wrap (8*(w:Int)-1)=8*(w:Int)-1:=wrap_i64 (by omega) (by omega);have t81:(8*(w:Int)-1).toNat=8*w-1:=by omega
 have p81:(1:Int)≤8*(w:Int):=by omega
 have hm8:min (8*w-1) IntKind.u64.bits=8*w-1:=by rw [qK]; omega
 refine QB (c:=jc Tryz.f128) Tryz.func128 Tryz.ntmps128 fun hwf=>?_
 refine QT ?_;refine QY ?_;refine QT ?_;refine QP ?_;refine jb rfl (ca) ?_;refine QW ?_
 repeat first|refine QG ?_|refine QY ?_ (r:=by conv=>lhs;simp[QV,h1,h2])
 refine QT ?_;refine QP ?_ (r:=by conv=>lhs;simp[QV,wp,ww]);refine jb rfl (cin) ?_;refine QW ?_
 repeat first|refine QG ?_|refine QY ?_
 refine QT ?_;refine jd [0,1,2,3,10,11,14,15] rfl (fun c σ S' => ∃ (i:Nat),i≤w∧c=w-i∧σ=[(0,vl vby m),(1,vint op),(2,vu addr),(3,vu off),(10,vint ki),(11,vnat w),(14,vu (Ev.ldT m p i)),(15,vnat i)]∧S'=St S [] []) w ?_ ?_
 ·exact ⟨0,by omega,rfl,by simp [Fr.only,Fr.look,vu,Ev.ldT],by simp⟩
 ·rintro c σ T ⟨i,hi,rfl,rfl,rfl⟩
  by_cases hit:i<w
  ·have hwi:=jh hit (by omega);have hpi:p+i<m.length:=by omega
   have hx:=hm.2 _ (List.getElem_mem hpi);have hst:Ev.ldT m p (i+1)=Ev.orI (Ev.ldT m p i) (IntKind.u64.wrap (m.getD (p+i) 0*2^(8*i))):=rfl;rw [List.getD_eq_getElem?_getD,List.getElem?_eq_getElem hpi,Option.getD_some] at hst;have hidx : ∀ S',jD 1 S' (vl vby m) (.int .u64 ((p+i:Nat):Int))=some (.ref (vby m[p+i])):=fun S'=>zC (S:=S') (enc:=vby) (l:=m) (k := .u64) (i:=p+i) (x:=m[p+i]) (s:=1) rfl (List.getElem?_eq_getElem hpi)
   generalize m[p+i]=x at *
   have hid2 : ∀ S',jD 1 S' (vl vby m) (.int .u64 ((p:Int)+(i:Int)))=some (.ref (.int .u8 x)):=hidx
   have wi':IntKind.u64.wrap (i:Int)=(i:Int):=jr (by omega) (by omega);have wsum:IntKind.u64.wrap ((p:Int)+(i:Int))=(p:Int)+(i:Int):=jr (by omega) (by omega);have wx:IntKind.u64.wrap x=x:=jr (by omega) (by omega);have w8i:IntKind.i64.wrap (8*(i:Int))=8*(i:Int):=wrap_i64 (by omega) (by omega);have t8i:(8*(i:Int)).toNat=8*i:=by omega
   have p8i:(0:Int)≤8*(i:Int):=by omega
   have hm8i:min (8*i) IntKind.u64.bits=8*i:=by rw [qK]; omega
   repeat first|refine QG ?_|refine QY ?_ (r:=by conv=>lhs;simp[QV,hit])
   refine QT ?_;refine QY ?_ (r:=by conv=>lhs;simp[QV,wp,wi',wsum,hid2,wx,w8i,t8i,p8i,hm8i])
   repeat first|refine QG ?_|refine QY ?_ (r:=by conv=>lhs;simp[QV,hwi])
   show jy _ _ _ _ _ _ _;exact again ⟨Nat.sub_lt_sub_left hit (Nat.lt_succ_self i),i+1,hit,rfl,by simp [Fr.only,Fr.look,vu,hst,Ev.orI],rfl⟩
  ·have hie:i=w:=by omega
   subst hie;rw [←hD]
   repeat first|refine QG ?_|refine QY ?_ (r:=by conv=>lhs;simp[QV,hit])
   refine QT ?_;refine QP ?_;refine jb rfl (cs) ?_
   cases sb with
   | false =>
    rw [if_neg (by simp)] at hn1;refine QW ?_
    by_cases hki:ki=127
    ·have q:(ki=127)=True:=eq_true hki;rw [if_pos hki] at hn2;rw [hn2,hn1]
     repeat first|refine QG ?_|refine QY ?_ (r:=by conv=>lhs;simp[QV,q])
     exact ja hwf rfl rfl
    ·rw [if_neg hki] at hn2;rw [hn2,hn1]
     repeat first|refine QG ?_|refine QY ?_ (r:=by conv=>lhs;simp[QV,hki])
     exact ja hwf rfl rfl
   | true =>
    by_cases hb:IntKind.u64.wrap (((D.fdiv (2^(8*i-1)) % 2^IntKind.u64.bits).toNat &&& 1 % 2^IntKind.u64.bits:Nat):Int)=1
    ·rw [if_pos ⟨rfl,hb⟩] at hn1;refine QM (by conv=>lhs;simp[QV,w8,w81,t81,p81,hm8,hb]) ?_;refine QN ?_
     repeat first|refine QG ?_|refine QY ?_ (r:=by conv=>lhs;simp[QV,w8])
     refine QT ?_;refine jd [10,14,16] rfl (fun c σ S' => ∃ (k:Nat),k≤64-8*i∧c=64-8*i-k∧σ=[(10,vint ki),(14,vu (Ev.sxT (8*i) D k)),(16,vint (8*(i:Int)+(k:Int)))]∧S'=St S [] []) (64-8*i) ?_ ?_
     ·exact ⟨0,by omega,rfl,by simp [Fr.only,Fr.look,vu,Ev.sxT],by simp⟩
     ·rintro c σ T ⟨k,hk,rfl,rfl,rfl⟩
      by_cases hkt:k<64-8*i
      ·have hkI:8*(i:Int)+(k:Int)<64:=by omega
       have wk:IntKind.i64.wrap (8*(i:Int)+(k:Int)+1)=8*(i:Int)+(k:Int)+1:=wrap_i64 (by omega) (by omega);have tk:(8*(i:Int)+(k:Int)).toNat=8*i+k:=by omega
       have pk:(0:Int)≤8*(i:Int)+(k:Int):=by omega
       have mk:min (8*i+k) IntKind.u64.bits=8*i+k:=by rw [qK]; omega
       have hst:Ev.sxT (8*i) D (k+1)=Ev.orI (Ev.sxT (8*i) D k) (IntKind.u64.wrap (2^(8*i+k))):=rfl;have e1:8*(i:Int)+((k+1:Nat):Int)=8*(i:Int)+(k:Int)+1:=by omega
       repeat first|refine QG ?_|refine QY ?_ (r:=by conv=>lhs;simp[QV,hkI])
       refine QT ?_;refine QY ?_ (r:=by conv=>lhs;simp[QV,tk,pk,mk])
       repeat first|refine QG ?_|refine QY ?_ (r:=by conv=>lhs;simp[QV,wk])
       show jy _ _ _ _ _ _ _;exact again ⟨Nat.sub_lt_sub_left hkt (Nat.lt_succ_self k),k+1,hkt,rfl,by rw [hst,e1]; simp [Fr.only,Fr.look,vu,Ev.orI],rfl⟩
      ·have hke:k=64-8*i:=by omega
       subst hke;have hkI : ¬ 8*(i:Int)+((64-8*i:Nat):Int)<64:=by omega
       generalize ((64-8*i:Nat):Int)=kz at hkI ⊢;have hkF:(8*(i:Int)+kz<64)=False:=eq_false hkI
       by_cases hki:ki=127
       ·have q:(ki=127)=True:=eq_true hki;rw [if_pos hki] at hn2;rw [hn2,hn1]
        repeat first|refine QG ?_|refine QY ?_ (r:=by conv=>lhs;simp[QV,hkF,q])
        exact ja hwf rfl rfl
       ·rw [if_neg hki] at hn2;rw [hn2,hn1]
        repeat first|refine QG ?_|refine QY ?_ (r:=by conv=>lhs;simp[QV,hkF,hki])
        exact ja hwf rfl rfl
    ·rw [if_neg (fun h=>hb h.2)] at hn1;refine QM (by conv=>lhs;simp[QV,w8,w81,t81,p81,hm8,hb]) ?_;refine QN ?_
     by_cases hki:ki=127
     ·have q:(ki=127)=True:=eq_true hki;rw [if_pos hki] at hn2;rw [hn2,hn1]
      repeat first|refine QG ?_|refine QY ?_ (r:=by conv=>lhs;simp[QV,q])
      exact ja hwf rfl rfl
     ·rw [if_neg hki] at hn2;rw [hn2,hn1]
      repeat first|refine QG ?_|refine QY ?_ (r:=by conv=>lhs;simp[QV,hki])
      exact ja hwf rfl rfl
end Go.Vw
namespace Ev
def stT (m:List Int) (p:Nat) (n:Int):Nat→List Int
 | 0=>m
 | k+1=>(stT m p n k).set (p+k) (Go.IntKind.u8.wrap (n.fdiv (2^(8*k))))
end Ev
namespace Go.Vw
open Go.Proofs Go.RowKit
attribute [-simp] List.map_set
theorem wrap_u8_in (n:Int):0≤IntKind.u8.wrap n∧IntKind.u8.wrap n<256:=by
 have e:IntKind.u8.wrap n=n % 256:=by simp [IntKind.wrap,IntKind.bits,IntKind.signed]
 rw [e];exact ⟨Int.emod_nonneg _ (by decide),Int.emod_lt_of_pos _ (by decide)⟩
theorem jbG (m:List Int) (p:Nat) (n:Int) : ∀ k,(Ev.stT m p n k).length=m.length
 | 0=>rfl
 | k+1=>by rw [Ev.stT,List.length_set]; exact jbG m p n k
theorem stT_in {m:List Int} (h:byteL m) (p:Nat) (n:Int) : ∀ k,byteL (Ev.stT m p n k)
 | 0=>h
 | k+1=>by
  refine ⟨by rw [jbG]; exact h.1,fun x hx => ?_⟩;rcases List.mem_or_eq_of_mem_set hx with h1 | rfl
  ·exact (stT_in h p n k).2 x h1
  ·exact wrap_u8_in _
theorem jbF (m:List Int):(m.map vby).flatMap V.cells=m.map vby:=by
 induction m with
 | nil=>rfl
 | cons x m ih=>simp only [List.map_cons,List.flatMap_cons,ih]; rfl
theorem Mstore_v (m:List Int) (op addr off n:Int) (hm:byteL m) (ha:Ev.U64 addr) (ho:Ev.U64 off) (hn:Ev.U64 n) : ∃ (m':List Int) (e:Int),VPure Tryz.prog 127 [vl vby m,vint op,vu addr,vu off,vu n] (.tuple [vl vby m',vint e])∧byteL m'∧(e=0→m'.length=m.length):=by
 have ca:=WE op;obtain ⟨acc,hac⟩ : ∃ x,x=(Ss.accOf op).getD ⟨0,0,false,false⟩:=⟨_,rfl⟩
 have hwid:(Ss.accOf op).isSome=true→acc.width=1∨acc.width=2∨acc.width=4∨acc.width=8:=by
  intro h;obtain ⟨v,hv⟩:=Option.isSome_iff_exists.1 h;rw [hv,Option.getD_some] at hac;subst hac;have hm2 : ∀ (L:List (Int × Ss.Acc)),Ss.findK op L=some acc → ∃ q∈L,q.2=acc:=by
   intro L
   induction L with
   | nil=>intro h; cases h
   | cons q L ih =>
    intro h;obtain ⟨k,v⟩:=q;simp only [Ss.findK] at h;split at h
    ·cases h; exact ⟨(k,acc),by simp,rfl⟩
    ·obtain ⟨q,h1,h2⟩:=ih h;exact ⟨q,by simp [h1],h2⟩
  obtain ⟨q,h1,rfl⟩:=hm2 _ hv;have hall : ∀ q∈Ss.accL,q.2.width=1∨q.2.width=2∨q.2.width=4∨q.2.width=8:=by decide
  exact hall q h1
 rw [←hac] at ca;obtain ⟨ki,wi,st,sg⟩:=acc;simp only at ca hwid;generalize (Ss.accOf op).isSome=ok at *
 cases ok with
 | false =>
  refine ⟨[],1,fun S => ?_,⟨by simp,by simp⟩,by simp⟩;refine QB (c:=jc Tryz.f127) Tryz.func127 Tryz.ntmps127 fun hwf=>?_
  refine QT ?_;refine QY ?_;refine QT ?_;refine QP ?_;refine jb rfl (ca) ?_;refine QW ?_
  repeat first|refine QG ?_|refine QY ?_
  exact qA hwf ((Ghost.tuple [] [_] (Ghost.nils_list _)).toB _) zu (by rfl)
 | true =>
 cases st with
 | false =>
  refine ⟨[],1,fun S => ?_,⟨by simp,by simp⟩,by simp⟩;refine QB (c:=jc Tryz.f127) Tryz.func127 Tryz.ntmps127 fun hwf=>?_
  refine QT ?_;refine QY ?_;refine QT ?_;refine QP ?_;refine jb rfl (ca) ?_;refine QW ?_
  repeat first|refine QG ?_|refine QY ?_
  exact qA hwf ((Ghost.tuple [] [_] (Ghost.nils_list _)).toB _) zu (by rfl)
 | true =>
 by_cases h1:4294967295<addr
 ·skip
  refine ⟨[],1,fun S => ?_,⟨by simp,by simp⟩,by simp⟩;refine QB (c:=jc Tryz.f127) Tryz.func127 Tryz.ntmps127 fun hwf=>?_
  refine QT ?_;refine QY ?_;refine QT ?_;refine QP ?_;refine jb rfl (ca) ?_;refine QW ?_
  repeat first|refine QG ?_|refine QY ?_ (r:=by conv=>lhs;simp[QV,h1])
  exact qA hwf ((Ghost.tuple [] [_] (Ghost.nils_list _)).toB _) zu (by rfl)
 by_cases h2:4294967295<off
 ·skip
  refine ⟨[],1,fun S => ?_,⟨by simp,by simp⟩,by simp⟩;refine QB (c:=jc Tryz.f127) Tryz.func127 Tryz.ntmps127 fun hwf=>?_
  refine QT ?_;refine QY ?_;refine QT ?_;refine QP ?_;refine jb rfl (ca) ?_;refine QW ?_
  repeat first|refine QG ?_|refine QY ?_ (r:=by conv=>lhs;simp[QV,h1,h2])
  exact qA hwf ((Ghost.tuple [] [_] (Ghost.nils_list _)).toB _) zu (by rfl)
 have cf:=jaF ki n;obtain ⟨fb,hfb⟩ : ∃ b,b=(decide (ki=126)||(decide (ki=127)&&decide (n<4294967296))):=⟨_,rfl⟩
 rw [←hfb] at cf
 cases fb with
 | false =>
  refine ⟨[],1,fun S => ?_,⟨by simp,by simp⟩,by simp⟩;refine QB (c:=jc Tryz.f127) Tryz.func127 Tryz.ntmps127 fun hwf=>?_
  refine QT ?_;refine QY ?_;refine QT ?_;refine QP ?_;refine jb rfl (ca) ?_;refine QW ?_
  repeat first|refine QG ?_|refine QY ?_
  refine QT ?_;refine QP ?_ (r:=by conv=>lhs;simp[QV,h1,h2]);refine jb rfl (cf) ?_;refine QW ?_
  repeat first|refine QG ?_|refine QY ?_
  exact qA hwf ((Ghost.tuple [] [_] (Ghost.nils_list _)).toB _) zu (by rfl)
 | true =>
 obtain ⟨a0,a1⟩:=ha;obtain ⟨o0,o1⟩:=ho;have hw:=hwid rfl;obtain ⟨w,rfl⟩ : ∃ w:Nat,wi=(w:Int):=⟨wi.toNat,by omega⟩
 obtain ⟨p,hp⟩ : ∃ p:Nat,addr+off=(p:Int):=⟨(addr+off).toNat,by omega⟩
 have wp:IntKind.u64.wrap (addr+off)=(p:Int):=by rw [jr (by omega) (by omega)]; exact hp
 have ww:IntKind.u64.wrap (w:Int)=(w:Int):=jr (by omega) (by omega);have cin:=jaE m (p:Int) (w:Int) hm (by omega) (by omega)
 cases hin:Ev.insideI m.length (p:Int) (w:Int) with
 | false =>
  rw [hin] at cin;refine ⟨[],35,fun S => ?_,⟨by simp,by simp⟩,by simp⟩;refine QB (c:=jc Tryz.f127) Tryz.func127 Tryz.ntmps127 fun hwf=>?_
  refine QT ?_;refine QY ?_;refine QT ?_;refine QP ?_;refine jb rfl (ca) ?_;refine QW ?_
  repeat first|refine QG ?_|refine QY ?_
  refine QT ?_;refine QP ?_ (r:=by conv=>lhs;simp[QV,h1,h2]);refine jb rfl (cf) ?_;refine QW ?_
  repeat first|refine QG ?_|refine QY ?_
  refine QT ?_;refine QP ?_ (r:=by conv=>lhs;simp[QV,wp,ww]);refine jb rfl (cin) ?_;refine QW ?_
  repeat first|refine QG ?_|refine QY ?_
  exact qA hwf ((Ghost.tuple [] [_] (Ghost.nils_list _)).toB _) zu (by rfl)
 | true =>
 rw [hin] at cin;have hml:=hm.1;have hpw:p+w≤m.length:=by
  simp only [Ev.insideI,Bool.and_eq_true,decide_eq_true_eq] at hin;omega
 refine ⟨Ev.stT m p n w,0,fun S => ?_,stT_in hm p n w,fun _=>jbG m p n w⟩;have hap : ∀ S,jN 1 1 S .nils (vl vby m)=some (.slice S.nx 0 m.length,S.add (1,m.map vby)):=fun S=>by
  have:=zG (S:=S) (s:=1) (b:=1) (xs:=m.map vby) (fun x hx=>by
   obtain ⟨y,_,rfl⟩:=List.mem_map.1 hx
   rfl) (by rw [List.length_map]; omega) (by rw [List.length_map]; omega)
  rw [jbF,List.length_map] at this;exact this
 refine QB (c:=jc Tryz.f127) Tryz.func127 Tryz.ntmps127 fun hwf=>?_
 refine QT ?_;refine QY ?_;refine QT ?_;refine QP ?_;refine jb rfl (ca) ?_;refine QW ?_
 repeat first|refine QG ?_|refine QY ?_
 refine QT ?_;refine QP ?_ (r:=by conv=>lhs;simp[QV,h1,h2]);refine jb rfl (cf) ?_;refine QW ?_
 repeat first|refine QG ?_|refine QY ?_
 refine QT ?_;refine QP ?_ (r:=by conv=>lhs;simp[QV,wp,ww]);refine jb rfl (cin) ?_;refine QW ?_
 repeat first|refine QG ?_|refine QY ?_ (r:=by conv=>lhs;simp[QV,hap])
 refine QT ?_;refine jd [2,3,4,13,16,17] rfl (fun c σ S' => ∃ (i:Nat) (B:List Int),i≤w∧c=w-i∧B=Ev.stT m p n i∧σ=[(2,vu addr),(3,vu off),(4,vu n),(13,vnat w),(16, .slice (lid S.nx 0) 0 m.length),(17,vnat i)]∧S'=St S [] [some (1,B.map vby)]) w ?_ ?_
 ·exact ⟨0,m,by omega,rfl,rfl,by simp [Fr.only,Fr.look,vu],by simp⟩
 ·rintro c σ T ⟨i,B,hi,rfl,hB,rfl,rfl⟩;have hBl:B.length=m.length:=by rw [hB,jbG]
  by_cases hit:i<w
  ·have hwi:=jh hit (by omega);have hst:B.set (p+i) (IntKind.u8.wrap (n.fdiv (2^(8*i))))=Ev.stT m p n (i+1):=by rw [hB]; rfl
   have hpi:p+i<B.length:=by omega
   have hpm:(p:Int)+(i:Int)<(m.length:Int):=by omega
   have p0:(0:Int)≤(p:Int)+(i:Int):=by omega
   have tp:((p:Int)+(i:Int)).toNat=p+i:=by omega
   have wi':IntKind.u64.wrap (i:Int)=(i:Int):=jr (by omega) (by omega);have wsum:IntKind.u64.wrap ((p:Int)+(i:Int))=(p:Int)+(i:Int):=jr (by omega) (by omega);have w8i:IntKind.i64.wrap (8*(i:Int))=8*(i:Int):=wrap_i64 (by omega) (by omega);have t8i:(8*(i:Int)).toNat=8*i:=by omega
   have p8i:(0:Int)≤8*(i:Int):=by omega
   have hm8i:min (8*i) IntKind.u64.bits=8*i:=by rw [qK]; omega
   have hset : ∀ x,(B.map vby).set (p+i) (.int .u8 x)=(B.set (p+i) x).map vby:=fun x=>by rw [List.map_set]; rfl
   repeat first|refine QG ?_|refine QY ?_ (r:=by conv=>lhs;simp[QV,hit])
   refine QT ?_;refine QY ?_ (r:=by conv=>lhs;simp[QV,wp,wi',wsum,w8i,t8i,p8i,hm8i,hpi,hpm,p0,tp,hset])
   repeat first|refine QG ?_|refine QY ?_ (r:=by conv=>lhs;simp[QV,hwi])
   rw [hst];show jy _ _ _ _ _ _ _;exact again ⟨Nat.sub_lt_sub_left hit (Nat.lt_succ_self i),i+1,_,hit,rfl,rfl,by simp [Fr.only,Fr.look],rfl⟩
  ·have hie:i=w:=by omega
   subst hie;rw [←hB, ←hBl]
   repeat first|refine QG ?_|refine QY ?_ (r:=by conv=>lhs;simp[QV,hit])
   exact jf hwf ((Ghost.tuple [] [_] (frz1 (k:=0) (by simp) (by rfl) (jq vby (fun _=>rfl) _) (by simp))).toB _) rfl
end Go.Vw
namespace Ev
structure State where
 mem:List Int
 most:Int
 globals:List Int
 fuel:Int
 input:List Int
 log:List Int
def words (l:List Int):Prop:=l.length≤140737488355328 ∧ ∀ x∈l,U64 x
def fitsL:List Int→List Int→Bool
 | [],[]=>true
 | t::ts,n::ns=>fits t n&&fitsL ts ns
 | _,_=>false
theorem fitsL_len : ∀ {l m:List Int},fitsL l m=true→l.length=m.length
 | [],[],_=>rfl
 | t::ts,n::ns,h=>by
  simp only [fitsL,Bool.and_eq_true] at h;simp [fitsL_len h.2]
theorem fitsL_step {l m:List Int} {k:Nat} (h1:k<l.length) (h2:k<m.length):fitsL (l.drop k) (m.drop k)=(fits l[k] m[k]&&fitsL (l.drop (k+1)) (m.drop (k+1))):=by
 rw [List.drop_eq_getElem_cons h1,List.drop_eq_getElem_cons h2,fitsL]
theorem fitsL_end {l m:List Int} {k:Nat} (h1 : ¬ k<l.length) (h2 : ¬ k<m.length):fitsL (l.drop k) (m.drop k)=true:=by
 rw [List.drop_eq_nil_iff.2 (by omega),List.drop_eq_nil_iff.2 (by omega)]; rfl
end Ev
namespace Go.Vw
open Go.Proofs Go.RowKit
attribute [-simp] List.map_set
def qb (s:Ev.State):V := .agg [vl vby s.mem,vint s.most,vl vu s.globals,vint s.fuel,vl vu s.input,vl vu s.log]
theorem Zj (a b:List Int) (ha:a.length<2^62):VPure Tryz.prog 12 [vl vu a,vl vu b] (.bool (decide (a=b))):=by
 intro S;refine QB (c:=jc Tryz.f12) Tryz.func12 Tryz.ntmps12 fun hwf=>?_
 refine QT ?_;refine QY ?_
 by_cases hl:a.length=b.length
 ·have hlI:(a.length:Int)=(b.length:Int):=by omega
  repeat first|refine QG ?_|refine QY ?_ (r:=by conv=>lhs;simp[QV,hl,hlI])
  refine QT ?_;refine jd [0,1,5] rfl (fun c σ S' => ∃ (k:Nat),k≤a.length∧c=a.length-k∧decide (a.drop k=b.drop k)=decide (a=b)∧σ=[(0,vl vu a),(1,vl vu b),(5,vnat k)]∧S'=St S [] []) a.length ?_ ?_
  ·exact ⟨0,by omega,rfl,rfl,by simp [Fr.only,Fr.look],by simp⟩
  ·rintro c σ T ⟨k,hk,rfl,hd,rfl,rfl⟩
   by_cases hkt:k<a.length
   ·have hw:=jh hkt (by omega);have hkb:k<b.length:=by omega
    rw [List.drop_eq_getElem_cons hkt,List.drop_eq_getElem_cons hkb] at hd;obtain ⟨x,hx⟩ : ∃ x,a[k]=x:=⟨_,rfl⟩
    obtain ⟨y,hy⟩ : ∃ y,b[k]=y:=⟨_,rfl⟩
    rw [hx,hy] at hd
    by_cases he:x=y
    ·have hd2:decide (a.drop (k+1)=b.drop (k+1))=decide (a=b):=by rw [←hd,he]; simp
     repeat first|refine QG ?_|refine QY ?_ (r:=by conv=>lhs;simp[QV,hkt])
     refine QT ?_;refine QD (r:=by conv=>lhs;simp[QV,hkt,hkb,hx,hy,he]) (k:=?_);refine QN ?_
     repeat first|refine QG ?_|refine QY ?_ (r:=by conv=>lhs;simp[QV,hw])
     show jy _ _ _ _ _ _ _;exact again ⟨Nat.sub_lt_sub_left hkt (Nat.lt_succ_self k),k+1,hkt,rfl,hd2,by simp [Fr.only,Fr.look],rfl⟩
    ·have hd2:decide (a=b)=false:=by rw [←hd]; simp [he]
     rw [hd2]
     repeat first|refine QG ?_|refine QY ?_ (r:=by conv=>lhs;simp[QV,hkt])
     refine QT ?_;refine QD (r:=by conv=>lhs;simp[QV,hkt,hkb,hx,hy,he]) (k:=?_);refine QN ?_
     repeat first|refine QG ?_|refine QY ?_
     exact ja hwf rfl rfl
   ·have hd2:decide (a=b)=true:=by
     rw [←hd,List.drop_eq_nil_iff.2 (by omega),List.drop_eq_nil_iff.2 (by omega)]; rfl
    rw [hd2]
    repeat first|refine QG ?_|refine QY ?_ (r:=by conv=>lhs;simp[QV,hkt])
    exact ja hwf rfl rfl
 ·have hlI : ¬ (a.length:Int)=(b.length:Int):=by omega
  have hne:decide (a=b)=false:=decide_eq_false (fun e=>hl (by rw [e]));rw [hne]
  repeat first|refine QG ?_|refine QY ?_ (r:=by conv=>lhs;simp[QV,hl,hlI])
  exact ja hwf rfl rfl
theorem Ngiven_v (l a:List Int) (ha:l.length<2^62):VPure Tryz.prog 36 [vl vint l,vl vu a] (.bool (Ev.fitsL l a)):=by
 intro S;refine QB (c:=jc Tryz.f36) Tryz.func36 Tryz.ntmps36 fun hwf=>?_
 refine QT ?_;refine QY ?_
 by_cases hl:l.length=a.length
 ·have hlI:(l.length:Int)=(a.length:Int):=by omega
  repeat first|refine QG ?_|refine QY ?_ (r:=by conv=>lhs;simp[QV,hl,hlI])
  refine QT ?_;refine jd [0,1,5] rfl (fun c σ S' => ∃ (k:Nat),k≤l.length∧c=l.length-k∧Ev.fitsL (l.drop k) (a.drop k)=Ev.fitsL l a∧σ=[(0,vl vint l),(1,vl vu a),(5,vnat k)]∧S'=St S [] []) l.length ?_ ?_
  ·exact ⟨0,by omega,rfl,rfl,by simp [Fr.only,Fr.look],by simp⟩
  ·rintro c σ T ⟨k,hk,rfl,hd,rfl,rfl⟩
   by_cases hkt:k<l.length
   ·have hw:=jh hkt (by omega);have hka:k<a.length:=by omega
    rw [Ev.fitsL_step hkt hka] at hd;have cf:=jaF l[k] a[k];have hfe:Ev.fits l[k] a[k]=(decide (l[k]=126)||(decide (l[k]=127)&&decide (a[k]<4294967296))):=rfl;rw [←hfe] at cf;obtain ⟨b,hb⟩ : ∃ b,b=Ev.fits l[k] a[k]:=⟨_,rfl⟩
    rw [←hb] at cf hd;obtain ⟨x,hx⟩ : ∃ x,l[k]=x:=⟨_,rfl⟩
    obtain ⟨y,hy⟩ : ∃ y,a[k]=y:=⟨_,rfl⟩
    rw [hx,hy] at cf
    cases b with
    | true =>
     rw [Bool.true_and] at hd
     repeat first|refine QG ?_|refine QY ?_ (r:=by conv=>lhs;simp[QV,hkt])
     refine QT ?_;refine QD (r:=by conv=>lhs;simp[QV,hkt,hka,hx,hy]) (k:=?_);refine jb rfl (cf) ?_;refine QW ?_
     repeat first|refine QG ?_|refine QY ?_ (r:=by conv=>lhs;simp[QV,hw])
     show jy _ _ _ _ _ _ _;exact again ⟨Nat.sub_lt_sub_left hkt (Nat.lt_succ_self k),k+1,hkt,rfl,hd,by simp [Fr.only,Fr.look],rfl⟩
    | false =>
     rw [Bool.false_and] at hd;rw [←hd]
     repeat first|refine QG ?_|refine QY ?_ (r:=by conv=>lhs;simp[QV,hkt])
     refine QT ?_;refine QD (r:=by conv=>lhs;simp[QV,hkt,hka,hx,hy]) (k:=?_);refine jb rfl (cf) ?_;refine QW ?_
     repeat first|refine QG ?_|refine QY ?_
     exact ja hwf rfl rfl
   ·rw [Ev.fitsL_end hkt (by omega)] at hd;rw [←hd]
    repeat first|refine QG ?_|refine QY ?_ (r:=by conv=>lhs;simp[QV,hkt])
    exact ja hwf rfl rfl
 ·have hlI : ¬ (l.length:Int)=(a.length:Int):=by omega
  have hne:Ev.fitsL l a=false:=by
   cases h:Ev.fitsL l a with
   | false=>rfl
   | true=>exact absurd (Ev.fitsL_len h) hl
  rw [hne]
  repeat first|refine QG ?_|refine QY ?_ (r:=by conv=>lhs;simp[QV,hl,hlI])
  exact ja hwf rfl rfl
end Go.Vw
/-
 Functions in SSA form: how long their lists are.
-/
namespace Ss
def shortL (ls:List (List Int)):Bool:=ls.all fun l=>decide (l.length≤4096)
def Ins.small (x:Ins):Bool:=decide (x.args.length≤4096)&&decide (x.outs.length≤4096)
def Edge.small (x:Edge):Bool:=decide (x.args.length≤4096)
def Block.small (b:Block):Bool:=decide (b.params.length≤4096)&&decide (b.term.to.length≤4096)&&decide (b.term.args.length≤4096)&&b.code.all Ins.small&&b.term.to.all Edge.small
def smallFrom (n:Nat):List Block→Bool
 | []=>true
 | b::bs=>decide (n+b.code.length≤4096)&&b.small&&smallFrom (n+b.code.length) bs
def Fn.heads (f:Fn):Bool:=decide (f.types.length≤4096)&&decide (f.blocks.length≤4096)&&decide (f.sig.inn.length≤4096)&&decide (f.sig.out.length≤4096)
def Fn.small (f:Fn):Bool:=f.heads&&smallFrom 0 f.blocks
def count (bs:List Block):Nat:=(bs.map fun b=>b.code.length).sum
theorem Wc : ∀ {bs:List Block} {n:Nat},smallFrom n bs=true→(∀ b∈bs,b.small=true)∧(n≤4096→n+count bs≤4096)
 | [],n,_=>⟨by simp,by simp [count]⟩
 | b::bs,n,h=>by
  simp only [smallFrom,Bool.and_eq_true,decide_eq_true_eq] at h;obtain ⟨⟨h1,h2⟩,h3⟩:=h;obtain ⟨k1,k2⟩:=Wc h3;refine ⟨fun x hx => ?_,fun _ => ?_⟩
  ·rcases List.mem_cons.1 hx with rfl | hx
   ·exact h2
   ·exact k1 x hx
  ·have:=k2 h1;simp only [count,List.map_cons,List.sum_cons] at this ⊢;omega
theorem Ys : ∀ {bs:List Block} {n:Nat},(∀ b∈bs,b.small=true)→n+count bs≤4096→smallFrom n bs=true
 | [],n,_,_=>rfl
 | b::bs,n,h,hn=>by
  simp only [count,List.map_cons,List.sum_cons] at hn;simp only [smallFrom,Bool.and_eq_true,decide_eq_true_eq];exact ⟨⟨by omega,h b (by simp)⟩,Ys (fun x hx=>h x (by simp [hx])) (by simp only [count]; omega)⟩
theorem small_iff (f:Fn):f.small=true↔f.heads=true∧(∀ b∈f.blocks,b.small=true)∧count f.blocks≤4096:=by
 simp only [Fn.small,Bool.and_eq_true];constructor
 ·rintro ⟨h1,h2⟩;obtain ⟨k1,k2⟩:=Wc h2;exact ⟨h1,k1,by simpa using k2 (by omega)⟩
 ·rintro ⟨h1,h2,h3⟩;exact ⟨h1,Ys h2 (by simpa using h3)⟩
theorem drop_all {α:Type} (p:α→Bool) {l:List α} {k:Nat} (h:k<l.length):(l.drop k).all p=(p l[k]&&(l.drop (k+1)).all p):=by
 rw [List.drop_eq_getElem_cons h,List.all_cons]
theorem drop_all_end {α:Type} (p:α→Bool) {l:List α} {k:Nat} (h : ¬ k<l.length):(l.drop k).all p=true:=by
 have:l.drop k=[]:=by rw [List.drop_eq_nil_iff]; omega
 rw [this]; rfl
theorem drop_small {n:Nat} {l:List Block} {k:Nat} (h:k<l.length):smallFrom n (l.drop k)=(decide (n+l[k].code.length≤4096)&&l[k].small&&smallFrom (n+l[k].code.length) (l.drop (k+1))):=by
 rw [List.drop_eq_getElem_cons h,smallFrom]
theorem drop_small_end {n:Nat} {l:List Block} {k:Nat} (h : ¬ k<l.length):smallFrom n (l.drop k)=true:=by
 have:l.drop k=[]:=by rw [List.drop_eq_nil_iff]; omega
 rw [this]; rfl
end Ss
namespace Go.Vw
open Go.Proofs Go.RowKit
attribute [-simp] List.map_set
theorem RSmall_v (f:Ss.Fn) (hf:f.Fits):VPure Tryz.prog 28 [jJ f] (.bool f.small):=by
 intro S;obtain ⟨⟨fi,fo⟩,ts,bs⟩:=f;obtain ⟨_,_,hbl0,hbf⟩:=hf;simp only at hbl0 hbf;have hbl:bs.length<2^63:=by omega
 refine QB (c:=jc Tryz.f28) Tryz.func28 Tryz.ntmps28 fun hwf=>?_
 by_cases h1:(4096:Int)<(ts.length:Int)
 ·repeat first|refine QG ?_|refine QY ?_ (r:=by conv=>lhs;simp[QV,h1])
  exact ja hwf (by simp [Ss.Fn.small,Ss.Fn.heads]; omega) rfl
 by_cases h2:(4096:Int)<(bs.length:Int)
 ·repeat first|refine QG ?_|refine QY ?_ (r:=by conv=>lhs;simp[QV,h1,h2])
  exact ja hwf (by simp [Ss.Fn.small,Ss.Fn.heads]; omega) rfl
 by_cases h3:(4096:Int)<(fi.length:Int)
 ·repeat first|refine QG ?_|refine QY ?_ (r:=by conv=>lhs;simp[QV,h1,h2,h3])
  exact ja hwf (by simp [Ss.Fn.small,Ss.Fn.heads]; omega) rfl
 by_cases h4:(4096:Int)<(fo.length:Int)
 ·repeat first|refine QG ?_|refine QY ?_ (r:=by conv=>lhs;simp[QV,h1,h2,h3,h4])
  exact ja hwf (by simp [Ss.Fn.small,Ss.Fn.heads]; omega) rfl
 have hh:Ss.Fn.small ⟨⟨fi,fo⟩,ts,bs⟩=Ss.smallFrom 0 bs:=by
  have:Ss.Fn.heads ⟨⟨fi,fo⟩,ts,bs⟩=true:=by simp [Ss.Fn.heads]; omega
  simp [Ss.Fn.small,this]
 rw [hh]
 repeat first|refine QG ?_|refine QY ?_ (r:=by conv=>lhs;simp[QV,h1,h2,h3,h4])
 refine QT ?_;refine jd [1,3,4] rfl (fun c σ S' => ∃ (k n:Nat),k≤bs.length∧n≤4096∧c=bs.length-k∧Ss.smallFrom n (bs.drop k)=Ss.smallFrom 0 bs∧σ=[(1, .ptr (lid S.nx 0) 0),(3,vnat n),(4,vnat k)]∧S'=St S [] [some (4,[vl vint fi,vl vint fo,vl vint ts,vl je bs])]) bs.length ?_ ?_
 ·exact ⟨0,0,by omega,by omega,rfl,rfl,by simp [Fr.only],rfl⟩
 ·rintro c σ T ⟨k,n,hk,hn,rfl,hd,rfl,rfl⟩
  by_cases hkt:k<bs.length
  ·have hw:=jh hkt hbl;have hbk:=hbf _ (List.getElem_mem hkt);have hst:=Ss.drop_small (n:=n) hkt;obtain ⟨⟨ps,code,⟨tk,ta,to,az⟩⟩,hb⟩ : ∃ b,bs[k]=b:=⟨_,rfl⟩
   rw [hb] at hst hbk;obtain ⟨_,⟨hcl0,_⟩,_,_,⟨htl0,_⟩,_⟩:=hbk;simp only at hcl0 htl0;have hcl:code.length<2^63:=by omega
   have htl:to.length<2^63:=by omega
   have hwn:IntKind.i64.wrap ((n:Int)+(code.length:Int))=(n:Int)+(code.length:Int):=wrap_i64 (by omega) (by omega);have hS:Ss.Block.small ⟨ps,code,⟨tk,ta,to,az⟩⟩=(decide (ps.length≤4096)&&decide (to.length≤4096)&&decide (az.length≤4096)&&code.all Ss.Ins.small&&to.all Ss.Edge.small):=rfl
   by_cases g1:(4096:Int)<(n:Int)+(code.length:Int)
   ·have e:Ss.smallFrom n (bs.drop k)=false:=by rw [hst]; simp; omega
    rw [←hd,e]
    repeat first|refine QG ?_|refine QY ?_ (r:=by conv=>lhs;simp[QV,hkt,hb,hwn,g1])
    exact ja hwf rfl rfl
   by_cases g2:(4096:Int)<(ps.length:Int)
   ·have e:Ss.smallFrom n (bs.drop k)=false:=by rw [hst,hS]; simp; omega
    rw [←hd,e]
    repeat first|refine QG ?_|refine QY ?_ (r:=by conv=>lhs;simp[QV,hkt,hb,hwn,g1,g2])
    exact ja hwf rfl rfl
   by_cases g3:(4096:Int)<(to.length:Int)
   ·have e:Ss.smallFrom n (bs.drop k)=false:=by rw [hst,hS]; simp; omega
    rw [←hd,e]
    repeat first|refine QG ?_|refine QY ?_ (r:=by conv=>lhs;simp[QV,hkt,hb,hwn,g1,g2,g3])
    exact ja hwf rfl rfl
   by_cases g4:(4096:Int)<(az.length:Int)
   ·have e:Ss.smallFrom n (bs.drop k)=false:=by rw [hst,hS]; simp; omega
    rw [←hd,e]
    repeat first|refine QG ?_|refine QY ?_ (r:=by conv=>lhs;simp[QV,hkt,hb,hwn,g1,g2,g3,g4])
    exact ja hwf rfl rfl
   rw [show decide (n+code.length≤4096)=true by simp; omega,hS,show decide (ps.length≤4096)=true by simp; omega,show decide (to.length≤4096)=true by simp; omega,show decide (az.length≤4096)=true by simp; omega,Bool.true_and,Bool.true_and,Bool.true_and,Bool.true_and] at hst
   repeat first|refine QG ?_|refine QY ?_ (r:=by conv=>lhs;simp[QV,hkt,hb,hwn,g1,g2,g3,g4])
   refine QT ?_;refine jd [1,3,4,5,6] rfl (fun c σ S' => ∃ (j:Nat),j≤code.length∧c=code.length-j∧(code.drop j).all Ss.Ins.small=code.all Ss.Ins.small∧σ=[(1, .ptr (lid S.nx 0) 0),(3,vnat (n+code.length)),(4,vnat k),(5, .ptr (lid S.nx 1) 0),(6,vnat j)]∧S'=St S [] [some (4,[vl vint fi,vl vint fo,vl vint ts,vl je bs]),some (6,[vl vint ps,vl jp code,vint tk,vint ta,vl ji to,vl vint az])]) code.length ?_ ?_
   ·exact ⟨0,by omega,rfl,rfl,by simp [Fr.only],rfl⟩
   ·rintro c σ T ⟨j,hj,rfl,hdj,rfl,rfl⟩
    by_cases hjt:j<code.length
    ·have hwj:=jh hjt hcl;have hstj:=Ss.drop_all Ss.Ins.small hjt;obtain ⟨⟨io,iN,ia,iu⟩,hx⟩ : ∃ b,code[j]=b:=⟨_,rfl⟩
     rw [hx] at hstj;have hX:Ss.Ins.small ⟨io,iN,ia,iu⟩=(decide (ia.length≤4096)&&decide (iu.length≤4096)):=rfl
     by_cases q1:(4096:Int)<(ia.length:Int)
     ·have e:code.all Ss.Ins.small=false:=by rw [←hdj,hstj,hX]; simp; omega
      rw [←hd,hst,e]
      repeat first|refine QG ?_|refine QY ?_ (r:=by conv=>lhs;simp[QV,hjt,hx,q1])
      exact ja hwf rfl rfl
     by_cases q2:(4096:Int)<(iu.length:Int)
     ·have e:code.all Ss.Ins.small=false:=by rw [←hdj,hstj,hX]; simp; omega
      rw [←hd,hst,e]
      repeat first|refine QG ?_|refine QY ?_ (r:=by conv=>lhs;simp[QV,hjt,hx,q1,q2])
      exact ja hwf rfl rfl
     rw [hX,show decide (ia.length≤4096)=true by simp; omega,show decide (iu.length≤4096)=true by simp; omega,Bool.true_and,Bool.true_and] at hstj
     repeat first|refine QG ?_|refine QY ?_ (r:=by conv=>lhs;simp[QV,hjt,hx,q1,q2])
     show jy _ _ _ _ _ _ _;exact again ⟨Nat.sub_lt_sub_left hjt (Nat.lt_succ_self j),j+1,hjt,rfl,by rw [←hdj,hstj],by simp [Fr.only,hwj],rfl⟩
    ·rw [Ss.drop_all_end _ hjt] at hdj;rw [←hdj,Bool.true_and] at hst
     repeat first|refine QG ?_|refine QY ?_ (r:=by conv=>lhs;simp[QV,hjt])
     refine QT ?_;refine jd [1,3,4,5,7] rfl (fun c σ S' => ∃ (j:Nat),j≤to.length∧c=to.length-j∧(to.drop j).all Ss.Edge.small=to.all Ss.Edge.small∧σ=[(1, .ptr (lid S.nx 0) 0),(3,vnat (n+code.length)),(4,vnat k),(5, .ptr (lid S.nx 1) 0),(7,vnat j)]∧S'=St S [] [some (4,[vl vint fi,vl vint fo,vl vint ts,vl je bs]),some (6,[vl vint ps,vl jp code,vint tk,vint ta,vl ji to,vl vint az])]) to.length ?_ ?_
     ·exact ⟨0,by omega,rfl,rfl,by simp [Fr.only],rfl⟩
     ·rintro c σ T ⟨j,hj,rfl,hdj,rfl,rfl⟩
      by_cases hjt:j<to.length
      ·have hwj:=jh hjt htl;have hstj:=Ss.drop_all Ss.Edge.small hjt;obtain ⟨⟨io,ia⟩,hx⟩ : ∃ b,to[j]=b:=⟨_,rfl⟩
       rw [hx] at hstj;have hX:Ss.Edge.small ⟨io,ia⟩=decide (ia.length≤4096):=rfl
       by_cases q1:(4096:Int)<(ia.length:Int)
       ·have e:to.all Ss.Edge.small=false:=by rw [←hdj,hstj,hX]; simp; omega
        rw [←hd,hst,e]
        repeat first|refine QG ?_|refine QY ?_ (r:=by conv=>lhs;simp[QV,hjt,hx,q1])
        exact ja hwf rfl rfl
       rw [hX,show decide (ia.length≤4096)=true by simp; omega,Bool.true_and] at hstj
       repeat first|refine QG ?_|refine QY ?_ (r:=by conv=>lhs;simp[QV,hjt,hx,q1])
       show jy _ _ _ _ _ _ _;exact again ⟨Nat.sub_lt_sub_left hjt (Nat.lt_succ_self j),j+1,hjt,rfl,by rw [←hdj,hstj],by simp [Fr.only,hwj],rfl⟩
      ·rw [Ss.drop_all_end _ hjt] at hdj;rw [←hdj,Bool.true_and] at hst
       repeat first|refine QG ?_|refine QY ?_ (r:=by conv=>lhs;simp[QV,hjt,hw])
       refine QA [0] (h:=⟨?_,k+1,n+code.length,hkt,by omega,rfl,by rw [←hd,hst],by simp,rfl⟩);omega
  ·rw [Ss.drop_small_end hkt] at hd;rw [←hd]
   repeat first|refine QG ?_|refine QY ?_ (r:=by conv=>lhs;simp[QV,hkt])
   exact ja hwf rfl rfl
end Go.Vw
