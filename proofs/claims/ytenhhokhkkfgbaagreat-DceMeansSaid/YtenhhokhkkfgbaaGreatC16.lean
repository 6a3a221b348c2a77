import Derived.Test.YtenhhokhkkfgbaaGreatC15
/- Part of the proof. -/
set_option linter.unusedVariables false
set_option linter.unusedSimpArgs false
set_option maxRecDepth 10000
set_option maxHeartbeats 8000000
namespace Ev
def partialO (op:Int):Bool:=Ss.rin op 109 112||Ss.rin op 127 130
def argsOk (op:Int) (a:List Int):Prop:=Ss.rof op≠0/\a.length=(Ss.rsig op).1.length /\ ∀ (i:Nat) (h1:i<a.length) (h2:i<(Ss.rsig op).1.length),fits (Ss.rsig op).1[i] a[i]=true
end Ev
namespace Go.Vw
open Go.Proofs Go.RowKit
attribute [-simp] List.map_set
theorem JM {w:Nat} (hw:w=32\/w=64) {n:Int} (h0:0<=n) (h1:n<=64):Fit w n:=by
 rcases hw with rfl | rfl
 ·exact ⟨h0,by omega⟩
 ·exact ⟨h0,by omega⟩
theorem rin_t {op a b:Int} (h1:a<=op) (h2:op<=b):Ss.rin op a b=true:=by simp [Ss.rin,h1,h2]
theorem rin_f {op a b:Int} (h:op<a\/b<op):Ss.rin op a b=false:=by
 simp only [Ss.rin,Bool.and_eq_false_iff,decide_eq_false_iff_not];omega
theorem in_t {op:Int} (a b:Int) (h:a<=op/\op<=b):bS 90 [vint op, .int .i64 a, .int .i64 b] (.bool true):=by
 have:=in_v op a b
 rwa [rin_t h.1 h.2] at this
theorem in_f {op:Int} (a b:Int) (h:op<a\/b<op):bS 90 [vint op, .int .i64 a, .int .i64 b] (.bool false):=by
 have:=in_v op a b
 rwa [rin_f h] at this
theorem jN (t:Int):Ev.widthI t=32\/Ev.widthI t=64:=by
 unfold Ev.widthI; split<;>simp
def EvR (op:Int) (a:List Int) (t:Int) (r:V) (S:Store):Prop:=VWp Tryz.prog 169 S.nx (Code.snd (Code.snd (Code.snd (Code.snd (Code.snd (jc Tryz.f145)))))) (bodyV [5,4].reverse (Ja S.nx fun r' S'=>r'=r/\S'=S)) [(0,vint op),(1,vl vu a),(10,vnat (Ev.widthI t))] (St S [] [])
theorem EvR_pre (op:Int) (a l:List Int) (t q:Int) (cs:bS 109 [vint op] (.tuple [vl vint l,vint q, .bool true])) (hl:a.length=l.length) (ha2:a.length<=2) (hf : ∀ (i:Nat) (h1:i<a.length) (h2:i<l.length),Ev.fits l[i] a[i]=true) (hl0:0<l.length) (hl0':l[0]=t) (r:V) (H : ∀ S:Store,S.Wf->EvR op a t r S):bS 145 [vint op,vl vu a] r:=by
 intro S;have H:=H S;have cw:=Nwidth_v t;have hlN:l.length=a.length:=hl.symm;have hlI:(l.length:Int)=(a.length:Int):=by omega
 refine QB (c:=jc Tryz.f145) Tryz.func145 Tryz.ntmps145 fun hwf=>?_
 refine QY ?_;refine QP ?_;refine QL cs ?_;refine QW ?_
 refine bt hlI hlN ?_
 refine QT ?_;refine jd [0,1,6,9] rfl (fun c σ S' => ∃ (i:Nat),i<=a.length/\c=a.length-i/\σ=[(0,vint op),(1,vl vu a),(6,vl vint l),(9,vnat i)]/\S'=St S [] []) a.length ?_ ?_
 ·exact ⟨0,by omega,rfl,by simp [Fr.only,Fr.look],by simp⟩
 rintro c σ T ⟨i,hi,rfl,rfl,rfl⟩
 by_cases hit:i<a.length
 ·have hwi:=jg hit (by omega);have hil:i<l.length:=by omega
  have cf:=jbe l[i] a[i];have hfe:Ev.fits l[i] a[i]=(decide (l[i]=126)||(decide (l[i]=127)&&decide (a[i]<4294967296))):=rfl;rw [<-hfe,hf i hit hil] at cf;obtain ⟨b,hb⟩ : ∃ b,b=true:=⟨_,rfl⟩
  rw [<-hb] at cf;obtain ⟨li,hli⟩ : ∃ x,l[i]=x:=⟨_,rfl⟩
  obtain ⟨ai,hai⟩ : ∃ x,a[i]=x:=⟨_,rfl⟩
  rw [hli,hai] at cf
  refine bx hit ?_
  refine QT ?_;refine QD (r:=by conv=>lhs;simp[QV,hit,hil,hli,hai]) (k:=?_);refine QL cf ?_;refine bB hb ?_;refine QN ?_
  refine bx hwi ?_
  show js _ _ _ _ _ _ _;exact again ⟨ao hit (aY i),i+1,hit,rfl,by simp [Fr.only,Fr.look],rfl⟩
 clear hf
 refine bx hit ?_
 refine bK hl0 hl0' ?_;refine QL cw ?_;refine QW ?_;refine QO [0,1,10] ?_;exact H hwf
theorem Zs {op:Int} {a:List Int} (h0:Ss.rof op≠0) (hun:Ss.runary op=true) (hl:a.length=(Ss.rsig op).1.length) (hf : ∀ (i:Nat) (h1:i<a.length) (h2:i<(Ss.rsig op).1.length),Ev.fits (Ss.rsig op).1[i] a[i]=true) (hu : ∀ x∈a,Ev.U64 x) :
  ∃ (x:Int) (h:0<a.length),a[0]=x/\Ev.U64 x/\Fit (Ev.widthI (Ss.rof op)) x /\ ∀ r,(∀ S:Store,S.Wf->EvR op a (Ss.rof op) r S)->bS 145 [vint op,vl vu a] r:=by
 have cs:=KG op;rw [<-Ss.rsig_eq op] at cs;have hX:Ss.rsig op=([Ss.rof op],Ss.rsigT op,true):=by rw [Ss.rsig,if_neg h0,hun]; rfl
 rw [hX] at cs;simp only [hX] at hl hf;obtain ⟨x,rfl⟩ : ∃ x,a=[x]:=by
  match a,hl with
  | [x],_=>exact ⟨x,rfl⟩
 have hx:=hu x (by simp);exact ⟨x,by simp,rfl,hx,jcJ (Ev.kinds h0).1 hx (hf 0 (by simp) (by simp)),EvR_pre op [x] _ _ _ cs rfl (by simp) hf (by simp) rfl⟩
theorem Ev_bin {op:Int} {a:List Int} (h0:Ss.rof op≠0) (hun:Ss.runary op=false) (hl:a.length=(Ss.rsig op).1.length) (hf : ∀ (i:Nat) (h1:i<a.length) (h2:i<(Ss.rsig op).1.length),Ev.fits (Ss.rsig op).1[i] a[i]=true) (hu : ∀ x∈a,Ev.U64 x) :
  ∃ (x y:Int) (h:0<a.length),a[0]=x/\(∀ S',jB 1 S' (vl vu a) (.int .i64 1)=some (.ref (vu y)))/\Fit (Ev.widthI (Ss.rof op)) x/\Fit (Ev.widthI (Ss.rof op)) y /\ ∀ r,(∀ S:Store,S.Wf->EvR op a (Ss.rof op) r S)->bS 145 [vint op,vl vu a] r:=by
 have cs:=KG op;rw [<-Ss.rsig_eq op] at cs;have hX:Ss.rsig op=([Ss.rof op,Ss.rof op],Ss.rsigT op,true):=by rw [Ss.rsig,if_neg h0,hun]; rfl
 rw [hX] at cs;simp only [hX] at hl hf;obtain ⟨x,y,rfl⟩ : ∃ x y,a=[x,y]:=by
  match a,hl with
  | [x,y],_=>exact ⟨x,y,rfl⟩
 have hk:=(Ev.kinds h0).1;exact ⟨x,y,by simp,rfl,fun S'=>zO (S:=S') (enc:=vu) (l:=[x,y]) (k := .i64) (i:=1) (x:=y) (s:=1) rfl rfl,jcJ hk (hu x (by simp)) (hf 0 (by simp) (by simp)),jcJ hk (hu y (by simp)) (hf 1 (by simp) (by simp)),EvR_pre op [x,y] _ _ _ cs rfl (by simp) hf (by simp) rfl⟩
theorem Neval_cmp32 (op:Int) (a:List Int) (h0:Ss.rof op≠0) (hlo:70<=op) (hhi:op<=79) (hl:a.length=(Ss.rsig op).1.length) (hf : ∀ (i:Nat) (h1:i<a.length) (h2:i<(Ss.rsig op).1.length),Ev.fits (Ss.rsig op).1[i] a[i]=true) (hu : ∀ x∈a,Ev.U64 x) : ∃ n e:Int,bS 145 [vint op,vl vu a] (.tuple [vu n,vint e])/\Fit (Ev.widthI (Ss.rsigT op)) n/\(Ev.partialO op=false->e=0):=by
 have hun:Ss.runary op=false:=by
  rcases (Ev.kinds h0).2 with ⟨h1,h2⟩ | ⟨h1,h2⟩
  ·exfalso; omega
  ·exact h1
 obtain ⟨x,y,ha0,ha0',hi1,hx,hy,H⟩:=Ev_bin h0 hun hl hf hu;have hwo:=jN (Ss.rof op);have hte:Ss.rof op=Ss.rof op:=rfl;generalize ht:Ss.rof op=t at *
 have n69 : ¬ op=69:=by omega
 have n80 : ¬ op=80:=by omega
 obtain ⟨k,hk1⟩ : ∃ k:Nat,op=70+(k:Int):=⟨(op-70).toNat,by omega⟩
 have cc:=jbZ k (by omega) x y (Ev.widthI t) (by omega);have wk:IntKind.i64.wrap (op-70)=(k:Int):=by rw [wrap_i64 (by omega) (by omega)]; omega
 refine ⟨Ev.cmpI k x y (Ev.widthI t),0,H _ fun S hwf => ?_, ?_,fun _=>rfl⟩
 ·unfold EvR
  refine bt n69 n80 ?_
  refine QP ?_;refine jb rfl ((in_t 70 79 (by omega))) ?_;refine bQ ?_
  refine QT ?_;refine QD (r:=by conv=>lhs;simp[QV,wk,ha0,ha0',hi1]) (k:=?_);refine QL cc ?_;refine bQ ?_
  exact bN
 ·have hb:=b1_in ((Ev.cmpL x y (Ev.sgnI x (Ev.widthI t)) (Ev.sgnI y (Ev.widthI t))).getD k false);exact JM (jN _) hb.1 (by have:=hb.2; simp only [Ev.cmpI]; omega)
theorem Neval_cmp64 (op:Int) (a:List Int) (h0:Ss.rof op≠0) (hlo:81<=op) (hhi:op<=90) (hl:a.length=(Ss.rsig op).1.length) (hf : ∀ (i:Nat) (h1:i<a.length) (h2:i<(Ss.rsig op).1.length),Ev.fits (Ss.rsig op).1[i] a[i]=true) (hu : ∀ x∈a,Ev.U64 x) : ∃ n e:Int,bS 145 [vint op,vl vu a] (.tuple [vu n,vint e])/\Fit (Ev.widthI (Ss.rsigT op)) n/\(Ev.partialO op=false->e=0):=by
 have hun:Ss.runary op=false:=by
  rcases (Ev.kinds h0).2 with ⟨h1,h2⟩ | ⟨h1,h2⟩
  ·exfalso; omega
  ·exact h1
 obtain ⟨x,y,ha0,ha0',hi1,hx,hy,H⟩:=Ev_bin h0 hun hl hf hu;have hwo:=jN (Ss.rof op);have hte:Ss.rof op=Ss.rof op:=rfl;generalize ht:Ss.rof op=t at *
 have n69 : ¬ op=69:=by omega
 have n80 : ¬ op=80:=by omega
 obtain ⟨k,hk1⟩ : ∃ k:Nat,op=81+(k:Int):=⟨(op-81).toNat,by omega⟩
 have cc:=jbZ k (by omega) x y (Ev.widthI t) (by omega);have wk:IntKind.i64.wrap (op-81)=(k:Int):=by rw [wrap_i64 (by omega) (by omega)]; omega
 refine ⟨Ev.cmpI k x y (Ev.widthI t),0,H _ fun S hwf => ?_, ?_,fun _=>rfl⟩
 ·unfold EvR
  refine bt n69 n80 ?_
  refine QP ?_;refine jb rfl ((in_f 70 79 (by omega))) ?_;refine bQ ?_
  refine QP ?_;refine jb rfl ((in_t 81 90 (by omega))) ?_;refine bQ ?_
  refine QT ?_;refine QD (r:=by conv=>lhs;simp[QV,wk,ha0,ha0',hi1]) (k:=?_);refine QL cc ?_;refine bQ ?_
  exact bN
 ·have hb:=b1_in ((Ev.cmpL x y (Ev.sgnI x (Ev.widthI t)) (Ev.sgnI y (Ev.widthI t))).getD k false);exact JM (jN _) hb.1 (by have:=hb.2; simp only [Ev.cmpI]; omega)
theorem Neval_bits32 (op:Int) (a:List Int) (h0:Ss.rof op≠0) (hlo:103<=op) (hhi:op<=105) (hl:a.length=(Ss.rsig op).1.length) (hf : ∀ (i:Nat) (h1:i<a.length) (h2:i<(Ss.rsig op).1.length),Ev.fits (Ss.rsig op).1[i] a[i]=true) (hu : ∀ x∈a,Ev.U64 x) : ∃ n e:Int,bS 145 [vint op,vl vu a] (.tuple [vu n,vint e])/\Fit (Ev.widthI (Ss.rsigT op)) n/\(Ev.partialO op=false->e=0):=by
 have hun:Ss.runary op=true:=by
  rcases (Ev.kinds h0).2 with ⟨h1,h2⟩ | ⟨h1,h2⟩
  ·exact h1
  ·exfalso; omega
 obtain ⟨x,ha0,ha0',ux,hx,H⟩:=Zs h0 hun hl hf hu;have hwo:=jN (Ss.rof op);have hte:Ss.rof op=Ss.rof op:=rfl;generalize ht:Ss.rof op=t at *
 have n69 : ¬ op=69:=by omega
 have n80 : ¬ op=80:=by omega
 have cc:=Nbits_v (op-103) x (Ev.widthI t) (by omega) (by omega) (by omega);have wk:IntKind.i64.wrap (op-103)=op-103:=wrap_i64 (by omega) (by omega);refine ⟨Ev.pick3 (op-103) (Ev.bitsT x (Ev.widthI t) (Ev.widthI t)),0,H _ fun S hwf => ?_, ?_,fun _=>rfl⟩
 ·unfold EvR
  refine bt n69 n80 ?_
  refine QP ?_;refine jb rfl ((in_f 70 79 (by omega))) ?_;refine bQ ?_
  refine QP ?_;refine jb rfl ((in_f 81 90 (by omega))) ?_;refine bQ ?_
  refine QP ?_;refine jb rfl ((in_t 103 105 (by omega))) ?_;refine bQ ?_
  refine QP ?_ (r:=by conv=>lhs;simp[QV,wk,ha0,ha0']);refine QL cc ?_;refine bQ ?_
  exact bN
 ·obtain ⟨h1,h2,h3⟩:=Ev.bitsT_in x (Ev.widthI t) (Ev.widthI t) (bf _);refine JM (jN _) ?_ ?_
  ·unfold Ev.pick3;split
   ·omega
   ·split<;>omega
  ·unfold Ev.pick3;split
   ·omega
   ·split<;>omega
theorem Neval_bits64 (op:Int) (a:List Int) (h0:Ss.rof op≠0) (hlo:121<=op) (hhi:op<=123) (hl:a.length=(Ss.rsig op).1.length) (hf : ∀ (i:Nat) (h1:i<a.length) (h2:i<(Ss.rsig op).1.length),Ev.fits (Ss.rsig op).1[i] a[i]=true) (hu : ∀ x∈a,Ev.U64 x) : ∃ n e:Int,bS 145 [vint op,vl vu a] (.tuple [vu n,vint e])/\Fit (Ev.widthI (Ss.rsigT op)) n/\(Ev.partialO op=false->e=0):=by
 have hun:Ss.runary op=true:=by
  rcases (Ev.kinds h0).2 with ⟨h1,h2⟩ | ⟨h1,h2⟩
  ·exact h1
  ·exfalso; omega
 obtain ⟨x,ha0,ha0',ux,hx,H⟩:=Zs h0 hun hl hf hu;have hwo:=jN (Ss.rof op);have hte:Ss.rof op=Ss.rof op:=rfl;generalize ht:Ss.rof op=t at *
 have n69 : ¬ op=69:=by omega
 have n80 : ¬ op=80:=by omega
 have cc:=Nbits_v (op-121) x (Ev.widthI t) (by omega) (by omega) (by omega);have wk:IntKind.i64.wrap (op-121)=op-121:=wrap_i64 (by omega) (by omega);refine ⟨Ev.pick3 (op-121) (Ev.bitsT x (Ev.widthI t) (Ev.widthI t)),0,H _ fun S hwf => ?_, ?_,fun _=>rfl⟩
 ·unfold EvR
  refine bt n69 n80 ?_
  refine QP ?_;refine jb rfl ((in_f 70 79 (by omega))) ?_;refine bQ ?_
  refine QP ?_;refine jb rfl ((in_f 81 90 (by omega))) ?_;refine bQ ?_
  refine QP ?_;refine jb rfl ((in_f 103 105 (by omega))) ?_;refine bQ ?_
  refine QP ?_;refine jb rfl ((in_t 121 123 (by omega))) ?_;refine bQ ?_
  refine QP ?_ (r:=by conv=>lhs;simp[QV,wk,ha0,ha0']);refine QL cc ?_;refine bQ ?_
  exact bN
 ·obtain ⟨h1,h2,h3⟩:=Ev.bitsT_in x (Ev.widthI t) (Ev.widthI t) (bf _);refine JM (jN _) ?_ ?_
  ·unfold Ev.pick3;split
   ·omega
   ·split<;>omega
  ·unfold Ev.pick3;split
   ·omega
   ·split<;>omega
theorem jde (op:Int) (a:List Int) (h0:Ss.rof op≠0) (hlo:106<=op) (hhi:op<=120) (hl:a.length=(Ss.rsig op).1.length) (hf : ∀ (i:Nat) (h1:i<a.length) (h2:i<(Ss.rsig op).1.length),Ev.fits (Ss.rsig op).1[i] a[i]=true) (hu : ∀ x∈a,Ev.U64 x) : ∃ n e:Int,bS 145 [vint op,vl vu a] (.tuple [vu n,vint e])/\Fit (Ev.widthI (Ss.rsigT op)) n/\(Ev.partialO op=false->e=0):=by
 have hun:Ss.runary op=false:=by
  rcases (Ev.kinds h0).2 with ⟨h1,h2⟩ | ⟨h1,h2⟩
  ·exfalso; omega
  ·exact h1
 obtain ⟨x,y,ha0,ha0',hi1,hx,hy,H⟩:=Ev_bin h0 hun hl hf hu;have hwo:=jN (Ss.rof op);have hte:Ss.rof op=Ss.rof op:=rfl;generalize ht:Ss.rof op=t at *
 have n69 : ¬ op=69:=by omega
 have n80 : ¬ op=80:=by omega
 obtain ⟨m,er,cc,hfit,htot⟩:=Nwhole_v (op-106) x y (Ev.widthI t) (by omega) (by omega) (by omega) (by omega) hx hy;have wk:IntKind.i64.wrap (op-106)=op-106:=wrap_i64 (by omega) (by omega);have hot:Ss.rsigT op=t:=by rw [Ss.rsigT,if_neg (by omega),if_neg (by rw [rin_f (by omega)]; simp; omega),ht]
 refine ⟨m,er,H _ fun S hwf => ?_,by rw [hot]; exact hfit,fun hp=>htot ?_⟩
 ·unfold EvR
  refine bt n69 n80 ?_
  refine QP ?_;refine jb rfl ((in_f 70 79 (by omega))) ?_;refine bQ ?_
  refine QP ?_;refine jb rfl ((in_f 81 90 (by omega))) ?_;refine bQ ?_
  refine QP ?_;refine jb rfl ((in_f 103 105 (by omega))) ?_;refine bQ ?_
  refine QP ?_;refine jb rfl ((in_f 121 123 (by omega))) ?_;refine bQ ?_
  refine QP ?_;refine jb rfl ((in_t 106 120 (by omega))) ?_;refine bQ ?_
  refine QT ?_;refine QD (r:=by conv=>lhs;simp[QV,wk,ha0,ha0',hi1]) (k:=?_);refine QL cc ?_;refine bQ ?_
  exact bN
 ·simp only [Ev.partialO,Ss.rin,Bool.or_eq_false_iff,Bool.and_eq_false_iff,decide_eq_false_iff_not] at hp;omega
theorem jdd (op:Int) (a:List Int) (h0:Ss.rof op≠0) (hlo:124<=op) (hhi:op<=138) (hl:a.length=(Ss.rsig op).1.length) (hf : ∀ (i:Nat) (h1:i<a.length) (h2:i<(Ss.rsig op).1.length),Ev.fits (Ss.rsig op).1[i] a[i]=true) (hu : ∀ x∈a,Ev.U64 x) : ∃ n e:Int,bS 145 [vint op,vl vu a] (.tuple [vu n,vint e])/\Fit (Ev.widthI (Ss.rsigT op)) n/\(Ev.partialO op=false->e=0):=by
 have hun:Ss.runary op=false:=by
  rcases (Ev.kinds h0).2 with ⟨h1,h2⟩ | ⟨h1,h2⟩
  ·exfalso; omega
  ·exact h1
 obtain ⟨x,y,ha0,ha0',hi1,hx,hy,H⟩:=Ev_bin h0 hun hl hf hu;have hwo:=jN (Ss.rof op);have hte:Ss.rof op=Ss.rof op:=rfl;generalize ht:Ss.rof op=t at *
 have n69 : ¬ op=69:=by omega
 have n80 : ¬ op=80:=by omega
 obtain ⟨m,er,cc,hfit,htot⟩:=Nwhole_v (op-124) x y (Ev.widthI t) (by omega) (by omega) (by omega) (by omega) hx hy;have wk:IntKind.i64.wrap (op-124)=op-124:=wrap_i64 (by omega) (by omega);have hot:Ss.rsigT op=t:=by rw [Ss.rsigT,if_neg (by omega),if_neg (by rw [rin_f (by omega)]; simp; omega),ht]
 refine ⟨m,er,H _ fun S hwf => ?_,by rw [hot]; exact hfit,fun hp=>htot ?_⟩
 ·unfold EvR
  refine bt n69 n80 ?_
  refine QP ?_;refine jb rfl ((in_f 70 79 (by omega))) ?_;refine bQ ?_
  refine QP ?_;refine jb rfl ((in_f 81 90 (by omega))) ?_;refine bQ ?_
  refine QP ?_;refine jb rfl ((in_f 103 105 (by omega))) ?_;refine bQ ?_
  refine QP ?_;refine jb rfl ((in_f 121 123 (by omega))) ?_;refine bQ ?_
  refine QP ?_;refine jb rfl ((in_f 106 120 (by omega))) ?_;refine bQ ?_
  refine QP ?_;refine jb rfl ((in_t 124 138 (by omega))) ?_;refine bQ ?_
  refine QT ?_;refine QD (r:=by conv=>lhs;simp[QV,wk,ha0,ha0',hi1]) (k:=?_);refine QL cc ?_;refine bQ ?_
  exact bN
 ·simp only [Ev.partialO,Ss.rin,Bool.or_eq_false_iff,Bool.and_eq_false_iff,decide_eq_false_iff_not] at hp;omega
theorem Neval_eqz32 (op:Int) (a:List Int) (h0:Ss.rof op≠0) (hlo:69<=op) (hhi:op<=69) (hl:a.length=(Ss.rsig op).1.length) (hf : ∀ (i:Nat) (h1:i<a.length) (h2:i<(Ss.rsig op).1.length),Ev.fits (Ss.rsig op).1[i] a[i]=true) (hu : ∀ x∈a,Ev.U64 x) : ∃ n e:Int,bS 145 [vint op,vl vu a] (.tuple [vu n,vint e])/\Fit (Ev.widthI (Ss.rsigT op)) n/\(Ev.partialO op=false->e=0):=by
 have hun:Ss.runary op=true:=by
  rcases (Ev.kinds h0).2 with ⟨h1,h2⟩ | ⟨h1,h2⟩
  ·exact h1
  ·exfalso; omega
 obtain ⟨x,ha0,ha0',ux,hx,H⟩:=Zs h0 hun hl hf hu;have hwo:=jN (Ss.rof op);have hte:Ss.rof op=Ss.rof op:=rfl;generalize ht:Ss.rof op=t at *
 have q69:(op=69)=True:=eq_true (by omega);have n80 : ¬ op=80:=by omega
 have cb:=Nbool_v (decide (x=0));refine ⟨Ev.b1 (decide (x=0)),0,H _ fun S hwf => ?_, ?_,fun _=>rfl⟩
 ·unfold EvR
  refine bx q69 ?_
  refine bK ha0 ha0' ?_;refine QL cb ?_;refine bQ ?_
  exact bN
 ·have hb:=b1_in (decide (x=0));exact JM (jN _) hb.1 (by have:=hb.2; omega)
theorem Neval_eqz64 (op:Int) (a:List Int) (h0:Ss.rof op≠0) (hlo:80<=op) (hhi:op<=80) (hl:a.length=(Ss.rsig op).1.length) (hf : ∀ (i:Nat) (h1:i<a.length) (h2:i<(Ss.rsig op).1.length),Ev.fits (Ss.rsig op).1[i] a[i]=true) (hu : ∀ x∈a,Ev.U64 x) : ∃ n e:Int,bS 145 [vint op,vl vu a] (.tuple [vu n,vint e])/\Fit (Ev.widthI (Ss.rsigT op)) n/\(Ev.partialO op=false->e=0):=by
 have hun:Ss.runary op=true:=by
  rcases (Ev.kinds h0).2 with ⟨h1,h2⟩ | ⟨h1,h2⟩
  ·exact h1
  ·exfalso; omega
 obtain ⟨x,ha0,ha0',ux,hx,H⟩:=Zs h0 hun hl hf hu;have hwo:=jN (Ss.rof op);have hte:Ss.rof op=Ss.rof op:=rfl;generalize ht:Ss.rof op=t at *
 have n69 : ¬ op=69:=by omega
 have q80:(op=80)=True:=eq_true (by omega);have cb:=Nbool_v (decide (x=0));refine ⟨Ev.b1 (decide (x=0)),0,H _ fun S hwf => ?_, ?_,fun _=>rfl⟩
 ·unfold EvR
  refine bt n69 q80 ?_
  refine bK ha0 ha0' ?_;refine QL cb ?_;refine bQ ?_
  exact bN
 ·have hb:=b1_in (decide (x=0));exact JM (jN _) hb.1 (by have:=hb.2; omega)
def EvQ (op:Int) (a:List Int) (t:Int) (r:V) (S:Store):Prop:=VWp Tryz.prog 169 S.nx (Code.snd (Code.els (Code.snd (Code.els (Code.snd (Code.els (Code.snd (Code.els (Code.snd (Code.els (Code.snd (Code.els (Code.snd (Code.els (Code.snd (Code.inner (Code.fst (Code.snd (Code.snd (Code.snd (Code.snd (Code.snd (jc Tryz.f145)))))))))))))))))))))))
 (ZD (Code.id (Code.fst (Code.snd (Code.snd (Code.snd (Code.snd (Code.snd (jc Tryz.f145)))))))) (Kq (VWp Tryz.prog 169 S.nx (Code.snd (Code.snd (Code.snd (Code.snd (Code.snd (Code.snd (jc Tryz.f145))))))) (bodyV [5,4].reverse (Ja S.nx fun r' S'=>r'=r/\S'=S))) (bodyV [5,4].reverse (Ja S.nx fun r' S'=>r'=r/\S'=S)))) [(0,vint op),(1,vl vu a),(10,vnat (Ev.widthI t)),(135, .bool (decide (op=167)))] (St S [] [])
theorem Zl {op:Int} {a:List Int} {t:Int} {r:V} {S:Store} (h:138<op) (H:EvQ op a t r S):EvR op a t r S:=by
 unfold EvR;have n69 : ¬ op=69:=by omega
 have n80 : ¬ op=80:=by omega
 refine bt n69 n80 ?_
 refine QP ?_;refine jb rfl ((in_f 70 79 (by omega))) ?_;refine bQ ?_
 refine QP ?_;refine jb rfl ((in_f 81 90 (by omega))) ?_;refine bQ ?_
 refine QP ?_;refine jb rfl ((in_f 103 105 (by omega))) ?_;refine bQ ?_
 refine QP ?_;refine jb rfl ((in_f 121 123 (by omega))) ?_;refine bQ ?_
 refine QP ?_;refine jb rfl ((in_f 106 120 (by omega))) ?_;refine bQ ?_
 refine QP ?_;refine jb rfl ((in_f 124 138 (by omega))) ?_;refine bQ ?_
 refine QO [0,1,10,135] ?_;exact H
theorem jdh (op:Int) (a:List Int) (h0:Ss.rof op≠0) (hlo:167<=op) (hhi:op<=167) (hl:a.length=(Ss.rsig op).1.length) (hf : ∀ (i:Nat) (h1:i<a.length) (h2:i<(Ss.rsig op).1.length),Ev.fits (Ss.rsig op).1[i] a[i]=true) (hu : ∀ x∈a,Ev.U64 x) : ∃ n e:Int,bS 145 [vint op,vl vu a] (.tuple [vu n,vint e])/\Fit (Ev.widthI (Ss.rsigT op)) n/\(Ev.partialO op=false->e=0):=by
 have hun:Ss.runary op=true:=by
  rcases (Ev.kinds h0).2 with ⟨h1,h2⟩ | ⟨h1,h2⟩
  ·exact h1
  ·exfalso; omega
 obtain ⟨x,ha0,ha0',ux,hx,H⟩:=Zs h0 hun hl hf hu;have hwo:=jN (Ss.rof op);have hte:Ss.rof op=Ss.rof op:=rfl;generalize ht:Ss.rof op=t at *
 have n69 : ¬ op=69:=by omega
 have n80 : ¬ op=80:=by omega
 have cc:bS 154 [vu x, .int .i64 32] (vu (x % 2^32)):=Ye x 32 (by omega) ux;have hot:Ev.widthI (Ss.rsigT op)=32:=by
  have:op=167:=by omega
  subst this; rfl
 rw [hot];have n172 : ¬ op=172:=by omega
 have n173 : ¬ op=173:=by omega
 have q167:(op=167)=True:=eq_true (by omega);refine ⟨x % 2^32,0,H _ fun S hwf=>Zl (by omega) ?_,zg _ 32,fun _=>rfl⟩;unfold EvQ;rw [decide_eq_true (show op=167 by omega)]
 refine bw ?_
 refine bK ha0 ha0' ?_;refine QL cc ?_;refine bQ ?_
 exact bN
theorem jdg (op:Int) (a:List Int) (h0:Ss.rof op≠0) (hlo:172<=op) (hhi:op<=172) (hl:a.length=(Ss.rsig op).1.length) (hf : ∀ (i:Nat) (h1:i<a.length) (h2:i<(Ss.rsig op).1.length),Ev.fits (Ss.rsig op).1[i] a[i]=true) (hu : ∀ x∈a,Ev.U64 x) : ∃ n e:Int,bS 145 [vint op,vl vu a] (.tuple [vu n,vint e])/\Fit (Ev.widthI (Ss.rsigT op)) n/\(Ev.partialO op=false->e=0):=by
 have hun:Ss.runary op=true:=by
  rcases (Ev.kinds h0).2 with ⟨h1,h2⟩ | ⟨h1,h2⟩
  ·exact h1
  ·exfalso; omega
 obtain ⟨x,ha0,ha0',ux,hx,H⟩:=Zs h0 hun hl hf hu;have hwo:=jN (Ss.rof op);have hte:Ss.rof op=Ss.rof op:=rfl;generalize ht:Ss.rof op=t at *
 have n69 : ¬ op=69:=by omega
 have n80 : ¬ op=80:=by omega
 have cc:bS 155 [vu x, .int .i64 32] (vint (Ev.sgnI x 32)):=qS x 32 (by omega);have hot:Ev.widthI (Ss.rsigT op)=64:=by
  have:op=172:=by omega
  subst this; rfl
 rw [hot];have n167 : ¬ op=167:=by omega
 have n173 : ¬ op=173:=by omega
 have q172:(op=172)=True:=eq_true (by omega);refine ⟨IntKind.u64.wrap (Ev.sgnI x 32),0,H _ fun S hwf=>Zl (by omega) ?_,(by have:=wrap_u64_in (Ev.sgnI x 32); exact ⟨this.1,this.2⟩),fun _=>rfl⟩;unfold EvQ;rw [decide_eq_false n167]
 refine bt n173 q172 ?_
 refine bK ha0 ha0' ?_;refine QL cc ?_;refine bQ ?_
 exact bN
theorem jdf (op:Int) (a:List Int) (h0:Ss.rof op≠0) (hlo:173<=op) (hhi:op<=173) (hl:a.length=(Ss.rsig op).1.length) (hf : ∀ (i:Nat) (h1:i<a.length) (h2:i<(Ss.rsig op).1.length),Ev.fits (Ss.rsig op).1[i] a[i]=true) (hu : ∀ x∈a,Ev.U64 x) : ∃ n e:Int,bS 145 [vint op,vl vu a] (.tuple [vu n,vint e])/\Fit (Ev.widthI (Ss.rsigT op)) n/\(Ev.partialO op=false->e=0):=by
 have hun:Ss.runary op=true:=by
  rcases (Ev.kinds h0).2 with ⟨h1,h2⟩ | ⟨h1,h2⟩
  ·exact h1
  ·exfalso; omega
 obtain ⟨x,ha0,ha0',ux,hx,H⟩:=Zs h0 hun hl hf hu;have hwo:=jN (Ss.rof op);have hte:Ss.rof op=Ss.rof op:=rfl;generalize ht:Ss.rof op=t at *
 have n69 : ¬ op=69:=by omega
 have n80 : ¬ op=80:=by omega
 have hot:Ev.widthI (Ss.rsigT op)=64:=by
  have:op=173:=by omega
  subst this; rfl
 rw [hot];have n167 : ¬ op=167:=by omega
 have n172 : ¬ op=172:=by omega
 have q173:(op=173)=True:=eq_true (by omega);refine ⟨x,0,H _ fun S hwf=>Zl (by omega) ?_,⟨ux.1,ux.2⟩,fun _=>rfl⟩;unfold EvQ;rw [decide_eq_false n167]
 refine bt n172 q173 ?_
 refine bt ha0 ha0' ?_
 exact bN
theorem Neval_ext192 (op:Int) (a:List Int) (h0:Ss.rof op≠0) (hlo:192<=op) (hhi:op<=192) (hl:a.length=(Ss.rsig op).1.length) (hf : ∀ (i:Nat) (h1:i<a.length) (h2:i<(Ss.rsig op).1.length),Ev.fits (Ss.rsig op).1[i] a[i]=true) (hu : ∀ x∈a,Ev.U64 x) : ∃ n e:Int,bS 145 [vint op,vl vu a] (.tuple [vu n,vint e])/\Fit (Ev.widthI (Ss.rsigT op)) n/\(Ev.partialO op=false->e=0):=by
 have hun:Ss.runary op=true:=by
  rcases (Ev.kinds h0).2 with ⟨h1,h2⟩ | ⟨h1,h2⟩
  ·exact h1
  ·exfalso; omega
 obtain ⟨x,ha0,ha0',ux,hx,H⟩:=Zs h0 hun hl hf hu;have hwo:=jN (Ss.rof op);have hte:Ss.rof op=Ss.rof op:=rfl;generalize ht:Ss.rof op=t at *
 have n69 : ¬ op=69:=by omega
 have n80 : ¬ op=80:=by omega
 have n167 : ¬ op=167:=by omega
 have n172 : ¬ op=172:=by omega
 have n173 : ¬ op=173:=by omega
 have hr5:rep0 [V.int .i64 0] 5=[.int .i64 0, .int .i64 0, .int .i64 0, .int .i64 0, .int .i64 0]:=rfl;have wk:IntKind.i64.wrap (op-192)=0:=by rw [wrap_i64 (by omega) (by omega)]; omega
 have c1:bS 155 [vu x, .int .i64 8] (vint (Ev.sgnI x 8)):=qS x 8 (by omega);have c2:=Ye (IntKind.u64.wrap (Ev.sgnI x 8)) (Ev.widthI t) (by omega) (wrap_u64_in _);have hot:Ss.rsigT op=t:=by rw [Ss.rsigT,if_neg (by omega),if_neg (by rw [rin_f (by omega)]; simp; omega),ht]
 refine ⟨(IntKind.u64.wrap (Ev.sgnI x 8)) % 2^(Ev.widthI t),0,H _ fun S hwf=>Zl (by omega) ?_,by rw [hot]; exact zg _ _,fun _=>rfl⟩;unfold EvQ;rw [decide_eq_false n167]
 refine bt n172 n173 ?_
 refine QY ?_ (r:=by conv=>lhs;simp[QV,hr5,wk]);refine bK ha0 ha0' ?_;refine QL c1 ?_;refine QZ ?_;refine QL c2 ?_;refine bQ ?_
 exact bN
theorem Neval_ext193 (op:Int) (a:List Int) (h0:Ss.rof op≠0) (hlo:193<=op) (hhi:op<=193) (hl:a.length=(Ss.rsig op).1.length) (hf : ∀ (i:Nat) (h1:i<a.length) (h2:i<(Ss.rsig op).1.length),Ev.fits (Ss.rsig op).1[i] a[i]=true) (hu : ∀ x∈a,Ev.U64 x) : ∃ n e:Int,bS 145 [vint op,vl vu a] (.tuple [vu n,vint e])/\Fit (Ev.widthI (Ss.rsigT op)) n/\(Ev.partialO op=false->e=0):=by
 have hun:Ss.runary op=true:=by
  rcases (Ev.kinds h0).2 with ⟨h1,h2⟩ | ⟨h1,h2⟩
  ·exact h1
  ·exfalso; omega
 obtain ⟨x,ha0,ha0',ux,hx,H⟩:=Zs h0 hun hl hf hu;have hwo:=jN (Ss.rof op);have hte:Ss.rof op=Ss.rof op:=rfl;generalize ht:Ss.rof op=t at *
 have n69 : ¬ op=69:=by omega
 have n80 : ¬ op=80:=by omega
 have n167 : ¬ op=167:=by omega
 have n172 : ¬ op=172:=by omega
 have n173 : ¬ op=173:=by omega
 have hr5:rep0 [V.int .i64 0] 5=[.int .i64 0, .int .i64 0, .int .i64 0, .int .i64 0, .int .i64 0]:=rfl;have wk:IntKind.i64.wrap (op-192)=1:=by rw [wrap_i64 (by omega) (by omega)]; omega
 have c1:bS 155 [vu x, .int .i64 16] (vint (Ev.sgnI x 16)):=qS x 16 (by omega);have c2:=Ye (IntKind.u64.wrap (Ev.sgnI x 16)) (Ev.widthI t) (by omega) (wrap_u64_in _);have hot:Ss.rsigT op=t:=by rw [Ss.rsigT,if_neg (by omega),if_neg (by rw [rin_f (by omega)]; simp; omega),ht]
 refine ⟨(IntKind.u64.wrap (Ev.sgnI x 16)) % 2^(Ev.widthI t),0,H _ fun S hwf=>Zl (by omega) ?_,by rw [hot]; exact zg _ _,fun _=>rfl⟩;unfold EvQ;rw [decide_eq_false n167]
 refine bt n172 n173 ?_
 refine QY ?_ (r:=by conv=>lhs;simp[QV,hr5,wk]);refine bK ha0 ha0' ?_;refine QL c1 ?_;refine QZ ?_;refine QL c2 ?_;refine bQ ?_
 exact bN
theorem Neval_ext194 (op:Int) (a:List Int) (h0:Ss.rof op≠0) (hlo:194<=op) (hhi:op<=194) (hl:a.length=(Ss.rsig op).1.length) (hf : ∀ (i:Nat) (h1:i<a.length) (h2:i<(Ss.rsig op).1.length),Ev.fits (Ss.rsig op).1[i] a[i]=true) (hu : ∀ x∈a,Ev.U64 x) : ∃ n e:Int,bS 145 [vint op,vl vu a] (.tuple [vu n,vint e])/\Fit (Ev.widthI (Ss.rsigT op)) n/\(Ev.partialO op=false->e=0):=by
 have hun:Ss.runary op=true:=by
  rcases (Ev.kinds h0).2 with ⟨h1,h2⟩ | ⟨h1,h2⟩
  ·exact h1
  ·exfalso; omega
 obtain ⟨x,ha0,ha0',ux,hx,H⟩:=Zs h0 hun hl hf hu;have hwo:=jN (Ss.rof op);have hte:Ss.rof op=Ss.rof op:=rfl;generalize ht:Ss.rof op=t at *
 have n69 : ¬ op=69:=by omega
 have n80 : ¬ op=80:=by omega
 have n167 : ¬ op=167:=by omega
 have n172 : ¬ op=172:=by omega
 have n173 : ¬ op=173:=by omega
 have hr5:rep0 [V.int .i64 0] 5=[.int .i64 0, .int .i64 0, .int .i64 0, .int .i64 0, .int .i64 0]:=rfl;have wk:IntKind.i64.wrap (op-192)=2:=by rw [wrap_i64 (by omega) (by omega)]; omega
 have c1:bS 155 [vu x, .int .i64 8] (vint (Ev.sgnI x 8)):=qS x 8 (by omega);have c2:=Ye (IntKind.u64.wrap (Ev.sgnI x 8)) (Ev.widthI t) (by omega) (wrap_u64_in _);have hot:Ss.rsigT op=t:=by rw [Ss.rsigT,if_neg (by omega),if_neg (by rw [rin_f (by omega)]; simp; omega),ht]
 refine ⟨(IntKind.u64.wrap (Ev.sgnI x 8)) % 2^(Ev.widthI t),0,H _ fun S hwf=>Zl (by omega) ?_,by rw [hot]; exact zg _ _,fun _=>rfl⟩;unfold EvQ;rw [decide_eq_false n167]
 refine bt n172 n173 ?_
 refine QY ?_ (r:=by conv=>lhs;simp[QV,hr5,wk]);refine bK ha0 ha0' ?_;refine QL c1 ?_;refine QZ ?_;refine QL c2 ?_;refine bQ ?_
 exact bN
theorem Neval_ext195 (op:Int) (a:List Int) (h0:Ss.rof op≠0) (hlo:195<=op) (hhi:op<=195) (hl:a.length=(Ss.rsig op).1.length) (hf : ∀ (i:Nat) (h1:i<a.length) (h2:i<(Ss.rsig op).1.length),Ev.fits (Ss.rsig op).1[i] a[i]=true) (hu : ∀ x∈a,Ev.U64 x) : ∃ n e:Int,bS 145 [vint op,vl vu a] (.tuple [vu n,vint e])/\Fit (Ev.widthI (Ss.rsigT op)) n/\(Ev.partialO op=false->e=0):=by
 have hun:Ss.runary op=true:=by
  rcases (Ev.kinds h0).2 with ⟨h1,h2⟩ | ⟨h1,h2⟩
  ·exact h1
  ·exfalso; omega
 obtain ⟨x,ha0,ha0',ux,hx,H⟩:=Zs h0 hun hl hf hu;have hwo:=jN (Ss.rof op);have hte:Ss.rof op=Ss.rof op:=rfl;generalize ht:Ss.rof op=t at *
 have n69 : ¬ op=69:=by omega
 have n80 : ¬ op=80:=by omega
 have n167 : ¬ op=167:=by omega
 have n172 : ¬ op=172:=by omega
 have n173 : ¬ op=173:=by omega
 have hr5:rep0 [V.int .i64 0] 5=[.int .i64 0, .int .i64 0, .int .i64 0, .int .i64 0, .int .i64 0]:=rfl;have wk:IntKind.i64.wrap (op-192)=3:=by rw [wrap_i64 (by omega) (by omega)]; omega
 have c1:bS 155 [vu x, .int .i64 16] (vint (Ev.sgnI x 16)):=qS x 16 (by omega);have c2:=Ye (IntKind.u64.wrap (Ev.sgnI x 16)) (Ev.widthI t) (by omega) (wrap_u64_in _);have hot:Ss.rsigT op=t:=by rw [Ss.rsigT,if_neg (by omega),if_neg (by rw [rin_f (by omega)]; simp; omega),ht]
 refine ⟨(IntKind.u64.wrap (Ev.sgnI x 16)) % 2^(Ev.widthI t),0,H _ fun S hwf=>Zl (by omega) ?_,by rw [hot]; exact zg _ _,fun _=>rfl⟩;unfold EvQ;rw [decide_eq_false n167]
 refine bt n172 n173 ?_
 refine QY ?_ (r:=by conv=>lhs;simp[QV,hr5,wk]);refine bK ha0 ha0' ?_;refine QL c1 ?_;refine QZ ?_;refine QL c2 ?_;refine bQ ?_
 exact bN
theorem Neval_ext196 (op:Int) (a:List Int) (h0:Ss.rof op≠0) (hlo:196<=op) (hhi:op<=196) (hl:a.length=(Ss.rsig op).1.length) (hf : ∀ (i:Nat) (h1:i<a.length) (h2:i<(Ss.rsig op).1.length),Ev.fits (Ss.rsig op).1[i] a[i]=true) (hu : ∀ x∈a,Ev.U64 x) : ∃ n e:Int,bS 145 [vint op,vl vu a] (.tuple [vu n,vint e])/\Fit (Ev.widthI (Ss.rsigT op)) n/\(Ev.partialO op=false->e=0):=by
 have hun:Ss.runary op=true:=by
  rcases (Ev.kinds h0).2 with ⟨h1,h2⟩ | ⟨h1,h2⟩
  ·exact h1
  ·exfalso; omega
 obtain ⟨x,ha0,ha0',ux,hx,H⟩:=Zs h0 hun hl hf hu;have hwo:=jN (Ss.rof op);have hte:Ss.rof op=Ss.rof op:=rfl;generalize ht:Ss.rof op=t at *
 have n69 : ¬ op=69:=by omega
 have n80 : ¬ op=80:=by omega
 have n167 : ¬ op=167:=by omega
 have n172 : ¬ op=172:=by omega
 have n173 : ¬ op=173:=by omega
 have hr5:rep0 [V.int .i64 0] 5=[.int .i64 0, .int .i64 0, .int .i64 0, .int .i64 0, .int .i64 0]:=rfl;have wk:IntKind.i64.wrap (op-192)=4:=by rw [wrap_i64 (by omega) (by omega)]; omega
 have c1:bS 155 [vu x, .int .i64 32] (vint (Ev.sgnI x 32)):=qS x 32 (by omega);have c2:=Ye (IntKind.u64.wrap (Ev.sgnI x 32)) (Ev.widthI t) (by omega) (wrap_u64_in _);have hot:Ss.rsigT op=t:=by rw [Ss.rsigT,if_neg (by omega),if_neg (by rw [rin_f (by omega)]; simp; omega),ht]
 refine ⟨(IntKind.u64.wrap (Ev.sgnI x 32)) % 2^(Ev.widthI t),0,H _ fun S hwf=>Zl (by omega) ?_,by rw [hot]; exact zg _ _,fun _=>rfl⟩;unfold EvQ;rw [decide_eq_false n167]
 refine bt n172 n173 ?_
 refine QY ?_ (r:=by conv=>lhs;simp[QV,hr5,wk]);refine bK ha0 ha0' ?_;refine QL c1 ?_;refine QZ ?_;refine QL c2 ?_;refine bQ ?_
 exact bN
theorem Neval_ok (op:Int) (a:List Int) (h:Ev.argsOk op a) (hu : ∀ x∈a,Ev.U64 x) : ∃ n e:Int,bS 145 [vint op,vl vu a] (.tuple [vu n,vint e])/\Fit (Ev.widthI (Ss.rsigT op)) n/\(Ev.partialO op=false->e=0):=by
 obtain ⟨h0,hl,hf⟩:=h;obtain ⟨_,hk⟩:=Ev.kinds h0;rcases hk with ⟨_,h⟩ | ⟨_,h⟩
 ·rcases h with h | h | h | h | h | h | h | h
  ·exact Neval_eqz32 op a h0 (by omega) (by omega) hl hf hu
  ·exact Neval_eqz64 op a h0 (by omega) (by omega) hl hf hu
  ·exact Neval_bits32 op a h0 h.1 h.2 hl hf hu
  ·exact Neval_bits64 op a h0 h.1 h.2 hl hf hu
  ·exact jdh op a h0 (by omega) (by omega) hl hf hu
  ·exact jdg op a h0 (by omega) (by omega) hl hf hu
  ·exact jdf op a h0 (by omega) (by omega) hl hf hu
  ·rcases (by omega:op=192\/op=193\/op=194\/op=195\/op=196) with h | h | h | h | h
   ·exact Neval_ext192 op a h0 (by omega) (by omega) hl hf hu
   ·exact Neval_ext193 op a h0 (by omega) (by omega) hl hf hu
   ·exact Neval_ext194 op a h0 (by omega) (by omega) hl hf hu
   ·exact Neval_ext195 op a h0 (by omega) (by omega) hl hf hu
   ·exact Neval_ext196 op a h0 (by omega) (by omega) hl hf hu
 ·rcases h with h | h | h | h
  ·exact Neval_cmp32 op a h0 h.1 h.2 hl hf hu
  ·exact Neval_cmp64 op a h0 h.1 h.2 hl hf hu
  ·exact jde op a h0 h.1 h.2 hl hf hu
  ·exact jdd op a h0 h.1 h.2 hl hf hu
theorem Yd (op:Int):bS 110 [vint op] (.tuple [vint ((Ss.accOf op).getD ⟨0,0,false,false⟩).kind,vint ((Ss.accOf op).getD ⟨0,0,false,false⟩).width, .bool ((Ss.accOf op).getD ⟨0,0,false,false⟩).store, .bool (Ss.accOf op).isSome]):=by
 intro S
 by_cases h:op=40\/op=41\/op=44\/op=45\/op=46\/op=47\/op=48\/op=49\/op=50\/op=51\/op=52\/op=53\/op=54\/op=55\/op=58\/op=59\/op=60\/op=61\/op=62
 ·refine QB (c:=jc Tryz.f110) Tryz.func110 Tryz.ntmps110 fun hwf=>?_
  rcases h with rfl | rfl | rfl | rfl | rfl | rfl | rfl | rfl | rfl | rfl | rfl | rfl | rfl | rfl | rfl | rfl | rfl | rfl | rfl
  all_goals
   refine bw ?_
   exact bN
 ·simp only [not_or] at h;obtain ⟨h1,h2,h3,h4,h5,h6,h7,h8,h9,h10,h11,h12,h13,h14,h15,h16,h17,h18,h19⟩:=h;have hn:Ss.accOf op=none:=by simp [Ss.accOf,Ss.accL,Ss.findK,h1,h2,h3,h4,h5,h6,h7,h8,h9,h10,h11,h12,h13,h14,h15,h16,h17,h18,h19]
  rw [hn];refine QB (c:=jc Tryz.f110) Tryz.func110 Tryz.ntmps110 fun hwf=>?_
  repeat first|refine QG ?_|refine QY ?_ (r:=by conv=>lhs;simp[QV,h1,h2,h3,h4,h5,h6,h7,h8,h9,h10,h11,h12,h13,h14,h15,h16,h17,h18,h19])
  exact bN
def vby (n:Int):V := .int .u8 n
def byteL (m:List Int):Prop:=m.length<=140737488355328 /\ ∀ x∈m,0<=x/\x<256
end Go.Vw
namespace Ev
open Go.Vw
def insideI (len:Nat) (addr e:Int):Bool:=decide (addr<=1099511627776)&&decide (e<=1099511627776)&&decide (addr+e<=len)
end Ev
namespace Go.Vw
open Go.Proofs Go.RowKit
attribute [-simp] List.map_set
theorem jbd (m:List Int) (addr e:Int) (hm:byteL m) (ha:0<=addr) (he:0<=e):bS 141 [vl vby m,vu addr,vu e] (.bool (Ev.insideI m.length addr e)):=by
 intro S;have hml:=hm.1;have wl:IntKind.u64.wrap (m.length:Int)=m.length:=bO;refine QB (c:=jc Tryz.f141) Tryz.func141 Tryz.ntmps141 fun hwf=>?_
 refine QY ?_
 by_cases h1:addr<=1099511627776
 ·by_cases h2:e<=1099511627776
  ·have ws:IntKind.u64.wrap (addr+e)=addr+e:=bO;have hX:Ev.insideI m.length addr e=decide (addr+e<=m.length):=by simp [Ev.insideI,h1,h2]
   rw [hX]
   refine bD h1 h2 ws wl ?_
   exact bN
  ·have hX:Ev.insideI m.length addr e=false:=by simp [Ev.insideI,h2]
   rw [hX]
   refine bt h1 h2 ?_
   exact bN
 ·have hX:Ev.insideI m.length addr e=false:=by simp [Ev.insideI,h1]
  rw [hX]
  refine bx h1 ?_
  exact bN
def sgnO (op:Int):Bool:=decide (op=44)||(decide (op=46)||(decide (op=48)||(decide (op=50)||decide (op=52))))
theorem Msigned_v (op:Int):bS 148 [vint op] (.bool (sgnO op)):=by
 intro S;refine QB (c:=jc Tryz.f148) Tryz.func148 Tryz.ntmps148 fun hwf=>?_
 refine QY ?_
 by_cases h1:op=44
 ·have hX:sgnO op=true:=by simp [sgnO,h1]
  have q:(op=44)=True:=eq_true h1;rw [hX]
  refine bx q ?_
  exact bN
 by_cases h2:op=46
 ·have hX:sgnO op=true:=by simp [sgnO,h2]
  have q:(op=46)=True:=eq_true h2;rw [hX]
  refine bt h1 q ?_
  exact bN
 by_cases h3:op=48
 ·have hX:sgnO op=true:=by simp [sgnO,h3]
  have q:(op=48)=True:=eq_true h3;rw [hX]
  refine bv h1 h2 q ?_
  exact bN
 by_cases h4:op=50
 ·have hX:sgnO op=true:=by simp [sgnO,h4]
  have q:(op=50)=True:=eq_true h4;rw [hX]
  refine bD h1 h2 h3 q ?_
  exact bN
 by_cases h5:op=52
 ·have hX:sgnO op=true:=by simp [sgnO,h5]
  have q:(op=52)=True:=eq_true h5;rw [hX]
  refine bJ h1 h2 h3 h4 q ?_
  exact bN
 have hX:sgnO op=false:=by simp [sgnO,h1,h2,h3,h4,h5]
 rw [hX]
 refine bJ h1 h2 h3 h4 h5 ?_
 exact bN
end Go.Vw
