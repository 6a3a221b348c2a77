import Derived.Test.YtkfllaokjaldnaaGreatC8
/- Part of the proof. -/
set_option linter.unusedVariables false
set_option linter.unusedSimpArgs false
set_option maxRecDepth 10000
set_option maxHeartbeats 8000000
namespace Ev
def partialO (op:Int):Bool:=Ss.rin op 109 112||Ss.rin op 127 130
def argsOk (op:Int) (a:List Int):Prop:=Ss.rof op≠0/\a.length=(Ss.rsig op).1.length /\ ∀ (i:Nat) (h1:i<a.length) (h2:i<(Ss.rsig op).1.length),fits (Ss.rsig op).1[i] a[i]=true
end Ev
namespace Go.Vw
open Go.Proofs Go.RowKit
attribute [-simp] List.map_set
theorem JL {w:Nat} (hw:w=32\/w=64) {n:Int} (h0:0<=n) (h1:n<=64):Fit w n:=by
 rcases hw with rfl | rfl
 .exact ⟨h0,by omega⟩
 .exact ⟨h0,by omega⟩
theorem azn {op a b:Int} (h1:a<=op) (h2:op<=b):Ss.rin op a b=true:=by simp [Ss.rin,h1,h2]
theorem abk {op a b:Int} (h:op<a\/b<op):Ss.rin op a b=false:=by
 simp only [Ss.rin,Bool.and_eq_false_iff,decide_eq_false_iff_not];omega
theorem in_t {op:Int} (a b:Int) (h:a<=op/\op<=b):b8 126 [cj op, .int .i64 a, .int .i64 b] (.bool true):=by
 have:=in_v op a b
 rwa [azn h.1 h.2] at this
theorem in_f {op:Int} (a b:Int) (h:op<a\/b<op):b8 126 [cj op, .int .i64 a, .int .i64 b] (.bool false):=by
 have:=in_v op a b
 rwa [abk h] at this
theorem jO (t:Int):Ev.cA t=32\/Ev.cA t=64:=by
 unfold Ev.cA; split<;>simp
def EvOk (op:Int) (a:List Int):Prop := ∃ n e:Int,b8 153 [cj op,vl vu a] (.tuple [vu n,cj e])/\Fit (Ev.cA (Ss.rsigT op)) n/\(Ev.partialO op=false->e=0)
def EvR (op:Int) (a:List Int) (t:Int) (r:V) (S:Store):Prop:=VWp Tryz.prog 169 S.nx (Code.snd (Code.snd (Code.snd (Code.snd (Code.snd (jc Tryz.f153)))))) (bodyV [5,4].reverse (Jb S.nx fun r' S'=>r'=r/\S'=S)) [(0,cj op),(1,vl vu a),(10,cu (Ev.cA t))] (St S [] [])
theorem ajf (op:Int) (a l:List Int) (t q:Int) (cs:b8 119 [cj op] (.tuple [vl cj l,cj q, .bool true])) (hl:a.length=l.length) (ha2:a.length<=2) (hf : ∀ (i:Nat) (h1:i<a.length) (h2:i<l.length),Ev.fits l[i] a[i]=true) (hl0:0<l.length) (hl0':l[0]=t) (r:V) (H : ∀ S:Store,S.Wf->EvR op a t r S):b8 153 [cj op,vl vu a] r:=by
 intro S;have H:=H S;have cw:=asi t;have hlN:l.length=a.length:=hl.symm;have hlI:(l.length:Int)=(a.length:Int):=by omega
 refine b7 Tryz.func153 Tryz.ntmps153 fun hwf=>?_
 refine QY ?_;refine QP ?_;refine QL cs ?_;refine QW ?_
 refine bF hlI hlN ?_
 refine bX [0,1,6,9] (fun c σ S' => ∃ (i:Nat),i<=a.length/\c=a.length-i/\σ=[(0,cj op),(1,vl vu a),(6,vl cj l),(9,cu i)]/\S'=St S [] []) a.length ?_ ?_
 .exact ⟨0,by omega,rfl,by simp [Fr.oy,Fr.lk],by simp⟩
 rintro c σ T ⟨i,hi,rfl,rfl,rfl⟩
 by_cases hit:i<a.length
 .have hwi:=jg hit (by omega);have hil:i<l.length:=by omega
  have cf:=jbp l[i] a[i];have hfe:Ev.fits l[i] a[i]=(decide (l[i]=126)||(decide (l[i]=127)&&decide (a[i]<4294967296))):=rfl;rw [<-hfe,hf i hit hil] at cf;obtain ⟨b,hb⟩ : ∃ b,b=true:=⟨_,rfl⟩
  rw [<-hb] at cf;obtain ⟨li,hli⟩ : ∃ x,l[i]=x:=⟨_,rfl⟩
  obtain ⟨ai,hai⟩ : ∃ x,a[i]=x:=⟨_,rfl⟩
  rw [hli,hai] at cf
  refine bD hit ?_
  refine bY (r:=by conv=>lhs;simp[QV,hit,hil,hli,hai]) (k:=?_);refine QL cf ?_;refine bJ hb ?_;refine QN ?_
  refine bD hwi ?_
  show jx _ _ _ _ _ _ _;exact again ⟨ao hit (aW i),i+1,hit,rfl,by simp [Fr.oy,Fr.lk],rfl⟩
 clear hf
 refine bD hit ?_
 refine bQ hl0 hl0' ?_;refine QL cw ?_;refine QW ?_;refine QO [0,1,10] ?_;exact H hwf
theorem ZI {op:Int} {a:List Int} (h:Ev.argsOk op a) (hun:Ss.runary op=true) (hu : ∀ x∈a,Ev.U64 x) :
  ∃ (x:Int) (h:0<a.length),a[0]=x/\Ev.U64 x/\Fit (Ev.cA (Ss.rof op)) x /\ ∀ r,(∀ S:Store,S.Wf->EvR op a (Ss.rof op) r S)->b8 153 [cj op,vl vu a] r:=by
 obtain ⟨h0,hl,hf⟩:=h;have cs:=KI op;rw [<-Ss.abe op] at cs;have hX:Ss.rsig op=([Ss.rof op],Ss.rsigT op,true):=by rw [Ss.rsig,if_neg h0,hun]; rfl
 rw [hX] at cs;simp only [hX] at hl hf;obtain ⟨x,rfl⟩ : ∃ x,a=[x]:=by
  match a,hl with
  | [x],_=>exact ⟨x,rfl⟩
 have hx:=hu x (by simp);exact ⟨x,by simp,rfl,hx,jdb (Ev.kinds h0).1 hx (hf 0 (by simp) (by simp)),ajf op [x] _ _ _ cs rfl (by simp) hf (by simp) rfl⟩
theorem ack {op:Int} {a:List Int} (h:Ev.argsOk op a) (hun:Ss.runary op=false) (hu : ∀ x∈a,Ev.U64 x) :
  ∃ (x y:Int) (h:0<a.length),a[0]=x/\(∀ S',jF 1 S' (vl vu a) (.int .i64 1)=some (.ref (vu y)))/\Fit (Ev.cA (Ss.rof op)) x/\Fit (Ev.cA (Ss.rof op)) y /\ ∀ r,(∀ S:Store,S.Wf->EvR op a (Ss.rof op) r S)->b8 153 [cj op,vl vu a] r:=by
 obtain ⟨h0,hl,hf⟩:=h;have cs:=KI op;rw [<-Ss.abe op] at cs;have hX:Ss.rsig op=([Ss.rof op,Ss.rof op],Ss.rsigT op,true):=by rw [Ss.rsig,if_neg h0,hun]; rfl
 rw [hX] at cs;simp only [hX] at hl hf;obtain ⟨x,y,rfl⟩ : ∃ x y,a=[x,y]:=by
  match a,hl with
  | [x,y],_=>exact ⟨x,y,rfl⟩
 have hk:=(Ev.kinds h0).1;exact ⟨x,y,by simp,rfl,fun S'=>zl (S:=S') (enc:=vu) (l:=[x,y]) (k := .i64) (i:=1) (x:=y) (s:=1) rfl rfl,jdb hk (hu x (by simp)) (hf 0 (by simp) (by simp)),jdb hk (hu y (by simp)) (hf 1 (by simp) (by simp)),ajf op [x,y] _ _ _ cs rfl (by simp) hf (by simp) rfl⟩
theorem ain {op:Int} {a:List Int} (h:Ev.argsOk op a) (hu : ∀ x∈a,Ev.U64 x) (hun:Ss.runary op=false) (hop:70<=op/\op<=79):EvOk op a:=by
 obtain ⟨hlo,hhi⟩:=hop;obtain ⟨x,y,ha0,ha0',hi1,hx,hy,H⟩:=ack h hun hu;have hwo:=jO (Ss.rof op);clear h;generalize ht:Ss.rof op=t at *
 have n69 : ¬ op=69:=by omega
 have n80 : ¬ op=80:=by omega
 obtain ⟨k,hk1⟩ : ∃ k:Nat,op=70+(k:Int):=⟨(op-70).toNat,by omega⟩
 have cc:=jcl k (by omega) x y (Ev.cA t) (by omega);have wk:IntKind.i64.wrap (op-70)=(k:Int):=by rw [wrap_i64 (by omega) (by omega)]; omega
 refine ⟨Ev.cmpI k x y (Ev.cA t),0,H _ fun S hwf => ?_, ?_,fun _=>rfl⟩
 .unfold EvR
  refine bF n69 n80 ?_
  refine QP ?_;refine jb rfl ((in_t 70 79 (by omega))) ?_;refine bV ?_
  refine bY (r:=by conv=>lhs;simp[QV,wk,ha0,ha0',hi1]) (k:=?_);refine QL cc ?_;refine bV ?_
  exact bS
 .have hb:=aei ((Ev.cmpL x y (Ev.sgnI x (Ev.cA t)) (Ev.sgnI y (Ev.cA t))).getD k false);exact JL (jO _) hb.1 (by have:=hb.2; simp only [Ev.cmpI]; omega)
theorem ai2 {op:Int} {a:List Int} (h:Ev.argsOk op a) (hu : ∀ x∈a,Ev.U64 x) (hun:Ss.runary op=false) (hop:81<=op/\op<=90):EvOk op a:=by
 obtain ⟨hlo,hhi⟩:=hop;obtain ⟨x,y,ha0,ha0',hi1,hx,hy,H⟩:=ack h hun hu;have hwo:=jO (Ss.rof op);clear h;generalize ht:Ss.rof op=t at *
 have n69 : ¬ op=69:=by omega
 have n80 : ¬ op=80:=by omega
 obtain ⟨k,hk1⟩ : ∃ k:Nat,op=81+(k:Int):=⟨(op-81).toNat,by omega⟩
 have cc:=jcl k (by omega) x y (Ev.cA t) (by omega);have wk:IntKind.i64.wrap (op-81)=(k:Int):=by rw [wrap_i64 (by omega) (by omega)]; omega
 refine ⟨Ev.cmpI k x y (Ev.cA t),0,H _ fun S hwf => ?_, ?_,fun _=>rfl⟩
 .unfold EvR
  refine bF n69 n80 ?_
  refine QP ?_;refine jb rfl ((in_f 70 79 (by omega))) ?_;refine bV ?_
  refine QP ?_;refine jb rfl ((in_t 81 90 (by omega))) ?_;refine bV ?_
  refine bY (r:=by conv=>lhs;simp[QV,wk,ha0,ha0',hi1]) (k:=?_);refine QL cc ?_;refine bV ?_
  exact bS
 .have hb:=aei ((Ev.cmpL x y (Ev.sgnI x (Ev.cA t)) (Ev.sgnI y (Ev.cA t))).getD k false);exact JL (jO _) hb.1 (by have:=hb.2; simp only [Ev.cmpI]; omega)
theorem af9 {op:Int} {a:List Int} (h:Ev.argsOk op a) (hu : ∀ x∈a,Ev.U64 x) (hun:Ss.runary op=true) (hop:103<=op/\op<=105):EvOk op a:=by
 obtain ⟨hlo,hhi⟩:=hop;obtain ⟨x,ha0,ha0',ux,hx,H⟩:=ZI h hun hu;have hwo:=jO (Ss.rof op);clear h;generalize ht:Ss.rof op=t at *
 have n69 : ¬ op=69:=by omega
 have n80 : ¬ op=80:=by omega
 have cc:=aj4 (op-103) x (Ev.cA t) (by omega) (by omega) (by omega);have wk:IntKind.i64.wrap (op-103)=op-103:=wrap_i64 (by omega) (by omega);refine ⟨Ev.pick3 (op-103) (Ev.bitsT x (Ev.cA t) (Ev.cA t)),0,H _ fun S hwf => ?_, ?_,fun _=>rfl⟩
 .unfold EvR
  refine bF n69 n80 ?_
  refine QP ?_;refine jb rfl ((in_f 70 79 (by omega))) ?_;refine bV ?_
  refine QP ?_;refine jb rfl ((in_f 81 90 (by omega))) ?_;refine bV ?_
  refine QP ?_;refine jb rfl ((in_t 103 105 (by omega))) ?_;refine bV ?_
  refine QP ?_ (r:=by conv=>lhs;simp[QV,wk,ha0,ha0']);refine QL cc ?_;refine bV ?_
  exact bS
 .obtain ⟨h1,h2,h3⟩:=Ev.ab0 x (Ev.cA t) (Ev.cA t) (a9 _);refine JL (jO _) ?_ ?_
  .unfold Ev.pick3;split
   .omega
   .split<;>omega
  .unfold Ev.pick3;split
   .omega
   .split<;>omega
theorem ahl {op:Int} {a:List Int} (h:Ev.argsOk op a) (hu : ∀ x∈a,Ev.U64 x) (hun:Ss.runary op=true) (hop:121<=op/\op<=123):EvOk op a:=by
 obtain ⟨hlo,hhi⟩:=hop;obtain ⟨x,ha0,ha0',ux,hx,H⟩:=ZI h hun hu;have hwo:=jO (Ss.rof op);clear h;generalize ht:Ss.rof op=t at *
 have n69 : ¬ op=69:=by omega
 have n80 : ¬ op=80:=by omega
 have cc:=aj4 (op-121) x (Ev.cA t) (by omega) (by omega) (by omega);have wk:IntKind.i64.wrap (op-121)=op-121:=wrap_i64 (by omega) (by omega);refine ⟨Ev.pick3 (op-121) (Ev.bitsT x (Ev.cA t) (Ev.cA t)),0,H _ fun S hwf => ?_, ?_,fun _=>rfl⟩
 .unfold EvR
  refine bF n69 n80 ?_
  refine QP ?_;refine jb rfl ((in_f 70 79 (by omega))) ?_;refine bV ?_
  refine QP ?_;refine jb rfl ((in_f 81 90 (by omega))) ?_;refine bV ?_
  refine QP ?_;refine jb rfl ((in_f 103 105 (by omega))) ?_;refine bV ?_
  refine QP ?_;refine jb rfl ((in_t 121 123 (by omega))) ?_;refine bV ?_
  refine QP ?_ (r:=by conv=>lhs;simp[QV,wk,ha0,ha0']);refine QL cc ?_;refine bV ?_
  exact bS
 .obtain ⟨h1,h2,h3⟩:=Ev.ab0 x (Ev.cA t) (Ev.cA t) (a9 _);refine JL (jO _) ?_ ?_
  .unfold Ev.pick3;split
   .omega
   .split<;>omega
  .unfold Ev.pick3;split
   .omega
   .split<;>omega
theorem jds {op:Int} {a:List Int} (h:Ev.argsOk op a) (hu : ∀ x∈a,Ev.U64 x) (hun:Ss.runary op=false) (hop:106<=op/\op<=120):EvOk op a:=by
 obtain ⟨hlo,hhi⟩:=hop;obtain ⟨x,y,ha0,ha0',hi1,hx,hy,H⟩:=ack h hun hu;have hwo:=jO (Ss.rof op);clear h;generalize ht:Ss.rof op=t at *
 have n69 : ¬ op=69:=by omega
 have n80 : ¬ op=80:=by omega
 obtain ⟨m,er,cc,hfit,htot⟩:=aes (op-106) x y (Ev.cA t) (by omega) (by omega) (by omega) (by omega) hx hy;have wk:IntKind.i64.wrap (op-106)=op-106:=wrap_i64 (by omega) (by omega);have hot:Ss.rsigT op=t:=by rw [Ss.rsigT,if_neg (by omega),if_neg (by rw [abk (by omega)]; simp; omega),ht]
 refine ⟨m,er,H _ fun S hwf => ?_,by rw [hot]; exact hfit,fun hp=>htot ?_⟩
 .unfold EvR
  refine bF n69 n80 ?_
  refine QP ?_;refine jb rfl ((in_f 70 79 (by omega))) ?_;refine bV ?_
  refine QP ?_;refine jb rfl ((in_f 81 90 (by omega))) ?_;refine bV ?_
  refine QP ?_;refine jb rfl ((in_f 103 105 (by omega))) ?_;refine bV ?_
  refine QP ?_;refine jb rfl ((in_f 121 123 (by omega))) ?_;refine bV ?_
  refine QP ?_;refine jb rfl ((in_t 106 120 (by omega))) ?_;refine bV ?_
  refine bY (r:=by conv=>lhs;simp[QV,wk,ha0,ha0',hi1]) (k:=?_);refine QL cc ?_;refine bV ?_
  exact bS
 .simp only [Ev.partialO,Ss.rin,Bool.or_eq_false_iff,Bool.and_eq_false_iff,decide_eq_false_iff_not] at hp;omega
theorem jdr {op:Int} {a:List Int} (h:Ev.argsOk op a) (hu : ∀ x∈a,Ev.U64 x) (hun:Ss.runary op=false) (hop:124<=op/\op<=138):EvOk op a:=by
 obtain ⟨hlo,hhi⟩:=hop;obtain ⟨x,y,ha0,ha0',hi1,hx,hy,H⟩:=ack h hun hu;have hwo:=jO (Ss.rof op);clear h;generalize ht:Ss.rof op=t at *
 have n69 : ¬ op=69:=by omega
 have n80 : ¬ op=80:=by omega
 obtain ⟨m,er,cc,hfit,htot⟩:=aes (op-124) x y (Ev.cA t) (by omega) (by omega) (by omega) (by omega) hx hy;have wk:IntKind.i64.wrap (op-124)=op-124:=wrap_i64 (by omega) (by omega);have hot:Ss.rsigT op=t:=by rw [Ss.rsigT,if_neg (by omega),if_neg (by rw [abk (by omega)]; simp; omega),ht]
 refine ⟨m,er,H _ fun S hwf => ?_,by rw [hot]; exact hfit,fun hp=>htot ?_⟩
 .unfold EvR
  refine bF n69 n80 ?_
  refine QP ?_;refine jb rfl ((in_f 70 79 (by omega))) ?_;refine bV ?_
  refine QP ?_;refine jb rfl ((in_f 81 90 (by omega))) ?_;refine bV ?_
  refine QP ?_;refine jb rfl ((in_f 103 105 (by omega))) ?_;refine bV ?_
  refine QP ?_;refine jb rfl ((in_f 121 123 (by omega))) ?_;refine bV ?_
  refine QP ?_;refine jb rfl ((in_f 106 120 (by omega))) ?_;refine bV ?_
  refine QP ?_;refine jb rfl ((in_t 124 138 (by omega))) ?_;refine bV ?_
  refine bY (r:=by conv=>lhs;simp[QV,wk,ha0,ha0',hi1]) (k:=?_);refine QL cc ?_;refine bV ?_
  exact bS
 .simp only [Ev.partialO,Ss.rin,Bool.or_eq_false_iff,Bool.and_eq_false_iff,decide_eq_false_iff_not] at hp;omega
theorem aib {op:Int} {a:List Int} (h:Ev.argsOk op a) (hu : ∀ x∈a,Ev.U64 x) (hun:Ss.runary op=true) (hop:69<=op/\op<=69):EvOk op a:=by
 obtain ⟨hlo,hhi⟩:=hop;obtain ⟨x,ha0,ha0',ux,hx,H⟩:=ZI h hun hu;have hwo:=jO (Ss.rof op);clear h;generalize ht:Ss.rof op=t at *
 have q69:(op=69)=True:=eq_true (by omega);have n80 : ¬ op=80:=by omega
 have cb:=acy (decide (x=0));refine ⟨Ev.b1 (decide (x=0)),0,H _ fun S hwf => ?_, ?_,fun _=>rfl⟩
 .unfold EvR
  refine bD q69 ?_
  refine bQ ha0 ha0' ?_;refine QL cb ?_;refine bV ?_
  exact bS
 .have hb:=aei (decide (x=0));exact JL (jO _) hb.1 (by have:=hb.2; omega)
theorem ah7 {op:Int} {a:List Int} (h:Ev.argsOk op a) (hu : ∀ x∈a,Ev.U64 x) (hun:Ss.runary op=true) (hop:80<=op/\op<=80):EvOk op a:=by
 obtain ⟨hlo,hhi⟩:=hop;obtain ⟨x,ha0,ha0',ux,hx,H⟩:=ZI h hun hu;have hwo:=jO (Ss.rof op);clear h;generalize ht:Ss.rof op=t at *
 have n69 : ¬ op=69:=by omega
 have q80:(op=80)=True:=eq_true (by omega);have cb:=acy (decide (x=0));refine ⟨Ev.b1 (decide (x=0)),0,H _ fun S hwf => ?_, ?_,fun _=>rfl⟩
 .unfold EvR
  refine bF n69 q80 ?_
  refine bQ ha0 ha0' ?_;refine QL cb ?_;refine bV ?_
  exact bS
 .have hb:=aei (decide (x=0));exact JL (jO _) hb.1 (by have:=hb.2; omega)
def EvQ (op:Int) (a:List Int) (t:Int) (r:V) (S:Store):Prop:=VWp Tryz.prog 169 S.nx (Code.snd (Code.els (Code.snd (Code.els (Code.snd (Code.els (Code.snd (Code.els (Code.snd (Code.els (Code.snd (Code.els (Code.snd (Code.els (Code.snd (Code.inner (Code.fst (Code.snd (Code.snd (Code.snd (Code.snd (Code.snd (jc Tryz.f153)))))))))))))))))))))))
 (ZT (Code.id (Code.fst (Code.snd (Code.snd (Code.snd (Code.snd (Code.snd (jc Tryz.f153)))))))) (JS (VWp Tryz.prog 169 S.nx (Code.snd (Code.snd (Code.snd (Code.snd (Code.snd (Code.snd (jc Tryz.f153))))))) (bodyV [5,4].reverse (Jb S.nx fun r' S'=>r'=r/\S'=S))) (bodyV [5,4].reverse (Jb S.nx fun r' S'=>r'=r/\S'=S)))) [(0,cj op),(1,vl vu a),(10,cu (Ev.cA t)),(135, .bool (decide (op=167)))] (St S [] [])
theorem ZB {op:Int} {a:List Int} {t:Int} {r:V} {S:Store} (h:138<op) (H:EvQ op a t r S):EvR op a t r S:=by
 unfold EvR;have n69 : ¬ op=69:=by omega
 have n80 : ¬ op=80:=by omega
 refine bF n69 n80 ?_
 refine QP ?_;refine jb rfl ((in_f 70 79 (by omega))) ?_;refine bV ?_
 refine QP ?_;refine jb rfl ((in_f 81 90 (by omega))) ?_;refine bV ?_
 refine QP ?_;refine jb rfl ((in_f 103 105 (by omega))) ?_;refine bV ?_
 refine QP ?_;refine jb rfl ((in_f 121 123 (by omega))) ?_;refine bV ?_
 refine QP ?_;refine jb rfl ((in_f 106 120 (by omega))) ?_;refine bV ?_
 refine QP ?_;refine jb rfl ((in_f 124 138 (by omega))) ?_;refine bV ?_
 refine QO [0,1,10,135] ?_;exact H
theorem jdv {op:Int} {a:List Int} (h:Ev.argsOk op a) (hu : ∀ x∈a,Ev.U64 x) (hun:Ss.runary op=true) (hop:167<=op/\op<=167):EvOk op a:=by
 obtain ⟨hlo,hhi⟩:=hop;obtain ⟨x,ha0,ha0',ux,hx,H⟩:=ZI h hun hu;have hwo:=jO (Ss.rof op);clear h;generalize ht:Ss.rof op=t at *
 have n69 : ¬ op=69:=by omega
 have n80 : ¬ op=80:=by omega
 have cc:b8 160 [vu x, .int .i64 32] (vu (x % 2^32)):=Yn x 32 (by omega) ux;have hot:Ev.cA (Ss.rsigT op)=32:=by
  have:op=167:=by omega
  subst this; rfl
 rw [EvOk,hot];have n172 : ¬ op=172:=by omega
 have n173 : ¬ op=173:=by omega
 have q167:(op=167)=True:=eq_true (by omega);refine ⟨x % 2^32,0,H _ fun S hwf=>ZB (by omega) ?_,zi _ 32,fun _=>rfl⟩;unfold EvQ;rw [bv (show op=167 by omega)]
 refine bz ?_
 refine bQ ha0 ha0' ?_;refine QL cc ?_;refine bV ?_
 exact bS
theorem jdu {op:Int} {a:List Int} (h:Ev.argsOk op a) (hu : ∀ x∈a,Ev.U64 x) (hun:Ss.runary op=true) (hop:172<=op/\op<=172):EvOk op a:=by
 obtain ⟨hlo,hhi⟩:=hop;obtain ⟨x,ha0,ha0',ux,hx,H⟩:=ZI h hun hu;have hwo:=jO (Ss.rof op);clear h;generalize ht:Ss.rof op=t at *
 have n69 : ¬ op=69:=by omega
 have n80 : ¬ op=80:=by omega
 have cc:b8 161 [vu x, .int .i64 32] (cj (Ev.sgnI x 32)):=qT x 32 (by omega);have hot:Ev.cA (Ss.rsigT op)=64:=by
  have:op=172:=by omega
  subst this; rfl
 rw [EvOk,hot];have n167 : ¬ op=167:=by omega
 have n173 : ¬ op=173:=by omega
 have q172:(op=172)=True:=eq_true (by omega);refine ⟨IntKind.u64.wrap (Ev.sgnI x 32),0,H _ fun S hwf=>ZB (by omega) ?_,(by have:=aaa (Ev.sgnI x 32); exact ⟨this.1,this.2⟩),fun _=>rfl⟩;unfold EvQ;rw [bw n167]
 refine bF n173 q172 ?_
 refine bQ ha0 ha0' ?_;refine QL cc ?_;refine bV ?_
 exact bS
theorem jdt {op:Int} {a:List Int} (h:Ev.argsOk op a) (hu : ∀ x∈a,Ev.U64 x) (hun:Ss.runary op=true) (hop:173<=op/\op<=173):EvOk op a:=by
 obtain ⟨hlo,hhi⟩:=hop;obtain ⟨x,ha0,ha0',ux,hx,H⟩:=ZI h hun hu;have hwo:=jO (Ss.rof op);clear h;generalize ht:Ss.rof op=t at *
 have n69 : ¬ op=69:=by omega
 have n80 : ¬ op=80:=by omega
 have hot:Ev.cA (Ss.rsigT op)=64:=by
  have:op=173:=by omega
  subst this; rfl
 rw [EvOk,hot];have n167 : ¬ op=167:=by omega
 have n172 : ¬ op=172:=by omega
 have q173:(op=173)=True:=eq_true (by omega);refine ⟨x,0,H _ fun S hwf=>ZB (by omega) ?_,⟨ux.1,ux.2⟩,fun _=>rfl⟩;unfold EvQ;rw [bw n167]
 refine bF n172 q173 ?_
 refine bF ha0 ha0' ?_
 exact bS
theorem afa {op:Int} {a:List Int} (h:Ev.argsOk op a) (hu : ∀ x∈a,Ev.U64 x) (hun:Ss.runary op=true) (hop:192<=op/\op<=192):EvOk op a:=by
 obtain ⟨hlo,hhi⟩:=hop;obtain ⟨x,ha0,ha0',ux,hx,H⟩:=ZI h hun hu;have hwo:=jO (Ss.rof op);clear h;generalize ht:Ss.rof op=t at *
 have n69 : ¬ op=69:=by omega
 have n80 : ¬ op=80:=by omega
 have n167 : ¬ op=167:=by omega
 have n172 : ¬ op=172:=by omega
 have n173 : ¬ op=173:=by omega
 have hr5:rep0 [V.int .i64 0] 5=[.int .i64 0, .int .i64 0, .int .i64 0, .int .i64 0, .int .i64 0]:=rfl;have wk:IntKind.i64.wrap (op-192)=0:=by rw [wrap_i64 (by omega) (by omega)]; omega
 have c1:b8 161 [vu x, .int .i64 8] (cj (Ev.sgnI x 8)):=qT x 8 (by omega);have c2:=Yn (IntKind.u64.wrap (Ev.sgnI x 8)) (Ev.cA t) (by omega) (aaa _);have hot:Ss.rsigT op=t:=by rw [Ss.rsigT,if_neg (by omega),if_neg (by rw [abk (by omega)]; simp; omega),ht]
 refine ⟨(IntKind.u64.wrap (Ev.sgnI x 8)) % 2^(Ev.cA t),0,H _ fun S hwf=>ZB (by omega) ?_,by rw [hot]; exact zi _ _,fun _=>rfl⟩;unfold EvQ;rw [bw n167]
 refine bF n172 n173 ?_
 refine QY ?_ (r:=by conv=>lhs;simp[QV,hr5,wk]);refine bQ ha0 ha0' ?_;refine QL c1 ?_;refine QZ ?_;refine QL c2 ?_;refine bV ?_
 exact bS
theorem aek {op:Int} {a:List Int} (h:Ev.argsOk op a) (hu : ∀ x∈a,Ev.U64 x) (hun:Ss.runary op=true) (hop:193<=op/\op<=193):EvOk op a:=by
 obtain ⟨hlo,hhi⟩:=hop;obtain ⟨x,ha0,ha0',ux,hx,H⟩:=ZI h hun hu;have hwo:=jO (Ss.rof op);clear h;generalize ht:Ss.rof op=t at *
 have n69 : ¬ op=69:=by omega
 have n80 : ¬ op=80:=by omega
 have n167 : ¬ op=167:=by omega
 have n172 : ¬ op=172:=by omega
 have n173 : ¬ op=173:=by omega
 have hr5:rep0 [V.int .i64 0] 5=[.int .i64 0, .int .i64 0, .int .i64 0, .int .i64 0, .int .i64 0]:=rfl;have wk:IntKind.i64.wrap (op-192)=1:=by rw [wrap_i64 (by omega) (by omega)]; omega
 have c1:b8 161 [vu x, .int .i64 16] (cj (Ev.sgnI x 16)):=qT x 16 (by omega);have c2:=Yn (IntKind.u64.wrap (Ev.sgnI x 16)) (Ev.cA t) (by omega) (aaa _);have hot:Ss.rsigT op=t:=by rw [Ss.rsigT,if_neg (by omega),if_neg (by rw [abk (by omega)]; simp; omega),ht]
 refine ⟨(IntKind.u64.wrap (Ev.sgnI x 16)) % 2^(Ev.cA t),0,H _ fun S hwf=>ZB (by omega) ?_,by rw [hot]; exact zi _ _,fun _=>rfl⟩;unfold EvQ;rw [bw n167]
 refine bF n172 n173 ?_
 refine QY ?_ (r:=by conv=>lhs;simp[QV,hr5,wk]);refine bQ ha0 ha0' ?_;refine QL c1 ?_;refine QZ ?_;refine QL c2 ?_;refine bV ?_
 exact bS
theorem afz {op:Int} {a:List Int} (h:Ev.argsOk op a) (hu : ∀ x∈a,Ev.U64 x) (hun:Ss.runary op=true) (hop:194<=op/\op<=194):EvOk op a:=by
 obtain ⟨hlo,hhi⟩:=hop;obtain ⟨x,ha0,ha0',ux,hx,H⟩:=ZI h hun hu;have hwo:=jO (Ss.rof op);clear h;generalize ht:Ss.rof op=t at *
 have n69 : ¬ op=69:=by omega
 have n80 : ¬ op=80:=by omega
 have n167 : ¬ op=167:=by omega
 have n172 : ¬ op=172:=by omega
 have n173 : ¬ op=173:=by omega
 have hr5:rep0 [V.int .i64 0] 5=[.int .i64 0, .int .i64 0, .int .i64 0, .int .i64 0, .int .i64 0]:=rfl;have wk:IntKind.i64.wrap (op-192)=2:=by rw [wrap_i64 (by omega) (by omega)]; omega
 have c1:b8 161 [vu x, .int .i64 8] (cj (Ev.sgnI x 8)):=qT x 8 (by omega);have c2:=Yn (IntKind.u64.wrap (Ev.sgnI x 8)) (Ev.cA t) (by omega) (aaa _);have hot:Ss.rsigT op=t:=by rw [Ss.rsigT,if_neg (by omega),if_neg (by rw [abk (by omega)]; simp; omega),ht]
 refine ⟨(IntKind.u64.wrap (Ev.sgnI x 8)) % 2^(Ev.cA t),0,H _ fun S hwf=>ZB (by omega) ?_,by rw [hot]; exact zi _ _,fun _=>rfl⟩;unfold EvQ;rw [bw n167]
 refine bF n172 n173 ?_
 refine QY ?_ (r:=by conv=>lhs;simp[QV,hr5,wk]);refine bQ ha0 ha0' ?_;refine QL c1 ?_;refine QZ ?_;refine QL c2 ?_;refine bV ?_
 exact bS
theorem agw {op:Int} {a:List Int} (h:Ev.argsOk op a) (hu : ∀ x∈a,Ev.U64 x) (hun:Ss.runary op=true) (hop:195<=op/\op<=195):EvOk op a:=by
 obtain ⟨hlo,hhi⟩:=hop;obtain ⟨x,ha0,ha0',ux,hx,H⟩:=ZI h hun hu;have hwo:=jO (Ss.rof op);clear h;generalize ht:Ss.rof op=t at *
 have n69 : ¬ op=69:=by omega
 have n80 : ¬ op=80:=by omega
 have n167 : ¬ op=167:=by omega
 have n172 : ¬ op=172:=by omega
 have n173 : ¬ op=173:=by omega
 have hr5:rep0 [V.int .i64 0] 5=[.int .i64 0, .int .i64 0, .int .i64 0, .int .i64 0, .int .i64 0]:=rfl;have wk:IntKind.i64.wrap (op-192)=3:=by rw [wrap_i64 (by omega) (by omega)]; omega
 have c1:b8 161 [vu x, .int .i64 16] (cj (Ev.sgnI x 16)):=qT x 16 (by omega);have c2:=Yn (IntKind.u64.wrap (Ev.sgnI x 16)) (Ev.cA t) (by omega) (aaa _);have hot:Ss.rsigT op=t:=by rw [Ss.rsigT,if_neg (by omega),if_neg (by rw [abk (by omega)]; simp; omega),ht]
 refine ⟨(IntKind.u64.wrap (Ev.sgnI x 16)) % 2^(Ev.cA t),0,H _ fun S hwf=>ZB (by omega) ?_,by rw [hot]; exact zi _ _,fun _=>rfl⟩;unfold EvQ;rw [bw n167]
 refine bF n172 n173 ?_
 refine QY ?_ (r:=by conv=>lhs;simp[QV,hr5,wk]);refine bQ ha0 ha0' ?_;refine QL c1 ?_;refine QZ ?_;refine QL c2 ?_;refine bV ?_
 exact bS
theorem afy {op:Int} {a:List Int} (h:Ev.argsOk op a) (hu : ∀ x∈a,Ev.U64 x) (hun:Ss.runary op=true) (hop:196<=op/\op<=196):EvOk op a:=by
 obtain ⟨hlo,hhi⟩:=hop;obtain ⟨x,ha0,ha0',ux,hx,H⟩:=ZI h hun hu;have hwo:=jO (Ss.rof op);clear h;generalize ht:Ss.rof op=t at *
 have n69 : ¬ op=69:=by omega
 have n80 : ¬ op=80:=by omega
 have n167 : ¬ op=167:=by omega
 have n172 : ¬ op=172:=by omega
 have n173 : ¬ op=173:=by omega
 have hr5:rep0 [V.int .i64 0] 5=[.int .i64 0, .int .i64 0, .int .i64 0, .int .i64 0, .int .i64 0]:=rfl;have wk:IntKind.i64.wrap (op-192)=4:=by rw [wrap_i64 (by omega) (by omega)]; omega
 have c1:b8 161 [vu x, .int .i64 32] (cj (Ev.sgnI x 32)):=qT x 32 (by omega);have c2:=Yn (IntKind.u64.wrap (Ev.sgnI x 32)) (Ev.cA t) (by omega) (aaa _);have hot:Ss.rsigT op=t:=by rw [Ss.rsigT,if_neg (by omega),if_neg (by rw [abk (by omega)]; simp; omega),ht]
 refine ⟨(IntKind.u64.wrap (Ev.sgnI x 32)) % 2^(Ev.cA t),0,H _ fun S hwf=>ZB (by omega) ?_,by rw [hot]; exact zi _ _,fun _=>rfl⟩;unfold EvQ;rw [bw n167]
 refine bF n172 n173 ?_
 refine QY ?_ (r:=by conv=>lhs;simp[QV,hr5,wk]);refine bQ ha0 ha0' ?_;refine QL c1 ?_;refine QZ ?_;refine QL c2 ?_;refine bV ?_
 exact bS
theorem ar5 (op:Int) (a:List Int) (h:Ev.argsOk op a) (hu : ∀ x∈a,Ev.U64 x):EvOk op a:=by
 obtain ⟨_,hk⟩:=Ev.kinds h.1;rcases hk with ⟨n,k⟩ | ⟨n,k⟩
 .rcases k with k | k | k | k | k | k | k | k
  .exact aib h hu n (by omega)
  .exact ah7 h hu n (by omega)
  .exact af9 h hu n k
  .exact ahl h hu n k
  .exact jdv h hu n (by omega)
  .exact jdu h hu n (by omega)
  .exact jdt h hu n (by omega)
  .rcases (by omega:op=192\/op=193\/op=194\/op=195\/op=196) with k | k | k | k | k
   .exact afa h hu n (by omega)
   .exact aek h hu n (by omega)
   .exact afz h hu n (by omega)
   .exact agw h hu n (by omega)
   .exact afy h hu n (by omega)
 .rcases k with k | k | k | k
  .exact ain h hu n k
  .exact ai2 h hu n k
  .exact jds h hu n k
  .exact jdr h hu n k
theorem Ym (op:Int):b8 120 [cj op] (.tuple [cj ((Ss.accOf op).getD ⟨0,0,false,false⟩).kind,cj ((Ss.accOf op).getD ⟨0,0,false,false⟩).width, .bool ((Ss.accOf op).getD ⟨0,0,false,false⟩).store, .bool (Ss.accOf op).isSome]):=by
 intro S
 by_cases h:op=40\/op=41\/op=44\/op=45\/op=46\/op=47\/op=48\/op=49\/op=50\/op=51\/op=52\/op=53\/op=54\/op=55\/op=58\/op=59\/op=60\/op=61\/op=62
 .refine b7 Tryz.func120 Tryz.ntmps120 fun hwf=>?_
  rcases h with rfl | rfl | rfl | rfl | rfl | rfl | rfl | rfl | rfl | rfl | rfl | rfl | rfl | rfl | rfl | rfl | rfl | rfl | rfl
  all_goals
   refine bz ?_
   exact bS
 .simp only [not_or] at h;obtain ⟨h1,h2,h3,h4,h5,h6,h7,h8,h9,h10,h11,h12,h13,h14,h15,h16,h17,h18,h19⟩:=h;have hn:Ss.accOf op=none:=by simp [Ss.accOf,Ss.accL,Ss.findK,h1,h2,h3,h4,h5,h6,h7,h8,h9,h10,h11,h12,h13,h14,h15,h16,h17,h18,h19]
  rw [hn];refine b7 Tryz.func120 Tryz.ntmps120 fun hwf=>?_
  repeat first|refine QG ?_|refine QY ?_ (r:=by conv=>lhs;simp[QV,h1,h2,h3,h4,h5,h6,h7,h8,h9,h10,h11,h12,h13,h14,h15,h16,h17,h18,h19])
  exact bS
def vby (n:Int):V := .int .u8 n
def byteL (m:List Int):Prop:=m.length<=140737488355328 /\ ∀ x∈m,0<=x/\x<256
end Go.Vw
namespace Ev
open Go.Vw
def insideI (len:Nat) (addr e:Int):Bool:=decide (addr<=1099511627776)&&decide (e<=1099511627776)&&decide (addr+e<=len)
end Ev
namespace Go.Vw
open Go.Proofs Go.RowKit
attribute [-simp] List.map_set
theorem jbo (m:List Int) (addr e:Int) (hm:byteL m) (ha:0<=addr) (he:0<=e):b8 149 [vl vby m,vu addr,vu e] (.bool (Ev.insideI m.length addr e)):=by
 intro S;have hml:=hm.1;have wl:IntKind.u64.wrap (m.length:Int)=m.length:=bU;refine b7 Tryz.func149 Tryz.ntmps149 fun hwf=>?_
 refine QY ?_
 by_cases h1:addr<=1099511627776
 .by_cases h2:e<=1099511627776
  .have ws:IntKind.u64.wrap (addr+e)=addr+e:=bU;have hX:Ev.insideI m.length addr e=decide (addr+e<=m.length):=by simp [Ev.insideI,h1,h2]
   rw [hX]
   refine bH h1 h2 ws wl ?_
   exact bS
  .have hX:Ev.insideI m.length addr e=false:=by simp [Ev.insideI,h2]
   rw [hX]
   refine bF h1 h2 ?_
   exact bS
 .have hX:Ev.insideI m.length addr e=false:=by simp [Ev.insideI,h1]
  rw [hX]
  refine bD h1 ?_
  exact bS
def sgnO (op:Int):Bool:=decide (op=44)||(decide (op=46)||(decide (op=48)||(decide (op=50)||decide (op=52))))
theorem apu (op:Int):b8 154 [cj op] (.bool (sgnO op)):=by
 intro S;refine b7 Tryz.func154 Tryz.ntmps154 fun hwf=>?_
 refine QY ?_
 by_cases h1:op=44
 .have hX:sgnO op=true:=by simp [sgnO,h1]
  have q:(op=44)=True:=eq_true h1;rw [hX]
  refine bD q ?_
  exact bS
 by_cases h2:op=46
 .have hX:sgnO op=true:=by simp [sgnO,h2]
  have q:(op=46)=True:=eq_true h2;rw [hX]
  refine bF h1 q ?_
  exact bS
 by_cases h3:op=48
 .have hX:sgnO op=true:=by simp [sgnO,h3]
  have q:(op=48)=True:=eq_true h3;rw [hX]
  refine bG h1 h2 q ?_
  exact bS
 by_cases h4:op=50
 .have hX:sgnO op=true:=by simp [sgnO,h4]
  have q:(op=50)=True:=eq_true h4;rw [hX]
  refine bH h1 h2 h3 q ?_
  exact bS
 by_cases h5:op=52
 .have hX:sgnO op=true:=by simp [sgnO,h5]
  have q:(op=52)=True:=eq_true h5;rw [hX]
  refine bO h1 h2 h3 h4 q ?_
  exact bS
 have hX:sgnO op=false:=by simp [sgnO,h1,h2,h3,h4,h5]
 rw [hX]
 refine bO h1 h2 h3 h4 h5 ?_
 exact bS
end Go.Vw
namespace Ev
def ldT (m:List Int) (p:Nat):Nat->Int
 | 0=>0
 | k+1=>orI (ldT m p k) (Go.IntKind.u64.wrap (m.getD (p+k) 0*2^(8*k)))
def sxT (s:Nat) (n:Int):Nat->Int
 | 0=>n
 | k+1=>orI (sxT s n k) (Go.IntKind.u64.wrap (2^(s+k)))
end Ev
namespace Go.Vw
open Go.Proofs Go.RowKit
attribute [-simp] List.map_set
theorem ao2 (x y:Int):Ev.U64 (Ev.orI x y):=aaa _
theorem auw (m:List Int) (op addr off:Int) (hm:byteL m) (ha:Ev.U64 addr) (ho:Ev.U64 off) : ∃ n e:Int,b8 151 [vl vby m,cj op,vu addr,vu off] (.tuple [vu n,cj e])/\Ev.U64 n/\(((Ss.accOf op).getD ⟨0,0,false,false⟩).kind=127->n<4294967296):=by
 have ca:=Ym op;obtain ⟨acc,hac⟩ : ∃ x,x=(Ss.accOf op).getD ⟨0,0,false,false⟩:=⟨_,rfl⟩
 have hwid:(Ss.accOf op).isSome=true->acc.width=1\/acc.width=2\/acc.width=4\/acc.width=8:=by
  intro h;obtain ⟨v,hv⟩:=Option.isSome_iff_exists.1 h;rw [hv,aR] at hac;subst hac;have hm2 : ∀ (L:List (Int × Ss.Acc)),Ss.findK op L=some acc -> ∃ q∈L,q.2=acc:=by
   intro L
   induction L with
   | nil=>intro h; cases h
   | cons q L ih =>
    intro h;obtain ⟨k,v⟩:=q;simp only [Ss.findK] at h;split at h
    .cases h; exact ⟨(k,acc),by simp,rfl⟩
    .obtain ⟨q,h1,h2⟩:=ih h;exact ⟨q,by simp [h1],h2⟩
  obtain ⟨q,h1,rfl⟩:=hm2 _ hv;have hall : ∀ q∈Ss.accL,q.2.width=1\/q.2.width=2\/q.2.width=4\/q.2.width=8:=by decide
  exact hall q h1
 rw [<-hac] at ca ⊢;obtain ⟨ki,wi,st,sg⟩:=acc;simp only at ca hwid;generalize (Ss.accOf op).isSome=ok at *
 cases ok with
 | false =>
  refine ⟨0,1,fun S => ?_,⟨by omega,by omega⟩,fun _=>by omega⟩;refine b7 Tryz.func151 Tryz.ntmps151 fun hwf=>?_
  refine QY ?_;refine QP ?_;refine QL ca ?_;refine bV ?_
  exact bS
 | true =>
 cases st with
 | true =>
  refine ⟨0,1,fun S => ?_,⟨by omega,by omega⟩,fun _=>by omega⟩;refine b7 Tryz.func151 Tryz.ntmps151 fun hwf=>?_
  refine QY ?_;refine QP ?_;refine QL ca ?_;refine bV ?_
  exact bS
 | false =>
 by_cases h1:4294967295<addr
 .refine ⟨0,1,fun S => ?_,⟨by omega,by omega⟩,fun _=>by omega⟩;refine b7 Tryz.func151 Tryz.ntmps151 fun hwf=>?_
  refine QY ?_;refine QP ?_;refine QL ca ?_;refine QW ?_
  refine bD h1 ?_
  exact bS
 by_cases h2:4294967295<off
 .refine ⟨0,1,fun S => ?_,⟨by omega,by omega⟩,fun _=>by omega⟩;refine b7 Tryz.func151 Tryz.ntmps151 fun hwf=>?_
  refine QY ?_;refine QP ?_;refine QL ca ?_;refine QW ?_
  refine bF h1 h2 ?_
  exact bS
 obtain ⟨a0,a1⟩:=ha;obtain ⟨o0,o1⟩:=ho;have hw:=hwid rfl;obtain ⟨w,rfl⟩ : ∃ w:Nat,wi=(w:Int):=⟨wi.toNat,by omega⟩
 obtain ⟨p,hp⟩ : ∃ p:Nat,addr+off=(p:Int):=⟨(addr+off).toNat,by omega⟩
 have wp:IntKind.u64.wrap (addr+off)=(p:Int):=by rw [aal (by omega) (by omega)]; exact hp
 have ww:IntKind.u64.wrap (w:Int)=(w:Int):=bU;have cin:=jbo m (p:Int) (w:Int) hm (by omega) (by omega)
 cases hin:Ev.insideI m.length (p:Int) (w:Int) with
 | false =>
  rw [hin] at cin;refine ⟨0,35,fun S => ?_,⟨by omega,by omega⟩,fun _=>by omega⟩;refine b7 Tryz.func151 Tryz.ntmps151 fun hwf=>?_
  refine QY ?_;refine QP ?_;refine QL ca ?_;refine QW ?_
  refine bF h1 h2 ?_
  refine bQ wp ww ?_;refine QL cin ?_;refine bV ?_
  exact bS
 | true =>
 rw [hin] at cin;have hml:=hm.1;have hpw:p+w<=m.length:=by
  simp only [Ev.insideI,af,aj] at hin;omega
 have cs:=apu op;obtain ⟨sb,hsb⟩ : ∃ b,b=sgnO op:=⟨_,rfl⟩
 rw [<-hsb] at cs;obtain ⟨D,hD⟩ : ∃ D,D=Ev.ldT m p w:=⟨_,rfl⟩
 have hDu : ∀ k,Ev.U64 (Ev.ldT m p k):=fun k=>by
  cases k with
  | zero=>exact ⟨by simp [Ev.ldT],by simp [Ev.ldT]⟩
  | succ k=>exact ao2 _ _
 obtain ⟨n1,hn1⟩ : ∃ x,x=if sb=true/\IntKind.u64.wrap (((D.fdiv (2^(8*w-1)) % 2^IntKind.u64.bits).toNat &&& 1 % 2^IntKind.u64.bits:Nat):Int)=1 then Ev.sxT (8*w) D (64-8*w) else D:=⟨_,rfl⟩
 have hn1u:Ev.U64 n1:=by
  rw [hn1];split
  .cases hk:64-8*w with
   | zero=>rw [Ev.sxT,hD]; exact hDu w
   | succ k=>exact ao2 _ _
  .rw [hD]; exact hDu w
 obtain ⟨n2,hn2⟩ : ∃ x,x=if ki=127 then IntKind.u64.wrap (((n1 % 2^IntKind.u64.bits).toNat &&& 4294967295 % 2^IntKind.u64.bits:Nat):Int) else n1:=⟨_,rfl⟩
 have hn2u:Ev.U64 n2:=by
  rw [hn2];split
  .exact aaa _
  .exact hn1u
 refine ⟨n2,0,fun S => ?_,hn2u,fun hk => ?_⟩
 rotate_left
 .have hk:ki=127:=hk;rw [hn2,if_pos hk];have hle:((n1 % 2^IntKind.u64.bits).toNat &&& 4294967295 % 2^IntKind.u64.bits:Nat)<4294967296:=by
   have:(4294967295 % 2^IntKind.u64.bits:Nat)=4294967295:=by decide
   rw [this];exact Nat.lt_of_le_of_lt Nat.and_le_right (by omega)
  rw [aal (by omega) (by omega)];omega
 have w8:IntKind.i64.wrap (8*(w:Int))=8*(w:Int):=wrap_i64 (by omega) (by omega);have w81:IntKind.i64.wrap (8*(w:Int)-1)=8*(w:Int)-1:=wrap_i64 (by omega) (by omega);have t81:(8*(w:Int)-1).toNat=8*w-1:=by omega
 have p81:(1:Int)<=8*(w:Int):=by omega
 have hm8:min (8*w-1) IntKind.u64.bits=8*w-1:=by rw [qO]; omega
 refine b7 Tryz.func151 Tryz.ntmps151 fun hwf=>?_
 refine QY ?_;refine QP ?_;refine QL ca ?_;refine QW ?_
 refine bF h1 h2 ?_
 refine bQ wp ww ?_;refine QL cin ?_;refine bV ?_
 refine bX [0,1,2,3,10,11,14,15] (fun c σ S' => ∃ (i:Nat),i<=w/\c=w-i/\σ=[(0,vl vby m),(1,cj op),(2,vu addr),(3,vu off),(10,cj ki),(11,cu w),(14,vu (Ev.ldT m p i)),(15,cu i)]/\S'=St S [] []) w ?_ ?_
 .exact ⟨0,by omega,rfl,by simp [Fr.oy,Fr.lk,vu,Ev.ldT],by simp⟩
 .rintro c σ T ⟨i,hi,rfl,rfl,rfl⟩
  by_cases hit:i<w
  .have hwi:=jg hit (by omega);have hpi:p+i<m.length:=by omega
   have hx:=hm.2 _ (ah hpi);have hst:Ev.ldT m p (i+1)=Ev.orI (Ev.ldT m p i) (IntKind.u64.wrap (m.getD (p+i) 0*2^(8*i))):=rfl;rw [ag,ac hpi,aR] at hst;have hidx : ∀ S',jF 1 S' (vl vby m) (.int .u64 ((p+i:Nat):Int))=some (.ref (vby m[p+i])):=fun S'=>zl (S:=S') (enc:=vby) (l:=m) (k := .u64) (i:=p+i) (x:=m[p+i]) (s:=1) rfl (ac hpi)
   generalize m[p+i]=x at *
   have hid2 : ∀ S',jF 1 S' (vl vby m) (.int .u64 ((p:Int)+(i:Int)))=some (.ref (.int .u8 x)):=hidx
   have wi':IntKind.u64.wrap (i:Int)=(i:Int):=bU;have wsum:IntKind.u64.wrap ((p:Int)+(i:Int))=(p:Int)+(i:Int):=bU;have wx:IntKind.u64.wrap x=x:=bU;have w8i:IntKind.i64.wrap (8*(i:Int))=8*(i:Int):=wrap_i64 (by omega) (by omega);have t8i:(8*(i:Int)).toNat=8*i:=by omega
   have p8i:(0:Int)<=8*(i:Int):=by omega
   have hm8i:min (8*i) IntKind.u64.bits=8*i:=by rw [qO]; omega
   refine bD hit ?_
   refine QY ?_ (r:=by conv=>lhs;simp[QV,wp,wi',wsum,hid2,wx,w8i,t8i,p8i,hm8i])
   refine bD hwi ?_
   show jx _ _ _ _ _ _ _;exact again ⟨ao hit (aW i),i+1,hit,rfl,by simp [Fr.oy,Fr.lk,vu,hst,Ev.orI],rfl⟩
  .have hie:i=w:=by omega
   subst hie;rw [<-hD]
   refine bD hit ?_
   refine QP ?_;refine QL cs ?_
   cases sb with
   | false =>
    rw [if_neg (by simp)] at hn1;refine QW ?_
    by_cases hki:ki=127
    .have q:(ki=127)=True:=eq_true hki;rw [if_pos hki] at hn2;rw [hn2,hn1]
     refine bD q ?_
     exact bS
    .rw [if_neg hki] at hn2;rw [hn2,hn1]
     refine bD hki ?_
     exact bS
   | true =>
    by_cases hb:IntKind.u64.wrap (((D.fdiv (2^(8*i-1)) % 2^IntKind.u64.bits).toNat &&& 1 % 2^IntKind.u64.bits:Nat):Int)=1
    .rw [if_pos ⟨rfl,hb⟩] at hn1;refine QM (by conv=>lhs;simp[QV,w8,w81,t81,p81,hm8,hb]) ?_;refine QN ?_
     refine bD w8 ?_
     refine bX [10,14,16] (fun c σ S' => ∃ (k:Nat),k<=64-8*i/\c=64-8*i-k/\σ=[(10,cj ki),(14,vu (Ev.sxT (8*i) D k)),(16,cj (8*(i:Int)+(k:Int)))]/\S'=St S [] []) (64-8*i) ?_ ?_
     .exact ⟨0,by omega,rfl,by simp [Fr.oy,Fr.lk,vu,Ev.sxT],by simp⟩
     .rintro c σ T ⟨k,hk,rfl,rfl,rfl⟩
      by_cases hkt:k<64-8*i
      .have hkI:8*(i:Int)+(k:Int)<64:=by omega
       have wk:IntKind.i64.wrap (8*(i:Int)+(k:Int)+1)=8*(i:Int)+(k:Int)+1:=wrap_i64 (by omega) (by omega);have tk:(8*(i:Int)+(k:Int)).toNat=8*i+k:=by omega
       have pk:(0:Int)<=8*(i:Int)+(k:Int):=by omega
       have mk:min (8*i+k) IntKind.u64.bits=8*i+k:=by rw [qO]; omega
       have hst:Ev.sxT (8*i) D (k+1)=Ev.orI (Ev.sxT (8*i) D k) (IntKind.u64.wrap (2^(8*i+k))):=rfl;have e1:8*(i:Int)+((k+1:Nat):Int)=8*(i:Int)+(k:Int)+1:=by omega
       refine bD hkI ?_
       refine QY ?_ (r:=by conv=>lhs;simp[QV,tk,pk,mk])
       refine bD wk ?_
       show jx _ _ _ _ _ _ _;exact again ⟨ao hkt (aW k),k+1,hkt,rfl,by rw [hst,e1]; simp [Fr.oy,Fr.lk,vu,Ev.orI],rfl⟩
      .have hke:k=64-8*i:=by omega
       subst hke;have hkI : ¬ 8*(i:Int)+((64-8*i:Nat):Int)<64:=by omega
       generalize ((64-8*i:Nat):Int)=kz at hkI ⊢;have hkF:(8*(i:Int)+kz<64)=False:=eq_false hkI
       by_cases hki:ki=127
       .have q:(ki=127)=True:=eq_true hki;rw [if_pos hki] at hn2;rw [hn2,hn1]
        refine bF hkF q ?_
        exact bS
       .rw [if_neg hki] at hn2;rw [hn2,hn1]
        refine bF hkF hki ?_
        exact bS
    .rw [if_neg (fun h=>hb h.2)] at hn1;refine QM (by conv=>lhs;simp[QV,w8,w81,t81,p81,hm8,hb]) ?_;refine QN ?_
     by_cases hki:ki=127
     .have q:(ki=127)=True:=eq_true hki;rw [if_pos hki] at hn2;rw [hn2,hn1]
      refine bD q ?_
      exact bS
     .rw [if_neg hki] at hn2;rw [hn2,hn1]
      refine bD hki ?_
      exact bS
end Go.Vw
namespace Ev
def stT (m:List Int) (p:Nat) (n:Int):Nat->List Int
 | 0=>m
 | k+1=>(stT m p n k).set (p+k) (Go.IntKind.u8.wrap (n.fdiv (2^(8*k))))
end Ev
namespace Go.Vw
open Go.Proofs Go.RowKit
attribute [-simp] List.map_set
theorem ako (n:Int):0<=IntKind.u8.wrap n/\IntKind.u8.wrap n<256:=by
 have e:IntKind.u8.wrap n=n % 256:=by simp [IntKind.wrap,IntKind.bits,IntKind.signed]
 rw [e];exact ⟨Int.emod_nonneg _ (by decide),Int.emod_lt_of_pos _ (by decide)⟩
theorem jcv (m:List Int) (p:Nat) (n:Int) : ∀ k,(Ev.stT m p n k).length=m.length
 | 0=>rfl
 | k+1=>by rw [Ev.stT,List.length_set]; exact jcv m p n k
theorem ano {m:List Int} (h:byteL m) (p:Nat) (n:Int) : ∀ k,byteL (Ev.stT m p n k)
 | 0=>h
 | k+1=>by
  refine ⟨by rw [jcv]; exact h.1,fun x hx => ?_⟩;rcases List.mem_or_eq_of_mem_set hx with h1 | rfl
  .exact (ano h p n k).2 x h1
  .exact ako _
theorem jct (m:List Int):(m.map vby).flatMap V.cells=m.map vby:=by
 induction m with
 | nil=>rfl
 | cons x m ih=>simp only [List.map_cons,List.flatMap_cons,ih]; rfl
theorem arm (m:List Int) (op addr off n:Int) (hm:byteL m) (ha:Ev.U64 addr) (ho:Ev.U64 off) (hn:Ev.U64 n) : ∃ (m':List Int) (e:Int),b8 150 [vl vby m,cj op,vu addr,vu off,vu n] (.tuple [vl vby m',cj e])/\byteL m'/\(e=0->m'.length=m.length):=by
 have ca:=Ym op;obtain ⟨acc,hac⟩ : ∃ x,x=(Ss.accOf op).getD ⟨0,0,false,false⟩:=⟨_,rfl⟩
 have hwid:(Ss.accOf op).isSome=true->acc.width=1\/acc.width=2\/acc.width=4\/acc.width=8:=by
  intro h;obtain ⟨v,hv⟩:=Option.isSome_iff_exists.1 h;rw [hv,aR] at hac;subst hac;have hm2 : ∀ (L:List (Int × Ss.Acc)),Ss.findK op L=some acc -> ∃ q∈L,q.2=acc:=by
   intro L
   induction L with
   | nil=>intro h; cases h
   | cons q L ih =>
    intro h;obtain ⟨k,v⟩:=q;simp only [Ss.findK] at h;split at h
    .cases h; exact ⟨(k,acc),by simp,rfl⟩
    .obtain ⟨q,h1,h2⟩:=ih h;exact ⟨q,by simp [h1],h2⟩
  obtain ⟨q,h1,rfl⟩:=hm2 _ hv;have hall : ∀ q∈Ss.accL,q.2.width=1\/q.2.width=2\/q.2.width=4\/q.2.width=8:=by decide
  exact hall q h1
 rw [<-hac] at ca;obtain ⟨ki,wi,st,sg⟩:=acc;simp only at ca hwid;generalize (Ss.accOf op).isSome=ok at *
 cases ok with
 | false =>
  refine ⟨[],1,fun S => ?_,⟨by simp,by simp⟩,by simp⟩;refine b7 Tryz.func150 Tryz.ntmps150 fun hwf=>?_
  refine QY ?_;refine QP ?_;refine QL ca ?_;refine bV ?_
  exact qI hwf ((Ghost.tp [] [_] (Ghost.nl _)).toB _) zE (by rfl)
 | true =>
 cases st with
 | false =>
  refine ⟨[],1,fun S => ?_,⟨by simp,by simp⟩,by simp⟩;refine b7 Tryz.func150 Tryz.ntmps150 fun hwf=>?_
  refine QY ?_;refine QP ?_;refine QL ca ?_;refine bV ?_
  exact qI hwf ((Ghost.tp [] [_] (Ghost.nl _)).toB _) zE (by rfl)
 | true =>
 by_cases h1:4294967295<addr
 .skip
  refine ⟨[],1,fun S => ?_,⟨by simp,by simp⟩,by simp⟩;refine b7 Tryz.func150 Tryz.ntmps150 fun hwf=>?_
  refine QY ?_;refine QP ?_;refine QL ca ?_;refine QW ?_
  refine bD h1 ?_
  exact qI hwf ((Ghost.tp [] [_] (Ghost.nl _)).toB _) zE (by rfl)
 by_cases h2:4294967295<off
 .skip
  refine ⟨[],1,fun S => ?_,⟨by simp,by simp⟩,by simp⟩;refine b7 Tryz.func150 Tryz.ntmps150 fun hwf=>?_
  refine QY ?_;refine QP ?_;refine QL ca ?_;refine QW ?_
  refine bF h1 h2 ?_
  exact qI hwf ((Ghost.tp [] [_] (Ghost.nl _)).toB _) zE (by rfl)
 have cf:=jbp ki n;obtain ⟨fb,hfb⟩ : ∃ b,b=(decide (ki=126)||(decide (ki=127)&&decide (n<4294967296))):=⟨_,rfl⟩
 rw [<-hfb] at cf
 cases fb with
 | false =>
  refine ⟨[],1,fun S => ?_,⟨by simp,by simp⟩,by simp⟩;refine b7 Tryz.func150 Tryz.ntmps150 fun hwf=>?_
  refine QY ?_;refine QP ?_;refine QL ca ?_;refine bV ?_
  refine bQ h1 h2 ?_;refine QL cf ?_;refine bV ?_
  exact qI hwf ((Ghost.tp [] [_] (Ghost.nl _)).toB _) zE (by rfl)
 | true =>
 obtain ⟨a0,a1⟩:=ha;obtain ⟨o0,o1⟩:=ho;have hw:=hwid rfl;obtain ⟨w,rfl⟩ : ∃ w:Nat,wi=(w:Int):=⟨wi.toNat,by omega⟩
 obtain ⟨p,hp⟩ : ∃ p:Nat,addr+off=(p:Int):=⟨(addr+off).toNat,by omega⟩
 have wp:IntKind.u64.wrap (addr+off)=(p:Int):=by rw [aal (by omega) (by omega)]; exact hp
 have ww:IntKind.u64.wrap (w:Int)=(w:Int):=bU;have cin:=jbo m (p:Int) (w:Int) hm (by omega) (by omega)
 cases hin:Ev.insideI m.length (p:Int) (w:Int) with
 | false =>
  rw [hin] at cin;refine ⟨[],35,fun S => ?_,⟨by simp,by simp⟩,by simp⟩;refine b7 Tryz.func150 Tryz.ntmps150 fun hwf=>?_
  refine QY ?_;refine QP ?_;refine QL ca ?_;refine bV ?_
  refine bQ h1 h2 ?_;refine QL cf ?_;refine bV ?_
  refine bQ wp ww ?_;refine QL cin ?_;refine bV ?_
  exact qI hwf ((Ghost.tp [] [_] (Ghost.nl _)).toB _) zE (by rfl)
 | true =>
 rw [hin] at cin;have hml:=hm.1;have hpw:p+w<=m.length:=by
  simp only [Ev.insideI,af,aj] at hin;omega
 refine ⟨Ev.stT m p n w,0,fun S => ?_,ano hm p n w,fun _=>jcv m p n w⟩;have hap : ∀ S,jU 1 1 S .nils (vl vby m)=some (.slice S.nx 0 m.length,S.add (1,m.map vby)):=fun S=>by
  have:=zS (S:=S) (s:=1) (b:=1) (xs:=m.map vby) (fun x hx=>by
   obtain ⟨y,_,rfl⟩:=bi.1 hx
   rfl) (by rw [aI]; omega) (by rw [aI]; omega)
  rw [jct,aI] at this;exact this
 refine b7 Tryz.func150 Tryz.ntmps150 fun hwf=>?_
 refine QY ?_;refine QP ?_;refine QL ca ?_;refine bV ?_
 refine bQ h1 h2 ?_;refine QL cf ?_;refine bV ?_
 refine bQ wp ww ?_;refine QL cin ?_;refine QW ?_
 refine bD hap ?_
 refine bX [2,3,4,13,16,17] (fun c σ S' => ∃ (i:Nat) (B:List Int),i<=w/\c=w-i/\B=Ev.stT m p n i/\σ=[(2,vu addr),(3,vu off),(4,vu n),(13,cu w),(16, .slice (lid S.nx 0) 0 m.length),(17,cu i)]/\S'=St S [] [some (1,B.map vby)]) w ?_ ?_
 .exact ⟨0,m,by omega,rfl,rfl,by simp [Fr.oy,Fr.lk,vu],by simp⟩
 .rintro c σ T ⟨i,B,hi,rfl,hB,rfl,rfl⟩;have hBl:B.length=m.length:=by rw [hB,jcv]
  by_cases hit:i<w
  .have hwi:=jg hit (by omega);have hst:B.set (p+i) (IntKind.u8.wrap (n.fdiv (2^(8*i))))=Ev.stT m p n (i+1):=by rw [hB]; rfl
   have hpi:p+i<B.length:=by omega
   have hpm:(p:Int)+(i:Int)<(m.length:Int):=by omega
   have p0:(0:Int)<=(p:Int)+(i:Int):=by omega
   have tp:((p:Int)+(i:Int)).toNat=p+i:=by omega
   have wi':IntKind.u64.wrap (i:Int)=(i:Int):=bU;have wsum:IntKind.u64.wrap ((p:Int)+(i:Int))=(p:Int)+(i:Int):=bU;have w8i:IntKind.i64.wrap (8*(i:Int))=8*(i:Int):=wrap_i64 (by omega) (by omega);have t8i:(8*(i:Int)).toNat=8*i:=by omega
   have p8i:(0:Int)<=8*(i:Int):=by omega
   have hm8i:min (8*i) IntKind.u64.bits=8*i:=by rw [qO]; omega
   have hset : ∀ x,(B.map vby).set (p+i) (.int .u8 x)=(B.set (p+i) x).map vby:=fun x=>by rw [List.map_set]; rfl
   refine bD hit ?_
   refine QY ?_ (r:=by conv=>lhs;simp[QV,wp,wi',wsum,w8i,t8i,p8i,hm8i,hpi,hpm,p0,tp,hset])
   refine bD hwi ?_
   rw [hst];show jx _ _ _ _ _ _ _;exact again ⟨ao hit (aW i),i+1,_,hit,rfl,rfl,by simp [Fr.oy,Fr.lk],rfl⟩
  .have hie:i=w:=by omega
   subst hie;rw [<-hB, <-hBl]
   refine bD hit ?_
   exact jf hwf ((Ghost.tp [] [_] (frz1 (k:=0) (by simp) (by rfl) (jo vby (fun _=>rfl) _) (by simp))).toB _) rfl
end Go.Vw
namespace Ev
structure State where
 mem:List Int
 most:Int
 globals:List Int
 fuel:Int
 input:List Int
 log:List Int
def words (l:List Int):Prop:=l.length<=140737488355328 /\ ∀ x∈l,U64 x
def fitsL:List Int->List Int->Bool
 | [],[]=>true
 | t::ts,n::ns=>fits t n&&fitsL ts ns
 | _,_=>false
theorem aat : ∀ {l m:List Int},fitsL l m=true->l.length=m.length
 | [],[],_=>rfl
 | t::ts,n::ns,h=>by
  simp only [fitsL,af] at h;simp [aat h.2]
theorem aby {l m:List Int} {k:Nat} (h1:k<l.length) (h2:k<m.length):fitsL (l.drop k) (m.drop k)=(fits l[k] m[k]&&fitsL (l.drop (k+1)) (m.drop (k+1))):=by
 rw [am h1,am h2,fitsL]
theorem ab8 {l m:List Int} {k:Nat} (h1 : ¬ k<l.length) (h2 : ¬ k<m.length):fitsL (l.drop k) (m.drop k)=true:=by
 rw [aH.2 (by omega),aH.2 (by omega)]; rfl
end Ev
namespace Go.Vw
open Go.Proofs Go.RowKit
attribute [-simp] List.map_set
def qe (s:Ev.State):V := .agg [vl vby s.mem,cj s.most,vl vu s.globals,cj s.fuel,vl vu s.input,vl vu s.log]
theorem jac (a b:List Int) (ha:a.length<2^62):b8 16 [vl vu a,vl vu b] (.bool (decide (a=b))):=by
 intro S;refine b7 Tryz.func16 Tryz.ntmps16 fun hwf=>?_
 refine QY ?_
 by_cases hl:a.length=b.length
 .have hlI:(a.length:Int)=(b.length:Int):=by omega
  refine bF hl hlI ?_
  refine bX [0,1,5] (fun c σ S' => ∃ (k:Nat),k<=a.length/\c=a.length-k/\decide (a.drop k=b.drop k)=decide (a=b)/\σ=[(0,vl vu a),(1,vl vu b),(5,cu k)]/\S'=St S [] []) a.length ?_ ?_
  .exact ⟨0,by omega,rfl,rfl,by simp [Fr.oy,Fr.lk],by simp⟩
  .rintro c σ T ⟨k,hk,rfl,hd,rfl,rfl⟩
   by_cases hkt:k<a.length
   .have hw:=jg hkt (by omega);have hkb:k<b.length:=by omega
    rw [am hkt,am hkb] at hd;obtain ⟨x,hx⟩ : ∃ x,a[k]=x:=⟨_,rfl⟩
    obtain ⟨y,hy⟩ : ∃ y,b[k]=y:=⟨_,rfl⟩
    rw [hx,hy] at hd
    by_cases he:x=y
    .have hd2:decide (a.drop (k+1)=b.drop (k+1))=decide (a=b):=by rw [<-hd,he]; simp
     refine bD hkt ?_
     refine bY (r:=by conv=>lhs;simp[QV,hkt,hkb,hx,hy,he]) (k:=?_);refine QN ?_
     refine bD hw ?_
     show jx _ _ _ _ _ _ _;exact again ⟨ao hkt (aW k),k+1,hkt,rfl,hd2,by simp [Fr.oy,Fr.lk],rfl⟩
    .have hd2:decide (a=b)=false:=by rw [<-hd]; simp [he]
     rw [hd2]
     refine bD hkt ?_
     refine bY (r:=by conv=>lhs;simp[QV,hkt,hkb,hx,hy,he]) (k:=?_);refine bW ?_
     exact bS
   .have hd2:decide (a=b)=true:=by
     rw [<-hd,aH.2 (by omega),aH.2 (by omega)]; rfl
    rw [hd2]
    refine bD hkt ?_
    exact bS
 .have hlI : ¬ (a.length:Int)=(b.length:Int):=by omega
  have hne:decide (a=b)=false:=bw (fun e=>hl (by rw [e]));rw [hne]
  refine bF hl hlI ?_
  exact bS
theorem atx (l a:List Int) (ha:l.length<2^62):b8 54 [vl cj l,vl vu a] (.bool (Ev.fitsL l a)):=by
 intro S;refine b7 Tryz.func54 Tryz.ntmps54 fun hwf=>?_
 refine QY ?_
 by_cases hl:l.length=a.length
 .have hlI:(l.length:Int)=(a.length:Int):=by omega
  refine bF hl hlI ?_
  refine bX [0,1,5] (fun c σ S' => ∃ (k:Nat),k<=l.length/\c=l.length-k/\Ev.fitsL (l.drop k) (a.drop k)=Ev.fitsL l a/\σ=[(0,vl cj l),(1,vl vu a),(5,cu k)]/\S'=St S [] []) l.length ?_ ?_
  .exact ⟨0,by omega,rfl,rfl,by simp [Fr.oy,Fr.lk],by simp⟩
  .rintro c σ T ⟨k,hk,rfl,hd,rfl,rfl⟩
   by_cases hkt:k<l.length
   .have hw:=jg hkt (by omega);have hka:k<a.length:=by omega
    rw [Ev.aby hkt hka] at hd;have cf:=jbp l[k] a[k];have hfe:Ev.fits l[k] a[k]=(decide (l[k]=126)||(decide (l[k]=127)&&decide (a[k]<4294967296))):=rfl;rw [<-hfe] at cf;obtain ⟨b,hb⟩ : ∃ b,b=Ev.fits l[k] a[k]:=⟨_,rfl⟩
    rw [<-hb] at cf hd;obtain ⟨x,hx⟩ : ∃ x,l[k]=x:=⟨_,rfl⟩
    obtain ⟨y,hy⟩ : ∃ y,a[k]=y:=⟨_,rfl⟩
    rw [hx,hy] at cf
    cases b with
    | true =>
     rw [aE] at hd
     refine bD hkt ?_
     refine bY (r:=by conv=>lhs;simp[QV,hkt,hka,hx,hy]) (k:=?_);refine QL cf ?_;refine QW ?_
     refine bD hw ?_
     show jx _ _ _ _ _ _ _;exact again ⟨ao hkt (aW k),k+1,hkt,rfl,hd,by simp [Fr.oy,Fr.lk],rfl⟩
    | false =>
     rw [aV] at hd;rw [<-hd]
     refine bD hkt ?_
     refine bY (r:=by conv=>lhs;simp[QV,hkt,hka,hx,hy]) (k:=?_);refine QL cf ?_;refine bV ?_
     exact bS
   .rw [Ev.ab8 hkt (by omega)] at hd;rw [<-hd]
    refine bD hkt ?_
    exact bS
 .have hlI : ¬ (l.length:Int)=(a.length:Int):=by omega
  have hne:Ev.fitsL l a=false:=by
   cases h:Ev.fitsL l a with
   | false=>rfl
   | true=>exact absurd (Ev.aat h) hl
  rw [hne]
  refine bF hl hlI ?_
  exact bS
theorem ayk (x:Int):b8 116 [cj x] (.bool false):=by
 intro S;refine b7 Tryz.func116 Tryz.ntmps116 fun hwf=>?_
 refine bz ?_
 exact bS
theorem ay6 (x:Int):b8 82 [cj x] (.bool false):=by
 intro S;refine b7 Tryz.func82 Tryz.ntmps82 fun hwf=>?_
 refine bz ?_
 exact bS
theorem akx (x y:Int):b8 81 [cj x,cj y] (.bool (decide (x<y))):=by
 intro S;have cn:=ayk x;refine b7 Tryz.func81 Tryz.ntmps81 fun hwf=>?_
 refine bz ?_
 refine QP ?_;refine QL cn ?_
 by_cases h:x<y
 .refine bJ h ?_;refine QN ?_
  refine bD h ?_
  exact ja hwf (by simp [h]) rfl
 .refine bJ h ?_;refine QN ?_
  refine bD h ?_
  exact ja hwf (by simp [h]) rfl
theorem av1 (l:List Int) (x:Int) (hl:l.length<2^63):b8 115 [vl cj l,cj x] (cj (qm (fun y=>decide (x=y)) l 0)):=by
 intro S;refine b7 Tryz.func115 Tryz.ntmps115 fun hwf=>?_
 refine bz ?_
 refine bX [0,1,7,8] (fun c σ S' => ∃ (k:Nat),k<=l.length/\c=l.length-k/\qm (fun y=>decide (x=y)) (l.drop k) k=qm (fun y=>decide (x=y)) l 0/\σ=[(0,vl cj l),(1,cj x),(7,cu l.length),(8,cu k)]/\S'=St S [] []) l.length ?_ ?_
 .exact ⟨0,by omega,rfl,rfl,by simp [Fr.oy],rfl⟩
 .rintro c σ T ⟨k,hk,rfl,hd,rfl,rfl⟩
  by_cases hkt:k<l.length
  .have hst:qm (fun y=>decide (x=y)) (l.drop k) k=if decide (x=l[k])=true then (k:Int) else qm (fun y=>decide (x=y)) (l.drop (k+1)) (k+1):=by rw [am hkt,qm]
   have hw:=jg hkt hl
   by_cases hp:x=l[k]
   .rw [if_pos (by simpa using hp)] at hst
    refine bF hkt hp ?_
    exact ja hwf (by rw [<-hd,hst]; rfl) rfl
   .rw [if_neg (by simpa using hp)] at hst
    refine bF hkt hp ?_
    show jx _ _ _ _ _ _ _;exact again ⟨ao hkt (aW k),k+1,hkt,rfl,by rw [<-hd,hst],by simp [Fr.oy,hw],rfl⟩
  .have e:l.drop k=[]:=by rw [aH]; omega
   rw [e] at hd
   refine bD hkt ?_
   exact ja hwf (by rw [<-hd]; rfl) rfl
theorem akk (l:List Int) (x:Int) (hl:l.length<2^63):b8 80 [vl cj l,cj x] (.bool (decide (x∈l))):=by
 intro S;have ci:=av1 l x hl;have he:decide (x∈l)=decide (0<=qm (fun y=>decide (x=y)) l 0):=by
  rw [zY,Bool.eq_iff_iff];simp
 rw [he];refine b7 Tryz.func80 Tryz.ntmps80 fun hwf=>?_
 refine bz ?_
 refine QP ?_;refine QL ci ?_;refine bV ?_
 exact bS
def bsI (l:List Int) (x:Int) (i j:Nat):Nat:=if h:i<j then (if l.getD ((i+j) / 2) 0<x then bsI l x ((i+j) / 2+1) j else bsI l x i ((i+j) / 2)) else i
termination_by j-i
theorem ai1 (l:List Int) (x:Int) (hl:l.length<4611686018427387904) (hs:l.Pairwise (· < ·)):b8 30 [vl cj l,cj x] (.tuple [cu (bsI l x 0 l.length), .bool (decide (x∈l))]):=by
 intro S;have hle : ∀ (a b:Nat) (ha:a<l.length) (hb:b<l.length),a<b->l[a]<l[b]:=fun a b ha hb hab=>List.pairwise_iff_getElem.1 hs a b ha hb hab
 refine b7 Tryz.func30 Tryz.ntmps30 fun hwf=>?_
 refine bz ?_
 refine bX [0,1,6,7,8] (fun c σ S' => ∃ (i j:Nat),i<=j/\j<=l.length/\c=j-i/\bsI l x i j=bsI l x 0 l.length/\(∀ (k:Nat) (hk:k<l.length),k<i->l[k]<x)/\(∀ (k:Nat) (hk:k<l.length),j<=k->x<=l[k])/\σ=[(0,vl cj l),(1,cj x),(6,cu l.length),(7,cu i),(8,cu j)]/\S'=St S [] []) l.length ?_ ?_
 .exact ⟨0,l.length,by omega,by omega,rfl,rfl,fun k hk h=>by omega,fun k hk h=>by omega,by simp [Fr.oy],rfl⟩
 .rintro c σ T ⟨i,j,hij,hj,rfl,hbs,hlo,hhi,rfl,rfl⟩
  by_cases hlt:i<j
  .obtain ⟨h,hh⟩ : ∃ h,h=(i+j) / 2:=⟨_,rfl⟩
   have h1:i<=h:=by omega
   have h2:h<j:=by omega
   have h3:h<l.length:=by omega
   have cl:=akx l[h] x;have hw:IntKind.i64.wrap ((IntKind.u64.wrap (IntKind.i64.wrap ((i:Int)+(j:Int)))).fdiv (2^min 1 IntKind.u64.bits))=(h:Int):=by
    have e1:IntKind.i64.wrap ((i:Int)+(j:Int))=((i+j:Nat):Int):=by
     rw [wrap_i64 (by omega) (by omega)]; omega
    have e2:IntKind.u64.wrap ((i+j:Nat):Int)=((i+j:Nat):Int):=by
     show ((i+j:Nat):Int) % 18446744073709551616=_;omega
    have e3:((i+j:Nat):Int).fdiv (2^min 1 IntKind.u64.bits)=((h:Nat):Int):=by
     show ((i+j:Nat):Int).fdiv 2=_;rw [Int.fdiv_eq_ediv_of_nonneg _ (by omega),hh]; omega
    rw [e1,e2,e3];exact wrap_i64 (by omega) (by omega)
   have hw2:=jg (k:=h) (n:=l.length) h3 (by omega);have hgd:l.getD h 0=l[h]:=by rw [ag,ac h3]; rfl
   rw [bsI,dif_pos hlt, <-hh,hgd] at hbs
   refine bD hlt ?_
   refine bQ hw h3 ?_;refine QL cl ?_
   by_cases hx:l[h]<x
   .have hlo2 : ∀ (k:Nat) (hk:k<l.length),k<h+1->l[k]<x:=fun k hk hkh=>by
     rcases bt k h with h5 | h5
     .exact Int.lt_trans (hle k h hk h3 h5) hx
     .have:k=h:=by omega
      subst this; exact hx
    refine bJ hx ?_;refine QN ?_
    refine bF hx hw2 ?_
    show jx _ _ _ _ _ _ _;exact again ⟨(by omega),h+1,j,by omega,hj,rfl,(by rw [if_pos hx] at hbs; exact hbs),hlo2,hhi,by simp [Fr.oy,Fr.lk],rfl⟩
   .have hhi2 : ∀ (k:Nat) (hk:k<l.length),h<=k->x<=l[k]:=fun k hk hkh=>by
     rcases bt h k with h5 | h5
     .have:=hle h k h3 hk h5; omega
     .have:k=h:=by omega
      subst this; omega
    refine bJ hx ?_;refine QN ?_
    refine bD hx ?_
    show jx _ _ _ _ _ _ _;exact again ⟨(by omega),i,h,by omega,by omega,rfl,(by rw [if_neg hx] at hbs; exact hbs),hlo,hhi2,by simp [Fr.oy,Fr.lk],rfl⟩
  .have e:i=j:=by omega
   subst e;have c1:=ay6;rw [bsI,dif_neg hlt] at hbs;rw [<-hbs]
   by_cases hil:i<l.length
   .by_cases he:l[i]=x
    .have hm:decide (x∈l)=true:=bv (he▸ah hil);rw [hm]
     refine bD hlt ?_
     refine QY ?_ (r:=by conv=>lhs;simp[QV,hil,he])
     refine bz ?_
     exact bS
    .have hm:decide (x∈l)=false:=bw fun hx=>by
      obtain ⟨k,hk,rfl⟩:=a7 hx;rcases bt k i with h5 | h5
      .have:=hlo k hk h5; omega
      .rcases bt i k with h6 | h6
       .have h7:=hle i k hil hk h6;have:=hhi i hil (a9 _); omega
       .have:k=i:=by omega
        subst this; exact he rfl
     rw [hm]
     refine bD hlt ?_
     refine bQ hil he ?_;refine QL (c1 l[i]) ?_;refine bK hil he ?_;refine bW ?_
     exact bS
   .have hm:decide (x∈l)=false:=bw fun hx=>by
     obtain ⟨k,hk,rfl⟩:=a7 hx;have:=hlo k hk (by omega); omega
    rw [hm]
    refine bD hlt ?_
    refine bR hil ?_
    refine bz ?_
    exact bS
end Go.Vw
/-
 Functions in SSA form: how long their lists are.
-/
namespace Ss
def shortL (ls:List (List Int)):Bool:=ls.all fun l=>decide (l.length<=4096)
def Ins.small (x:Ins):Bool:=decide (x.args.length<=4096)&&decide (x.outs.length<=4096)
def Edge.small (x:Edge):Bool:=decide (x.args.length<=4096)
def Block.small (b:Block):Bool:=decide (b.params.length<=4096)&&decide (b.term.to.length<=4096)&&decide (b.term.args.length<=4096)&&b.code.all Ins.small&&b.term.to.all Edge.small
def cJ (n:Nat):List Block->Bool
 | []=>true
 | b::bs=>decide (n+b.code.length<=4096)&&b.small&&cJ (n+b.code.length) bs
def Fn.heads (f:Fn):Bool:=decide (f.types.length<=4096)&&decide (f.blocks.length<=4096)&&decide (f.sig.inn.length<=4096)&&decide (f.sig.out.length<=4096)
def Fn.small (f:Fn):Bool:=f.heads&&cJ 0 f.blocks
def count (bs:List Block):Nat:=(bs.map fun b=>b.code.length).sum
theorem WF : ∀ {bs:List Block} {n:Nat},cJ n bs=true->(∀ b∈bs,b.small=true)/\(n<=4096->n+count bs<=4096)
 | [],n,_=>⟨by simp,by simp [count]⟩
 | b::bs,n,h=>by
  simp only [cJ,af,aj] at h;obtain ⟨⟨h1,h2⟩,h3⟩:=h;obtain ⟨k1,k2⟩:=WF h3;refine ⟨fun x hx => ?_,fun _ => ?_⟩
  .rcases aL.1 hx with rfl | hx
   .exact h2
   .exact k1 x hx
  .have:=k2 h1;simp only [count,List.map_cons,List.sum_cons] at this ⊢;omega
theorem Zk : ∀ {bs:List Block} {n:Nat},(∀ b∈bs,b.small=true)->n+count bs<=4096->cJ n bs=true
 | [],n,_,_=>rfl
 | b::bs,n,h,hn=>by
  simp only [count,List.map_cons,List.sum_cons] at hn;simp only [cJ,af,aj];exact ⟨⟨by omega,h b (by simp)⟩,Zk (fun x hx=>h x (by simp [hx])) (by simp only [count]; omega)⟩
theorem aao (f:Fn):f.small=true↔f.heads=true/\(∀ b∈f.blocks,b.small=true)/\count f.blocks<=4096:=by
 simp only [Fn.small,af];constructor
 .rintro ⟨h1,h2⟩;obtain ⟨k1,k2⟩:=WF h2;exact ⟨h1,k1,by simpa using k2 (by omega)⟩
 .rintro ⟨h1,h2,h3⟩;exact ⟨h1,Zk h2 (by simpa using h3)⟩
theorem aas {α:Type} (p:α->Bool) {l:List α} {k:Nat} (h:k<l.length):(l.drop k).all p=(p l[k]&&(l.drop (k+1)).all p):=by
 rw [am h,List.all_cons]
theorem aai {α:Type} (p:α->Bool) {l:List α} {k:Nat} (h : ¬ k<l.length):(l.drop k).all p=true:=by
 have:l.drop k=[]:=by rw [aH]; omega
 rw [this]; rfl
theorem acl {n:Nat} {l:List Block} {k:Nat} (h:k<l.length):cJ n (l.drop k)=(decide (n+l[k].code.length<=4096)&&l[k].small&&cJ (n+l[k].code.length) (l.drop (k+1))):=by
 rw [am h,cJ]
theorem abt {n:Nat} {l:List Block} {k:Nat} (h : ¬ k<l.length):cJ n (l.drop k)=true:=by
 have:l.drop k=[]:=by rw [aH]; omega
 rw [this]; rfl
end Ss
namespace Go.Vw
open Go.Proofs Go.RowKit
attribute [-simp] List.map_set
theorem agx (f:Ss.Fn) (hf:f.Fits):b8 35 [jM f] (.bool f.small):=by
 intro S;obtain ⟨⟨fi,fo⟩,ts,bs⟩:=f;obtain ⟨_,_,hbl0,hbf⟩:=hf;simp only at hbl0 hbf;have hbl:bs.length<2^63:=by omega
 refine b7 Tryz.func35 Tryz.ntmps35 fun hwf=>?_
 by_cases h1:(4096:Int)<(ts.length:Int)
 .refine bD h1 ?_
  exact ja hwf (by simp [Ss.Fn.small,Ss.Fn.heads]; omega) rfl
 by_cases h2:(4096:Int)<(bs.length:Int)
 .refine bF h1 h2 ?_
  exact ja hwf (by simp [Ss.Fn.small,Ss.Fn.heads]; omega) rfl
 by_cases h3:(4096:Int)<(fi.length:Int)
 .refine bG h1 h2 h3 ?_
  exact ja hwf (by simp [Ss.Fn.small,Ss.Fn.heads]; omega) rfl
 by_cases h4:(4096:Int)<(fo.length:Int)
 .refine bH h1 h2 h3 h4 ?_
  exact ja hwf (by simp [Ss.Fn.small,Ss.Fn.heads]; omega) rfl
 have hh:Ss.Fn.small ⟨⟨fi,fo⟩,ts,bs⟩=Ss.cJ 0 bs:=by
  have:Ss.Fn.heads ⟨⟨fi,fo⟩,ts,bs⟩=true:=by simp [Ss.Fn.heads]; omega
  simp [Ss.Fn.small,this]
 rw [hh]
 refine bH h1 h2 h3 h4 ?_
 refine bX [1,3,4] (fun c σ S' => ∃ (k n:Nat),k<=bs.length/\n<=4096/\c=bs.length-k/\Ss.cJ n (bs.drop k)=Ss.cJ 0 bs/\σ=[(1, .ptr (lid S.nx 0) 0),(3,cu n),(4,cu k)]/\S'=St S [] [some (4,[vl cj fi,vl cj fo,vl cj ts,vl je bs])]) bs.length ?_ ?_
 .exact ⟨0,0,by omega,by omega,rfl,rfl,by simp [Fr.oy],rfl⟩
 .rintro c σ T ⟨k,n,hk,hn,rfl,hd,rfl,rfl⟩
  by_cases hkt:k<bs.length
  .have hw:=jg hkt hbl;have hbk:=hbf _ (ah hkt);have hst:=Ss.acl (n:=n) hkt;obtain ⟨⟨ps,code,⟨tk,ta,to,az⟩⟩,hb⟩ : ∃ b,bs[k]=b:=⟨_,rfl⟩
   rw [hb] at hst hbk;obtain ⟨_,⟨hcl0,_⟩,_,_,⟨htl0,_⟩,_⟩:=hbk;simp only at hcl0 htl0;have hcl:code.length<2^63:=by omega
   have htl:to.length<2^63:=by omega
   have hwn:IntKind.i64.wrap ((n:Int)+(code.length:Int))=(n:Int)+(code.length:Int):=wrap_i64 (by omega) (by omega);have hS:Ss.Block.small ⟨ps,code,⟨tk,ta,to,az⟩⟩=(decide (ps.length<=4096)&&decide (to.length<=4096)&&decide (az.length<=4096)&&code.all Ss.Ins.small&&to.all Ss.Edge.small):=rfl
   by_cases g1:(4096:Int)<(n:Int)+(code.length:Int)
   .have e:Ss.cJ n (bs.drop k)=false:=by rw [hst]; simp; omega
    rw [<-hd,e]
    refine bH hkt hb hwn g1 ?_
    exact bS
   by_cases g2:(4096:Int)<(ps.length:Int)
   .have e:Ss.cJ n (bs.drop k)=false:=by rw [hst,hS]; simp; omega
    rw [<-hd,e]
    refine bO hkt hb hwn g1 g2 ?_
    exact bS
   by_cases g3:(4096:Int)<(to.length:Int)
   .have e:Ss.cJ n (bs.drop k)=false:=by rw [hst,hS]; simp; omega
    rw [<-hd,e]
    refine bB hkt hb hwn g1 g2 g3 ?_
    exact bS
   by_cases g4:(4096:Int)<(az.length:Int)
   .have e:Ss.cJ n (bs.drop k)=false:=by rw [hst,hS]; simp; omega
    rw [<-hd,e]
    repeat first|refine QG ?_|refine QY ?_ (r:=by conv=>lhs;simp[QV,hkt,hb,hwn,g1,g2,g3,g4])
    exact bS
   rw [show decide (n+code.length<=4096)=true by simp; omega,hS,show decide (ps.length<=4096)=true by simp; omega,show decide (to.length<=4096)=true by simp; omega,show decide (az.length<=4096)=true by simp; omega,aE,aE,aE,aE] at hst
   repeat first|refine QG ?_|refine QY ?_ (r:=by conv=>lhs;simp[QV,hkt,hb,hwn,g1,g2,g3,g4])
   refine bX [1,3,4,5,6] (fun c σ S' => ∃ (j:Nat),j<=code.length/\c=code.length-j/\(code.drop j).all Ss.Ins.small=code.all Ss.Ins.small/\σ=[(1, .ptr (lid S.nx 0) 0),(3,cu (n+code.length)),(4,cu k),(5, .ptr (lid S.nx 1) 0),(6,cu j)]/\S'=St S [] [some (4,[vl cj fi,vl cj fo,vl cj ts,vl je bs]),some (6,[vl cj ps,vl js code,cj tk,cj ta,vl ji to,vl cj az])]) code.length ?_ ?_
   .exact ⟨0,by omega,rfl,rfl,by simp [Fr.oy],rfl⟩
   .rintro c σ T ⟨j,hj,rfl,hdj,rfl,rfl⟩
    by_cases hjt:j<code.length
    .have hwj:=jg hjt hcl;have hstj:=Ss.aas Ss.Ins.small hjt;obtain ⟨⟨io,iN,ia,iu⟩,hx⟩ : ∃ b,code[j]=b:=⟨_,rfl⟩
     rw [hx] at hstj;have hX:Ss.Ins.small ⟨io,iN,ia,iu⟩=(decide (ia.length<=4096)&&decide (iu.length<=4096)):=rfl
     by_cases q1:(4096:Int)<(ia.length:Int)
     .have e:code.all Ss.Ins.small=false:=by rw [<-hdj,hstj,hX]; simp; omega
      rw [<-hd,hst,e]
      refine bG hjt hx q1 ?_
      exact bS
     by_cases q2:(4096:Int)<(iu.length:Int)
     .have e:code.all Ss.Ins.small=false:=by rw [<-hdj,hstj,hX]; simp; omega
      rw [<-hd,hst,e]
      refine bH hjt hx q1 q2 ?_
      exact bS
     rw [hX,show decide (ia.length<=4096)=true by simp; omega,show decide (iu.length<=4096)=true by simp; omega,aE,aE] at hstj
     refine bH hjt hx q1 q2 ?_
     show jx _ _ _ _ _ _ _;exact again ⟨ao hjt (aW j),j+1,hjt,rfl,by rw [<-hdj,hstj],by simp [Fr.oy,hwj],rfl⟩
    .rw [Ss.aai _ hjt] at hdj;rw [<-hdj,aE] at hst
     refine bD hjt ?_
     refine bX [1,3,4,5,7] (fun c σ S' => ∃ (j:Nat),j<=to.length/\c=to.length-j/\(to.drop j).all Ss.Edge.small=to.all Ss.Edge.small/\σ=[(1, .ptr (lid S.nx 0) 0),(3,cu (n+code.length)),(4,cu k),(5, .ptr (lid S.nx 1) 0),(7,cu j)]/\S'=St S [] [some (4,[vl cj fi,vl cj fo,vl cj ts,vl je bs]),some (6,[vl cj ps,vl js code,cj tk,cj ta,vl ji to,vl cj az])]) to.length ?_ ?_
     .exact ⟨0,by omega,rfl,rfl,by simp [Fr.oy],rfl⟩
     .rintro c σ T ⟨j,hj,rfl,hdj,rfl,rfl⟩
      by_cases hjt:j<to.length
      .have hwj:=jg hjt htl;have hstj:=Ss.aas Ss.Edge.small hjt;obtain ⟨⟨io,ia⟩,hx⟩ : ∃ b,to[j]=b:=⟨_,rfl⟩
       rw [hx] at hstj;have hX:Ss.Edge.small ⟨io,ia⟩=decide (ia.length<=4096):=rfl
       by_cases q1:(4096:Int)<(ia.length:Int)
       .have e:to.all Ss.Edge.small=false:=by rw [<-hdj,hstj,hX]; simp; omega
        rw [<-hd,hst,e]
        refine bG hjt hx q1 ?_
        exact bS
       rw [hX,show decide (ia.length<=4096)=true by simp; omega,aE] at hstj
       refine bG hjt hx q1 ?_
       show jx _ _ _ _ _ _ _;exact again ⟨ao hjt (aW j),j+1,hjt,rfl,by rw [<-hdj,hstj],by simp [Fr.oy,hwj],rfl⟩
      .rw [Ss.aai _ hjt] at hdj;rw [<-hdj,aE] at hst
       refine bF hjt hw ?_
       refine QA [0] (h:=⟨?_,k+1,n+code.length,hkt,by omega,rfl,by rw [<-hd,hst],by simp,rfl⟩);omega
  .rw [Ss.abt hkt] at hd;rw [<-hd]
   refine bD hkt ?_
   exact bS
theorem at8 (l:List Int):b8 129 ([vl cj l]++[]) (.bool (decide (4096<l.length))):=by
 intro S;refine b7 Tryz.func129 Tryz.ntmps129 fun hwf=>?_
 refine bz ?_
 exact ja hwf (by simp; omega) rfl
theorem jcA (ls:List (List Int)) (hl:ls.length<2^63):b8 99 [vl (vl cj) ls] (.bool (Ss.shortL ls)):=by
 intro S;have e:(!ls.any fun l=>decide (4096<l.length))=Ss.shortL ls:=by
  rw [Ss.shortL,List.not_any_eq_all_not]
  congr 1; funext l; by_cases h:l.length<=4096<;>simp [h]<;>omega
 rw [<-e];refine b7 Tryz.func99 Tryz.ntmps99 fun hwf=>?_
 refine bz ?_
 refine QP ?_;refine jb rfl (ax4 ls (fun l=>decide (4096<l.length)) _ [] rfl hl (fun l _=>at8 l)) ?_;refine bV ?_
 exact bS
theorem as6 (a:List Int):Ss.shortL [a]=decide (a.length<=4096):=by simp [Ss.shortL]
theorem ZM (a b:List Int):Ss.shortL [a,b]=(decide (a.length<=4096)&&decide (b.length<=4096)):=by simp [Ss.shortL]
theorem ag3 (a b c:List Int):Ss.shortL [a,b,c]=(decide (a.length<=4096)&&decide (b.length<=4096)&&decide (c.length<=4096)):=by simp [Ss.shortL,Bool.and_assoc]
theorem jcx (f:Ss.Fn) (hf:f.Fits):b8 64 [jM f] (.bool f.small):=by
 intro S;obtain ⟨⟨fi,fo⟩,ts,bs⟩:=f;obtain ⟨_,_,hbl0,hbf⟩:=hf;simp only at hbl0 hbf;have hbl:bs.length<2^63:=by omega
 refine b7 Tryz.func64 Tryz.ntmps64 fun hwf=>?_
 refine bz ?_
 refine QP ?_;refine zf (xs':=[vl (vl cj) [ts,fi,fo]]) rfl (GhostArgs.one [] [] (frz1 (k:=1) (len:=3) (by simp) rfl rfl rfl)) (jcA _ (by simp)) ?_;simp only [aq,au]
 cases h1:Ss.shortL [ts,fi,fo] with
 | false =>
  refine bJ h1 ?_;refine bW ?_
  refine ja hwf ?_ rfl;rw [ag3] at h1;simp [Ss.Fn.small,Ss.Fn.heads] at h1 ⊢;omega
 | true =>
 by_cases h2:(4096:Int)<(bs.length:Int)
 .refine bK h1 h2 ?_;refine bW ?_
  exact ja hwf (by simp [Ss.Fn.small,Ss.Fn.heads]; omega) rfl
 have hh:Ss.Fn.small ⟨⟨fi,fo⟩,ts,bs⟩=Ss.cJ 0 bs:=by
  have:Ss.Fn.heads ⟨⟨fi,fo⟩,ts,bs⟩=true:=by rw [ag3] at h1; simp [Ss.Fn.heads] at h1 ⊢; omega
  simp [Ss.Fn.small,this]
 rw [hh];refine bK h1 h2 ?_;refine bW ?_
 refine QO [3,28,29,30] ?_;refine QK [0] ?_;refine bX [3,28,29,30] (fun c σ S' => ∃ (k n:Nat),k<=bs.length/\n<=4096/\c=bs.length-k/\Ss.cJ n (bs.drop k)=Ss.cJ 0 bs/\σ=[(3,cj (4096-(n:Int))),(28,vl je bs),(29,cu bs.length),(30,cu k)]/\S'=St S [] [some (4,[vl cj fi,vl cj fo,vl cj ts,vl je bs])]) bs.length ?_ ?_
 .exact ⟨0,0,by omega,by omega,rfl,rfl,by simp [Fr.oy],rfl⟩
 .rintro c σ T ⟨k,n,hk,hn,rfl,hd,rfl,rfl⟩
  by_cases hkt:k<bs.length
  .have hw:=jg hkt hbl;have hbk:=hbf _ (ah hkt);have hst:=Ss.acl (n:=n) hkt;obtain ⟨⟨ps,code,⟨tk,ta,to,az⟩⟩,hb⟩ : ∃ b,bs[k]=b:=⟨_,rfl⟩
   rw [hb] at hst hbk;obtain ⟨_,⟨hcl0,_⟩,_,_,⟨htl0,_⟩,_⟩:=hbk;simp only at hcl0 htl0;have hcl:code.length<2^63:=by omega
   have htl:to.length<2^63:=by omega
   have hwn:IntKind.i64.wrap (4096-(n:Int)-(code.length:Int))=4096-(n:Int)-(code.length:Int):=wrap_i64 (by omega) (by omega);have hS:Ss.Block.small ⟨ps,code,⟨tk,ta,to,az⟩⟩=(decide (ps.length<=4096)&&decide (to.length<=4096)&&decide (az.length<=4096)&&code.all Ss.Ins.small&&to.all Ss.Edge.small):=rfl
   by_cases g1:4096-(n:Int)-(code.length:Int)<0
   .have e:Ss.cJ n (bs.drop k)=false:=by rw [hst]; simp; omega
    rw [<-hd,e]
    refine bH hkt hb hwn g1 ?_
    exact bS
   refine bH hkt hb hwn g1 ?_
   refine QP ?_ (r:=by conv=>lhs;simp[QV,hkt,hb,hwn,g1]);refine zf (xs':=[vl (vl cj) [ps,az]]) rfl (GhostArgs.one [] [] (frz1 (k:=2) (len:=2) (by simp) rfl rfl rfl)) (jcA _ (by simp)) ?_;simp only [aq,au]
   cases g2:Ss.shortL [ps,az] with
   | false =>
    have e:Ss.cJ n (bs.drop k)=false:=by rw [ZM] at g2; rw [hst,hS]; simp at g2 ⊢; omega
    rw [<-hd,e];refine bJ g2 ?_;refine bW ?_
    exact bS
   | true =>
   by_cases g3:(4096:Int)<(to.length:Int)
   .have e:Ss.cJ n (bs.drop k)=false:=by rw [hst,hS]; simp; omega
    rw [<-hd,e];refine bK g2 g3 ?_;refine bW ?_
    exact bS
   rw [ZM] at g2;have g2':ps.length<=4096/\az.length<=4096:=by simpa using g2
   rw [show decide (n+code.length<=4096)=true by simp; omega,hS,show decide (ps.length<=4096)=true by simp; omega,show decide (to.length<=4096)=true by simp; omega,show decide (az.length<=4096)=true by simp; omega,aE,aE,aE,aE] at hst;rw [<-ZM] at g2;refine bK g2 g3 ?_;refine bW ?_
   refine QO [3,5,28,29,30,59,60,61] ?_;refine QK [0,1] ?_;refine bX [3,5,28,29,30,59,60,61] (fun c σ S' => ∃ (j:Nat),j<=code.length/\c=code.length-j/\(code.drop j).all Ss.Ins.small=code.all Ss.Ins.small/\σ=[(3,cj (4096-(n:Int)-(code.length:Int))),(5, .ptr (lid S.nx 1) 0),(28,vl je bs),(29,cu bs.length),(30,cu k),(59,vl js code),(60,cu code.length),(61,cu j)]/\S'=St S [] [some (4,[vl cj fi,vl cj fo,vl cj ts,vl je bs]),some (6,[vl cj ps,vl js code, .int .i64 tk, .int .i64 ta,vl ji to,vl cj az])]) code.length ?_ ?_
   .exact ⟨0,by omega,rfl,rfl,by simp [Fr.oy],rfl⟩
   .rintro c σ T ⟨j,hj,rfl,hdj,rfl,rfl⟩
    by_cases hjt:j<code.length
    .have hwj:=jg hjt hcl;have hstj:=Ss.aas Ss.Ins.small hjt;obtain ⟨⟨io,iN,ia,iu⟩,hx⟩ : ∃ b,code[j]=b:=⟨_,rfl⟩
     rw [hx] at hstj;have hX:Ss.Ins.small ⟨io,iN,ia,iu⟩=Ss.shortL [ia,iu]:=(ZM _ _).symm;rw [hX] at hstj
     refine bF hjt hx ?_
     refine bQ hjt hx ?_;refine zf (xs':=[vl (vl cj) [ia,iu]]) rfl (GhostArgs.one [] [] (frz1 (k:=3) (len:=2) (by simp) rfl rfl rfl)) (jcA _ (by simp)) ?_;simp only [aq,au]
     cases q1:Ss.shortL [ia,iu] with
     | false =>
      rw [q1,aV] at hstj;have e:code.all Ss.Ins.small=false:=by rw [<-hdj,hstj]
      rw [<-hd,hst,e];refine bJ q1 ?_;refine bW ?_
      exact bS
     | true =>
      rw [q1,aE] at hstj;refine bJ q1 ?_;refine bW ?_
      refine QA [0,1] (h:=⟨?_,j+1,hjt,rfl,by rw [<-hdj,hstj],by simp [hwj],rfl⟩);omega
    .rw [Ss.aai _ hjt] at hdj;rw [<-hdj,aE] at hst
     refine bD hjt ?_
     refine bX [3,28,29,30,75,76,77] (fun c σ S' => ∃ (j:Nat),j<=to.length/\c=to.length-j/\(to.drop j).all Ss.Edge.small=to.all Ss.Edge.small/\σ=[(3,cj (4096-(n:Int)-(code.length:Int))),(28,vl je bs),(29,cu bs.length),(30,cu k),(75,vl ji to),(76,cu to.length),(77,cu j)]/\S'=St S [] [some (4,[vl cj fi,vl cj fo,vl cj ts,vl je bs]),some (6,[vl cj ps,vl js code, .int .i64 tk, .int .i64 ta,vl ji to,vl cj az])]) to.length ?_ ?_
     .exact ⟨0,by omega,rfl,rfl,by simp [Fr.oy],rfl⟩
     .rintro c σ T ⟨j,hj,rfl,hdj,rfl,rfl⟩
      by_cases hjt:j<to.length
      .have hwj:=jg hjt htl;have hstj:=Ss.aas Ss.Edge.small hjt;obtain ⟨⟨io,ia⟩,hx⟩ : ∃ b,to[j]=b:=⟨_,rfl⟩
       rw [hx] at hstj;have hX:Ss.Edge.small ⟨io,ia⟩=Ss.shortL [ia]:=(as6 _).symm;rw [hX] at hstj
       refine bF hjt hx ?_
       refine bQ hjt hx ?_;refine zf (xs':=[vl (vl cj) [ia]]) rfl (GhostArgs.one [] [] (frz1 (k:=3) (len:=1) (by simp) rfl rfl rfl)) (jcA _ (by simp)) ?_;simp only [aq,au]
       cases q1:Ss.shortL [ia] with
       | false =>
        rw [q1,aV] at hstj;have e:to.all Ss.Edge.small=false:=by rw [<-hdj,hstj]
        rw [<-hd,hst,e];refine bJ q1 ?_;refine bW ?_
        exact bS
       | true =>
        rw [q1,aE] at hstj;refine bJ q1 ?_;refine bW ?_
        refine QA [0,1] (h:=⟨?_,j+1,hjt,rfl,by rw [<-hdj,hstj],by simp [hwj],rfl⟩);omega
      .rw [Ss.aai _ hjt] at hdj;rw [<-hdj] at hst
       refine bF hjt hw ?_
       refine QA [0] (h:=⟨?_,k+1,n+code.length,hkt,by omega,rfl,by rw [<-hd,hst,aE],by simp; omega,rfl⟩);omega
  .rw [Ss.abt hkt] at hd;rw [<-hd]
   refine bD hkt ?_
   exact bS
end Go.Vw
