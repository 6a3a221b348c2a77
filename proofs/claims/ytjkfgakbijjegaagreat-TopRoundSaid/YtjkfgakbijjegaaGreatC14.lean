import Derived.Test.YtjkfgakbijjegaaGreatC13
/- Part of the proof. -/
set_option linter.unusedVariables false
set_option linter.unusedSimpArgs false
set_option maxRecDepth 10000
set_option maxHeartbeats 4000000

namespace Go.Vw
open Go.Proofs Go.RowKit Wm
attribute [-simp] List.map_set
theorem jeS (x:Wm.Ins) : ∃ c0 c1 c2 c3 c4 c5 c6 c7 c8,encI x = .agg [c0,c1,c2,c3,c4,c5,c6,c7,c8]/\c0.one=true/\c1.one=true/\c2.one=true/\c3.one=true/\c4.one=true/\c5.one=true/\c6.one=true/\c7.one=true/\c8.one=true:=by
 cases x with
 | mk op n m ty body els he ts=>exact ⟨_,_,_,_,_,_,_,_,_,jK op n m ty body els he ts,afb _,aa0 _ _,aa0 _ _,jeF _ _,jeF _ _,jeF _ _,jeF _ _,adi _,jeF _ _⟩
def eqF {α:Type} (p:α->α->Bool):List α->List α->Bool
 | [],[]=>true
 | x::xs,y::ys=>p x y&&eqF p xs ys
 | _,_=>false
theorem WQ {α:Type} {p:α->α->Bool} : ∀ {l m:List α}, ¬ l.length=m.length->eqF p l m=false
 | [],[],h=>absurd rfl h
 | [],_::_,_=>rfl
 | _::_,[],_=>rfl
 | x::xs,y::ys,h=>by rw [eqF,WQ (l:=xs) (m:=ys) (by simpa using h)]; simp
theorem eqF_eq {α:Type} [DecidableEq α] {p:α->α->Bool} (hp : ∀ x y,p x y=decide (x=y)) : ∀ (l m:List α),eqF p l m=decide (l=m)
 | [],[]=>by simp [eqF]
 | [],_::_=>by simp [eqF]
 | _::_,[]=>by simp [eqF]
 | x::xs,y::ys=>by rw [eqF,hp,eqF_eq hp xs ys]; simp
theorem jdM {α:Type} [DecidableEq α] (l m:List α):eqF (fun x y=>decide (x=y)) l m=decide (l=m):=eqF_eq (fun _ _=>rfl) l m
theorem jbS (l m:List (Int)) (hl:l.length<2^63):bF 27 [vl bH l,vl bH m] (.bool (decide (l=m))):=by
 intro S;rw [<-jdM];generalize hp:(fun x y:Int=>decide (x=y))=p;have hnc : ∀ x,(bH x).ncells=1:=fun _=>rfl;by_cases hlm:l.length=m.length
 .have hlm':(l.length:Int)=(m.length:Int):=by omega
  refine bE Tryz.func27 Tryz.ntmps27 fun hwf=>?_;refine bm hlm hlm' ?_;refine bB [0,1,12,13] (fun c σ S' => ∃ (k:Nat),k<=l.length/\c=l.length-k/\eqF p (l.drop k) (m.drop k)=eqF p l m/\σ=[(0,vl bH l),(1,vl bH m),(12,bI m.length),(13,bI k)]/\S'=St S [] []) l.length ?_ ?_
  .exact ⟨0,by omega,rfl,rfl,by simp [Fr.oy,hlm],rfl⟩
  .rintro c σ T ⟨k,hk,rfl,hd,rfl,rfl⟩;by_cases hkt:k<l.length
   .have hkm:k<m.length:=by omega
    have hw:=jP hkt hl;have hst:eqF p (l.drop k) (m.drop k)=(p l[k] m[k]&&eqF p (l.drop (k+1)) (m.drop (k+1))):=by rw [aj hkt,aj hkm,eqF]
    have hix : ∀ S,jz 1 S (vl bH l) (.int .i64 (k:Int))=some (.ref (bH l[k])):=fun S=>jG hnc hkt;have hiy : ∀ S,jz 1 S (vl bH m) (.int .i64 (k:Int))=some (.ref (bH m[k])):=fun S=>jG hnc hkm;generalize l[k]=x at *
    generalize m[k]=y at *
    by_cases hxy:x=y
    .rw [show p x y=true by rw [<-hp]; simp [hxy]] at hst;refine bp hkt hkm hix hiy hxy ?_;show zI _ _ _ _ _ _ _;exact again ⟨al hkt (aN k),k+1,hkt,rfl,by rw [<-hd,hst]; rfl,by simp [Fr.oy,hw],rfl⟩
    .rw [show p x y=false by rw [<-hp]; simp [hxy]] at hst;refine bp hkt hkm hix hiy hxy ?_;exact jd hwf (by rw [<-hd,hst]; rfl) rfl
   .have e:l.drop k=[]:=by rw [aA]; omega
    have e':m.drop k=[]:=by rw [aA]; omega
    rw [e,e'] at hd;have hkm : ¬ k<m.length:=by omega
    refine bm hkt hkm ?_;exact jd hwf (by rw [<-hd]; rfl) rfl
 .have hlm' : ¬ (l.length:Int)=(m.length:Int):=by omega
  have e:eqF p l m=false:=WQ hlm;rw [e];refine bE Tryz.func27 Tryz.ntmps27 fun hwf=>?_;refine bm hlm hlm' ?_;exact bw
theorem api (l m:List (Nat)) (hl:l.length<2^63):bF 32 [vl vb l,vl vb m] (.bool (decide (l=m))):=by
 intro S;rw [<-jdM];generalize hp:(fun x y:Nat=>decide (x=y))=p;have hnc : ∀ x,(vb x).ncells=1:=fun _=>rfl;by_cases hlm:l.length=m.length
 .have hlm':(l.length:Int)=(m.length:Int):=by omega
  refine bE Tryz.func32 Tryz.ntmps32 fun hwf=>?_;refine bm hlm hlm' ?_;refine bB [0,1,12,13] (fun c σ S' => ∃ (k:Nat),k<=l.length/\c=l.length-k/\eqF p (l.drop k) (m.drop k)=eqF p l m/\σ=[(0,vl vb l),(1,vl vb m),(12,bI m.length),(13,bI k)]/\S'=St S [] []) l.length ?_ ?_
  .exact ⟨0,by omega,rfl,rfl,by simp [Fr.oy,hlm],rfl⟩
  .rintro c σ T ⟨k,hk,rfl,hd,rfl,rfl⟩;by_cases hkt:k<l.length
   .have hkm:k<m.length:=by omega
    have hw:=jP hkt hl;have hst:eqF p (l.drop k) (m.drop k)=(p l[k] m[k]&&eqF p (l.drop (k+1)) (m.drop (k+1))):=by rw [aj hkt,aj hkm,eqF]
    have hix : ∀ S,jz 1 S (vl vb l) (.int .i64 (k:Int))=some (.ref (vb l[k])):=fun S=>jG hnc hkt;have hiy : ∀ S,jz 1 S (vl vb m) (.int .i64 (k:Int))=some (.ref (vb m[k])):=fun S=>jG hnc hkm;generalize l[k]=x at *
    generalize m[k]=y at *
    have hxi:((x:Int)=(y:Int))=(x=y):=propext (by omega);by_cases hxy:x=y
    .rw [show p x y=true by rw [<-hp]; simp [hxy]] at hst
     repeat first|refine QG ?_|refine QY ?_ (r:=by conv=>lhs;simp[QV,hkt,hkm,hix,hiy,hxy,vb,hxi])
     show zI _ _ _ _ _ _ _;exact again ⟨al hkt (aN k),k+1,hkt,rfl,by rw [<-hd,hst]; rfl,by simp [Fr.oy,hw],rfl⟩
    .rw [show p x y=false by rw [<-hp]; simp [hxy]] at hst
     repeat first|refine QG ?_|refine QY ?_ (r:=by conv=>lhs;simp[QV,hkt,hkm,hix,hiy,hxy,vb,hxi])
     exact jd hwf (by rw [<-hd,hst]; rfl) rfl
   .have e:l.drop k=[]:=by rw [aA]; omega
    have e':m.drop k=[]:=by rw [aA]; omega
    rw [e,e'] at hd;have hkm : ¬ k<m.length:=by omega
    refine bm hkt hkm ?_;exact jd hwf (by rw [<-hd]; rfl) rfl
 .have hlm' : ¬ (l.length:Int)=(m.length:Int):=by omega
  have e:eqF p l m=false:=WQ hlm;rw [e];refine bE Tryz.func32 Tryz.ntmps32 fun hwf=>?_;refine bm hlm hlm' ?_;exact bw
theorem jcw {a b:List Nat} (ha : ∀ x∈a,x<256) (hb : ∀ x∈b,x<256):(strB a==strB b)=decide (a=b):=by
 by_cases h:a=b
 .subst h;rw [bf rfl];show ((strB a).data==(strB a).data)=true;exact beq_self_eq_true _
 .rw [bg h];show ((strB a).data==(strB b).data)=false;rw [beq_eq_false_iff_ne];intro e';have e:strB a=strB b:=by
   cases h1:strB a; cases h2:strB b; rw [h1,h2] at e'; simp only at e'; rw [e']
  apply h
  have h1:=aep ha;have h2:=aep hb;rw [e,h2] at h1;have : ∀ (a b:List Nat),a.map vb=b.map vb->a=b:=by
   intro a
   induction a with
   | nil=>intro b h; cases b with | nil=>rfl | cons=>cases h
   | cons x a ih =>
    intro b h;cases b with
    | nil=>cases h
    | cons y b =>
     simp only [List.map_cons,List.cons.injEq] at h;have hxy:x=y:=by have:=h.1; simp only [vb,V.int.injEq,true_and] at this; omega
     rw [hxy,ih b h.2]
  exact (this _ _ h1).symm
theorem asd (l m:List (Wm.Global)) (hl:l.length<2^63):bF 23 [vl jv l,vl jv m] (.bool (decide (l=m))):=by
 intro S;rw [<-jdM];generalize hp:(fun x y:Wm.Global=>decide (x=y))=p;have hnc : ∀ x,(jv x).ncells=3:=fun _=>rfl;by_cases hlm:l.length=m.length
 .have hlm':(l.length:Int)=(m.length:Int):=by omega
  refine bE Tryz.func23 Tryz.ntmps23 fun hwf=>?_;refine bm hlm hlm' ?_;refine bB [0,1,12,13] (fun c σ S' => ∃ (k:Nat),k<=l.length/\c=l.length-k/\eqF p (l.drop k) (m.drop k)=eqF p l m/\σ=[(0,vl jv l),(1,vl jv m),(12,bI m.length),(13,bI k)]/\S'=St S [] []) l.length ?_ ?_
  .exact ⟨0,by omega,rfl,rfl,by simp [Fr.oy,hlm],rfl⟩
  .rintro c σ T ⟨k,hk,rfl,hd,rfl,rfl⟩;by_cases hkt:k<l.length
   .have hkm:k<m.length:=by omega
    have hw:=jP hkt hl;have hst:eqF p (l.drop k) (m.drop k)=(p l[k] m[k]&&eqF p (l.drop (k+1)) (m.drop (k+1))):=by rw [aj hkt,aj hkm,eqF]
    have hix : ∀ S,jz 3 S (vl jv l) (.int .i64 (k:Int))=some (.ref (jv l[k])):=fun S=>jG hnc hkt;have hiy : ∀ S,jz 3 S (vl jv m) (.int .i64 (k:Int))=some (.ref (jv m[k])):=fun S=>jG hnc hkm;generalize l[k]=x at *
    generalize m[k]=y at *
    have hfl:WN (P:=Tryz.prog) (t:=70) 0=true:=by rw [Yl]; kernel_rfl
    have hag:qn true true [0,1,0] (jv x) (jv y)=some (.bool (!decide (x=y))):=by
     obtain ⟨a1,a2,a3⟩:=x;obtain ⟨b1,b2,b3⟩:=y;have h3:((a3:Int)=(b3:Int))=(a3=b3):=propext (by omega);simp [qn,jv,qu,qq,bH,Bool.and_assoc,h3]
     all_goals (by_cases h1:a1=b1<;>by_cases h2:a2=b2<;>simp [h1,h2])
    simp only [jv,bH] at hag;by_cases hxy:x=y
    .rw [show p x y=true by rw [<-hp]; simp [hxy]] at hst;rw [bf hxy] at hag
     repeat first|refine QG ?_|refine QY ?_ (r:=by conv=>lhs;simp[QV,hkt,hkm,hix,hiy,hfl,hag,jv])
     show zI _ _ _ _ _ _ _;exact again ⟨al hkt (aN k),k+1,hkt,rfl,by rw [<-hd,hst]; rfl,by simp [Fr.oy,hw],rfl⟩
    .rw [show p x y=false by rw [<-hp]; simp [hxy]] at hst;rw [bg hxy] at hag
     repeat first|refine QG ?_|refine QY ?_ (r:=by conv=>lhs;simp[QV,hkt,hkm,hix,hiy,hfl,hag,jv])
     exact jd hwf (by rw [<-hd,hst]; rfl) rfl
   .have e:l.drop k=[]:=by rw [aA]; omega
    have e':m.drop k=[]:=by rw [aA]; omega
    rw [e,e'] at hd;have hkm : ¬ k<m.length:=by omega
    refine bm hkt hkm ?_;exact jd hwf (by rw [<-hd]; rfl) rfl
 .have hlm' : ¬ (l.length:Int)=(m.length:Int):=by omega
  have e:eqF p l m=false:=WQ hlm;rw [e];refine bE Tryz.func23 Tryz.ntmps23 fun hwf=>?_;refine bm hlm hlm' ?_;exact bw
theorem atg (l m:List (Wm.Import)) (hl:l.length<2^63) (hbl : ∀ x∈l,(∀ c∈x.mod,c<256) /\ ∀ c∈x.name,c<256) (hbm : ∀ x∈m,(∀ c∈x.mod,c<256) /\ ∀ c∈x.name,c<256):bF 22 [vl jp l,vl jp m] (.bool (decide (l=m))):=by
 intro S;rw [<-jdM];generalize hp:(fun x y:Wm.Import=>decide (x=y))=p;have hnc : ∀ x,(jp x).ncells=3:=fun _=>rfl;by_cases hlm:l.length=m.length
 .have hlm':(l.length:Int)=(m.length:Int):=by omega
  refine bE Tryz.func22 Tryz.ntmps22 fun hwf=>?_;refine bm hlm hlm' ?_;refine bB [0,1,12,13] (fun c σ S' => ∃ (k:Nat),k<=l.length/\c=l.length-k/\eqF p (l.drop k) (m.drop k)=eqF p l m/\σ=[(0,vl jp l),(1,vl jp m),(12,bI m.length),(13,bI k)]/\S'=St S [] []) l.length ?_ ?_
  .exact ⟨0,by omega,rfl,rfl,by simp [Fr.oy,hlm],rfl⟩
  .rintro c σ T ⟨k,hk,rfl,hd,rfl,rfl⟩;by_cases hkt:k<l.length
   .have hkm:k<m.length:=by omega
    have hw:=jP hkt hl;have hst:eqF p (l.drop k) (m.drop k)=(p l[k] m[k]&&eqF p (l.drop (k+1)) (m.drop (k+1))):=by rw [aj hkt,aj hkm,eqF]
    have hix : ∀ S,jz 3 S (vl jp l) (.int .i64 (k:Int))=some (.ref (jp l[k])):=fun S=>jG hnc hkt;have hiy : ∀ S,jz 3 S (vl jp m) (.int .i64 (k:Int))=some (.ref (jp m[k])):=fun S=>jG hnc hkm;have hx1:=hbl _ (ah hkt);have hy1:=hbm _ (ah hkm);generalize l[k]=x at *
    generalize m[k]=y at *
    have hfl:WN (P:=Tryz.prog) (t:=67) 0=true:=by rw [Yl]; kernel_rfl
    have hag:qn true true [2,2,0] (jp x) (jp y)=some (.bool (!decide (x=y))):=by
     obtain ⟨a1,a2,a3⟩:=x;obtain ⟨b1,b2,b3⟩:=y;simp only at hx1 hy1;have e1:=jcw hx1.1 hy1.1;have e2:=jcw hx1.2 hy1.2;simp [qn,jp,qu,qq,bH,vstr,Bool.and_assoc,e1,e2]
     all_goals (by_cases h1:a1=b1<;>by_cases h2:a2=b2<;>simp [h1,h2])
    simp only [jp,bH,vstr] at hag;by_cases hxy:x=y
    .rw [show p x y=true by rw [<-hp]; simp [hxy]] at hst;rw [bf hxy] at hag
     repeat first|refine QG ?_|refine QY ?_ (r:=by conv=>lhs;simp[QV,hkt,hkm,hix,hiy,hfl,hag,jp,vstr])
     show zI _ _ _ _ _ _ _;exact again ⟨al hkt (aN k),k+1,hkt,rfl,by rw [<-hd,hst]; rfl,by simp [Fr.oy,hw],rfl⟩
    .rw [show p x y=false by rw [<-hp]; simp [hxy]] at hst;rw [bg hxy] at hag
     repeat first|refine QG ?_|refine QY ?_ (r:=by conv=>lhs;simp[QV,hkt,hkm,hix,hiy,hfl,hag,jp,vstr])
     exact jd hwf (by rw [<-hd,hst]; rfl) rfl
   .have e:l.drop k=[]:=by rw [aA]; omega
    have e':m.drop k=[]:=by rw [aA]; omega
    rw [e,e'] at hd;have hkm : ¬ k<m.length:=by omega
    refine bm hkt hkm ?_;exact jd hwf (by rw [<-hd]; rfl) rfl
 .have hlm' : ¬ (l.length:Int)=(m.length:Int):=by omega
  have e:eqF p l m=false:=WQ hlm;rw [e];refine bE Tryz.func22 Tryz.ntmps22 fun hwf=>?_;refine bm hlm hlm' ?_;exact bw
theorem at7 (l m:List (Wm.Export)) (hl:l.length<2^63) (hbl : ∀ x∈l, ∀ c∈x.name,c<256) (hbm : ∀ x∈m, ∀ c∈x.name,c<256):bF 24 [vl jr l,vl jr m] (.bool (decide (l=m))):=by
 intro S;rw [<-jdM];generalize hp:(fun x y:Wm.Export=>decide (x=y))=p;have hnc : ∀ x,(jr x).ncells=3:=fun _=>rfl;by_cases hlm:l.length=m.length
 .have hlm':(l.length:Int)=(m.length:Int):=by omega
  refine bE Tryz.func24 Tryz.ntmps24 fun hwf=>?_;refine bm hlm hlm' ?_;refine bB [0,1,12,13] (fun c σ S' => ∃ (k:Nat),k<=l.length/\c=l.length-k/\eqF p (l.drop k) (m.drop k)=eqF p l m/\σ=[(0,vl jr l),(1,vl jr m),(12,bI m.length),(13,bI k)]/\S'=St S [] []) l.length ?_ ?_
  .exact ⟨0,by omega,rfl,rfl,by simp [Fr.oy,hlm],rfl⟩
  .rintro c σ T ⟨k,hk,rfl,hd,rfl,rfl⟩;by_cases hkt:k<l.length
   .have hkm:k<m.length:=by omega
    have hw:=jP hkt hl;have hst:eqF p (l.drop k) (m.drop k)=(p l[k] m[k]&&eqF p (l.drop (k+1)) (m.drop (k+1))):=by rw [aj hkt,aj hkm,eqF]
    have hix : ∀ S,jz 3 S (vl jr l) (.int .i64 (k:Int))=some (.ref (jr l[k])):=fun S=>jG hnc hkt;have hiy : ∀ S,jz 3 S (vl jr m) (.int .i64 (k:Int))=some (.ref (jr m[k])):=fun S=>jG hnc hkm;have hx1:=hbl _ (ah hkt);have hy1:=hbm _ (ah hkm);generalize l[k]=x at *
    generalize m[k]=y at *
    have hfl:WN (P:=Tryz.prog) (t:=73) 0=true:=by rw [Yl]; kernel_rfl
    have hag:qn true true [2,0,0] (jr x) (jr y)=some (.bool (!decide (x=y))):=by
     obtain ⟨a1,a2,a3⟩:=x;obtain ⟨b1,b2,b3⟩:=y;simp only at hx1 hy1;have e1:=jcw hx1 hy1;simp [qn,jr,qu,qq,bH,vstr,Bool.and_assoc,e1]
     all_goals (by_cases h1:a1=b1<;>by_cases h2:a2=b2<;>simp [h1,h2])
    simp only [jr,bH,vstr] at hag;by_cases hxy:x=y
    .rw [show p x y=true by rw [<-hp]; simp [hxy]] at hst;rw [bf hxy] at hag
     repeat first|refine QG ?_|refine QY ?_ (r:=by conv=>lhs;simp[QV,hkt,hkm,hix,hiy,hfl,hag,jr,vstr])
     show zI _ _ _ _ _ _ _;exact again ⟨al hkt (aN k),k+1,hkt,rfl,by rw [<-hd,hst]; rfl,by simp [Fr.oy,hw],rfl⟩
    .rw [show p x y=false by rw [<-hp]; simp [hxy]] at hst;rw [bg hxy] at hag
     repeat first|refine QG ?_|refine QY ?_ (r:=by conv=>lhs;simp[QV,hkt,hkm,hix,hiy,hfl,hag,jr,vstr])
     exact jd hwf (by rw [<-hd,hst]; rfl) rfl
   .have e:l.drop k=[]:=by rw [aA]; omega
    have e':m.drop k=[]:=by rw [aA]; omega
    rw [e,e'] at hd;have hkm : ¬ k<m.length:=by omega
    refine bm hkt hkm ?_;exact jd hwf (by rw [<-hd]; rfl) rfl
 .have hlm' : ¬ (l.length:Int)=(m.length:Int):=by omega
  have e:eqF p l m=false:=WQ hlm;rw [e];refine bE Tryz.func24 Tryz.ntmps24 fun hwf=>?_;refine bm hlm hlm' ?_;exact bw
theorem aqu (l m:List (Wm.Sig)) (p:Wm.Sig->Wm.Sig->Bool) (fid:FuncId) (hc:jE Tryz.prog fid=true) (hl:l.length<2^63) (h:l.length=m.length -> ∀ (k:Nat) (h1:k<l.length) (h2:k<m.length),bF fid ([je l[k],je m[k]]) (.bool (p l[k] m[k]))) :
  bF 20 [vl (je) l,vl (je) m, .func fid []] (.bool (eqF p l m)):=by
 intro S;by_cases hlm:l.length=m.length
 .have hlm':(l.length:Int)=(m.length:Int):=by omega
  have h:=h hlm;refine bE Tryz.func20 Tryz.ntmps20 fun hwf=>?_;refine bm hlm hlm' ?_;refine bB [1,2,15,16,17] (fun c σ S' => ∃ (k:Nat),k<=l.length/\c=l.length-k/\eqF p (l.drop k) (m.drop k)=eqF p l m/\σ=[(1,vl (je) m),(2, .func fid []),(15,vl (je) l),(16,bI m.length),(17,bI k)]/\S'=St S [] []) l.length ?_ ?_
  .exact ⟨0,by omega,rfl,rfl,by simp [Fr.oy,hlm],rfl⟩
  .rintro c σ T ⟨k,hk,rfl,hd,rfl,rfl⟩;by_cases hkt:k<l.length
   .have hkm:k<m.length:=by omega
    have hw:=jP hkt hl;have hst:eqF p (l.drop k) (m.drop k)=(p l[k] m[k]&&eqF p (l.drop (k+1)) (m.drop (k+1))):=by rw [aj hkt,aj hkm,eqF]
    have hh:=h k hkt hkm;obtain ⟨x,hx⟩ : ∃ x,l[k]=x:=⟨_,rfl⟩
    obtain ⟨y,hy⟩ : ∃ y,m[k]=y:=⟨_,rfl⟩
    rw [hx,hy] at hst hh;have hnc : ∀ x,(je x).ncells=2:=fun _=>rfl;have hix : ∀ S,jz 2 S (vl je l) (.int .i64 (k:Int))=some (.ref (je x)):=fun S=>by rw [<-hx]; exact jG hnc hkt
    have hiy : ∀ S,jz 2 S (vl je m) (.int .i64 (k:Int))=some (.ref (je y)):=fun S=>by rw [<-hy]; exact jG hnc hkm
    repeat first|refine QG ?_|refine QY ?_ (r:=by conv=>lhs;simp[QV,hkt,hkm,hix,hiy,je])
    refine QP ?_ (r:=by conv=>lhs;simp[QV,hkt,hkm,hix,hiy,je]);refine zh rfl hc rfl hh ?_;refine QW ?_;cases hp:p x y with
    | false =>
     rw [hp] at hst;refine bi hp ?_;exact jd hwf (by rw [<-hd,hst]; rfl) rfl
    | true =>
     rw [hp] at hst;refine bi hp ?_;refine QA [] (h:=⟨?_,k+1,hkt,rfl,by rw [<-hd,hst]; rfl,by simp [hw],rfl⟩);omega
   .have e:l.drop k=[]:=by rw [aA]; omega
    have e':m.drop k=[]:=by rw [aA]; omega
    rw [e,e'] at hd;have hkm : ¬ k<m.length:=by omega
    refine bm hkt hkm ?_;exact jd hwf (by rw [<-hd]; rfl) rfl
 .have hlm' : ¬ (l.length:Int)=(m.length:Int):=by omega
  have e:eqF p l m=false:=WQ hlm;rw [e];refine bE Tryz.func20 Tryz.ntmps20 fun hwf=>?_;refine bm hlm hlm' ?_;exact bw
theorem ao1 (l m:List (Wm.Func)) (p:Wm.Func->Wm.Func->Bool) (fid:FuncId) (hc:jE Tryz.prog fid=true) (hl:l.length<2^63) (h:l.length=m.length -> ∀ (k:Nat) (h1:k<l.length) (h2:k<m.length),bF fid ([encF l[k],encF m[k]]) (.bool (p l[k] m[k]))) :
  bF 25 [vl (encF) l,vl (encF) m, .func fid []] (.bool (eqF p l m)):=by
 intro S;by_cases hlm:l.length=m.length
 .have hlm':(l.length:Int)=(m.length:Int):=by omega
  have h:=h hlm;refine bE Tryz.func25 Tryz.ntmps25 fun hwf=>?_;refine bm hlm hlm' ?_;refine bB [1,2,15,16,17] (fun c σ S' => ∃ (k:Nat),k<=l.length/\c=l.length-k/\eqF p (l.drop k) (m.drop k)=eqF p l m/\σ=[(1,vl (encF) m),(2, .func fid []),(15,vl (encF) l),(16,bI m.length),(17,bI k)]/\S'=St S [] []) l.length ?_ ?_
  .exact ⟨0,by omega,rfl,rfl,by simp [Fr.oy,hlm],rfl⟩
  .rintro c σ T ⟨k,hk,rfl,hd,rfl,rfl⟩;by_cases hkt:k<l.length
   .have hkm:k<m.length:=by omega
    have hw:=jP hkt hl;have hst:eqF p (l.drop k) (m.drop k)=(p l[k] m[k]&&eqF p (l.drop (k+1)) (m.drop (k+1))):=by rw [aj hkt,aj hkm,eqF]
    have hh:=h k hkt hkm;obtain ⟨x,hx⟩ : ∃ x,l[k]=x:=⟨_,rfl⟩
    obtain ⟨y,hy⟩ : ∃ y,m[k]=y:=⟨_,rfl⟩
    rw [hx,hy] at hst hh;have hnc : ∀ x,(encF x).ncells=3:=fun _=>rfl;have hix : ∀ S,jz 3 S (vl encF l) (.int .i64 (k:Int))=some (.ref (encF x)):=fun S=>by rw [<-hx]; exact jG hnc hkt
    have hiy : ∀ S,jz 3 S (vl encF m) (.int .i64 (k:Int))=some (.ref (encF y)):=fun S=>by rw [<-hy]; exact jG hnc hkm
    repeat first|refine QG ?_|refine QY ?_ (r:=by conv=>lhs;simp[QV,hkt,hkm,hix,hiy,encF])
    refine QP ?_ (r:=by conv=>lhs;simp[QV,hkt,hkm,hix,hiy,encF]);refine zh rfl hc rfl hh ?_;refine QW ?_;cases hp:p x y with
    | false =>
     rw [hp] at hst;refine bi hp ?_;exact jd hwf (by rw [<-hd,hst]; rfl) rfl
    | true =>
     rw [hp] at hst;refine bi hp ?_;refine QA [] (h:=⟨?_,k+1,hkt,rfl,by rw [<-hd,hst]; rfl,by simp [hw],rfl⟩);omega
   .have e:l.drop k=[]:=by rw [aA]; omega
    have e':m.drop k=[]:=by rw [aA]; omega
    rw [e,e'] at hd;have hkm : ¬ k<m.length:=by omega
    refine bm hkt hkm ?_;exact jd hwf (by rw [<-hd]; rfl) rfl
 .have hlm' : ¬ (l.length:Int)=(m.length:Int):=by omega
  have e:eqF p l m=false:=WQ hlm;rw [e];refine bE Tryz.func25 Tryz.ntmps25 fun hwf=>?_;refine bm hlm hlm' ?_;exact bw
theorem aoc (l m:List (Wm.Data)) (p:Wm.Data->Wm.Data->Bool) (fid:FuncId) (hc:jE Tryz.prog fid=true) (hl:l.length<2^63) (h:l.length=m.length -> ∀ (k:Nat) (h1:k<l.length) (h2:k<m.length),bF fid ([jq l[k],jq m[k]]) (.bool (p l[k] m[k]))) :
  bF 30 [vl (jq) l,vl (jq) m, .func fid []] (.bool (eqF p l m)):=by
 intro S;by_cases hlm:l.length=m.length
 .have hlm':(l.length:Int)=(m.length:Int):=by omega
  have h:=h hlm;refine bE Tryz.func30 Tryz.ntmps30 fun hwf=>?_;refine bm hlm hlm' ?_;refine bB [1,2,15,16,17] (fun c σ S' => ∃ (k:Nat),k<=l.length/\c=l.length-k/\eqF p (l.drop k) (m.drop k)=eqF p l m/\σ=[(1,vl (jq) m),(2, .func fid []),(15,vl (jq) l),(16,bI m.length),(17,bI k)]/\S'=St S [] []) l.length ?_ ?_
  .exact ⟨0,by omega,rfl,rfl,by simp [Fr.oy,hlm],rfl⟩
  .rintro c σ T ⟨k,hk,rfl,hd,rfl,rfl⟩;by_cases hkt:k<l.length
   .have hkm:k<m.length:=by omega
    have hw:=jP hkt hl;have hst:eqF p (l.drop k) (m.drop k)=(p l[k] m[k]&&eqF p (l.drop (k+1)) (m.drop (k+1))):=by rw [aj hkt,aj hkm,eqF]
    have hh:=h k hkt hkm;obtain ⟨x,hx⟩ : ∃ x,l[k]=x:=⟨_,rfl⟩
    obtain ⟨y,hy⟩ : ∃ y,m[k]=y:=⟨_,rfl⟩
    rw [hx,hy] at hst hh;have hnc : ∀ x,(jq x).ncells=2:=fun _=>rfl;have hix : ∀ S,jz 2 S (vl jq l) (.int .i64 (k:Int))=some (.ref (jq x)):=fun S=>by rw [<-hx]; exact jG hnc hkt
    have hiy : ∀ S,jz 2 S (vl jq m) (.int .i64 (k:Int))=some (.ref (jq y)):=fun S=>by rw [<-hy]; exact jG hnc hkm
    repeat first|refine QG ?_|refine QY ?_ (r:=by conv=>lhs;simp[QV,hkt,hkm,hix,hiy,jq])
    refine QP ?_ (r:=by conv=>lhs;simp[QV,hkt,hkm,hix,hiy,jq]);refine zh rfl hc rfl hh ?_;refine QW ?_;cases hp:p x y with
    | false =>
     rw [hp] at hst;refine bi hp ?_;exact jd hwf (by rw [<-hd,hst]; rfl) rfl
    | true =>
     rw [hp] at hst;refine bi hp ?_;refine QA [] (h:=⟨?_,k+1,hkt,rfl,by rw [<-hd,hst]; rfl,by simp [hw],rfl⟩);omega
   .have e:l.drop k=[]:=by rw [aA]; omega
    have e':m.drop k=[]:=by rw [aA]; omega
    rw [e,e'] at hd;have hkm : ¬ k<m.length:=by omega
    refine bm hkt hkm ?_;exact jd hwf (by rw [<-hd]; rfl) rfl
 .have hlm' : ¬ (l.length:Int)=(m.length:Int):=by omega
  have e:eqF p l m=false:=WQ hlm;rw [e];refine bE Tryz.func30 Tryz.ntmps30 fun hwf=>?_;refine bm hlm hlm' ?_;exact bw
theorem jgk (l m:List (Wm.Ins)) (p:Wm.Ins->Wm.Ins->Bool) (fid:FuncId) (hc:jE Tryz.prog fid=true) (hl:l.length<2^63) (h:l.length=m.length -> ∀ (k:Nat) (h1:k<l.length) (h2:k<m.length),bF fid ([encI l[k],encI m[k]]) (.bool (p l[k] m[k]))) :
  bF 28 [vl (encI) l,vl (encI) m, .func fid []] (.bool (eqF p l m)):=by
 intro S;by_cases hlm:l.length=m.length
 .have hlm':(l.length:Int)=(m.length:Int):=by omega
  have h:=h hlm;refine bE Tryz.func28 Tryz.ntmps28 fun hwf=>?_;refine bm hlm hlm' ?_;refine bB [1,2,15,16,17] (fun c σ S' => ∃ (k:Nat),k<=l.length/\c=l.length-k/\eqF p (l.drop k) (m.drop k)=eqF p l m/\σ=[(1,vl (encI) m),(2, .func fid []),(15,vl (encI) l),(16,bI m.length),(17,bI k)]/\S'=St S [] []) l.length ?_ ?_
  .exact ⟨0,by omega,rfl,rfl,by simp [Fr.oy,hlm],rfl⟩
  .rintro c σ T ⟨k,hk,rfl,hd,rfl,rfl⟩;by_cases hkt:k<l.length
   .have hkm:k<m.length:=by omega
    have hw:=jP hkt hl;have hst:eqF p (l.drop k) (m.drop k)=(p l[k] m[k]&&eqF p (l.drop (k+1)) (m.drop (k+1))):=by rw [aj hkt,aj hkm,eqF]
    have hh:=h k hkt hkm;obtain ⟨x,hx⟩ : ∃ x,l[k]=x:=⟨_,rfl⟩
    obtain ⟨y,hy⟩ : ∃ y,m[k]=y:=⟨_,rfl⟩
    rw [hx,hy] at hst hh;have hnc : ∀ x,(encI x).ncells=9:=fun _=>jbL _;have hix : ∀ S,jz 9 S (vl encI l) (.int .i64 (k:Int))=some (.ref (encI x)):=fun S=>by rw [<-hx]; exact jG hnc hkt
    have hiy : ∀ S,jz 9 S (vl encI m) (.int .i64 (k:Int))=some (.ref (encI y)):=fun S=>by rw [<-hy]; exact jG hnc hkm
    obtain ⟨c0,c1,c2,c3,c4,c5,c6,c7,c8,hcx,n0,n1,n2,n3,n4,n5,n6,n7,n8⟩:=jeS x;obtain ⟨d0,d1,d2,d3,d4,d5,d6,d7,d8,hcy,m0,m1,m2,m3,m4,m5,m6,m7,m8⟩:=jeS y;rw [hcx,hcy] at hh;rw [hcx] at hix;rw [hcy] at hiy
    repeat first|refine QG ?_|refine QY ?_ (r:=by conv=>lhs;simp[QV,hkt,hkm,hix,hiy,n0,n1,n2,n3,n4,n5,n6,n7,n8,m0,m1,m2,m3,m4,m5,m6,m7,m8])
    refine QP ?_ (r:=by conv=>lhs;simp[QV,hkt,hkm,hix,hiy,n0,n1,n2,n3,n4,n5,n6,n7,n8,m0,m1,m2,m3,m4,m5,m6,m7,m8]);refine zh rfl hc rfl hh ?_;refine QW ?_;cases hp:p x y with
    | false =>
     rw [hp] at hst;refine bi hp ?_;exact jd hwf (by rw [<-hd,hst]; rfl) rfl
    | true =>
     rw [hp] at hst;refine bi hp ?_;refine QA [] (h:=⟨?_,k+1,hkt,rfl,by rw [<-hd,hst]; rfl,by simp [hw],rfl⟩);omega
   .have e:l.drop k=[]:=by rw [aA]; omega
    have e':m.drop k=[]:=by rw [aA]; omega
    rw [e,e'] at hd;have hkm : ¬ k<m.length:=by omega
    refine bm hkt hkm ?_;exact jd hwf (by rw [<-hd]; rfl) rfl
 .have hlm' : ¬ (l.length:Int)=(m.length:Int):=by omega
  have e:eqF p l m=false:=WQ hlm;rw [e];refine bE Tryz.func28 Tryz.ntmps28 fun hwf=>?_;refine bm hlm hlm' ?_;exact bw
theorem jfh (l:List (Wm.Sig)) (p:Wm.Sig->Bool) (fid:FuncId) (caps:List V) (hc:jE Tryz.prog fid=true) (hl:l.length<2^63) (h : ∀ x∈l,bF fid ([je x]++caps) (.bool (p x))) :
  bF 117 [vl (je) l, .func fid caps] (bH (findI p l 0)):=by
 intro S;refine bE Tryz.func117 Tryz.ntmps117 fun hwf=>?_;refine bk ?_;refine bB [0,1,7,8] (fun c σ S' => ∃ (k:Nat),k<=l.length/\c=l.length-k/\findI p (l.drop k) k=findI p l 0/\σ=[(0,vl (je) l),(1, .func fid caps),(7,bI l.length),(8,bI k)]/\S'=St S [] []) l.length ?_ ?_
 .exact ⟨0,by omega,rfl,rfl,by simp [Fr.oy],rfl⟩
 .rintro c σ T ⟨k,hk,rfl,hd,rfl,rfl⟩;by_cases hkt:k<l.length
  .have hst:findI p (l.drop k) k=if p l[k] then (k:Int) else findI p (l.drop (k+1)) (k+1):=by rw [aj hkt,findI]
   have hw:=jP hkt hl;have hnc : ∀ x,(je x).ncells=2:=fun _=>rfl;have hix : ∀ S,jz 2 S (vl je l) (.int .i64 (k:Int))=some (.ref (je l[k])):=fun S=>jG hnc hkt;refine bi hkt ?_;refine QP ?_ (r:=by conv=>lhs;simp[QV,hix,hnc,je]);refine zh rfl hc rfl (h _ (ah hkt)) ?_;refine QW ?_;cases hp:p l[k] with
   | true =>
    rw [hp] at hst;refine bi hp ?_;exact jd hwf (by rw [<-hd,hst]; rfl) rfl
   | false =>
    rw [hp] at hst;refine bi hp ?_;show zI _ _ _ _ _ _ _;exact again ⟨al hkt (aN k),k+1,hkt,rfl,by rw [<-hd,hst]; rfl,by simp [Fr.oy,hw],rfl⟩
  .have e:l.drop k=[]:=by rw [aA]; omega
   rw [e] at hd;refine bi hkt ?_;exact jd hwf (by rw [<-hd]; rfl) rfl
theorem aqw (l:List (Wm.Sig)) (p:Wm.Sig->Bool) (fid:FuncId) (caps:List V) (hc:jE Tryz.prog fid=true) (hl:l.length<2^63) (h : ∀ x∈l,bF fid ([je x]++caps) (.bool (p x))) :
  bF 47 [vl (je) l, .func fid caps] (.bool (l.any p)):=by
 intro S;refine bE Tryz.func47 Tryz.ntmps47 fun hwf=>?_;rw [<-Wp p l 0];refine bk ?_;refine QP ?_;refine QL (jfh l p fid caps hc hl h) ?_;refine bz ?_;exact bw
theorem ahz (l:List (Wm.Import)) (p:Wm.Import->Bool) (fid:FuncId) (caps:List V) (hc:jE Tryz.prog fid=true) (hl:l.length<2^63) (h : ∀ x∈l,bF fid ([jp x]++caps) (.bool (p x))) :
  bF 118 [vl (jp) l, .func fid caps] (bH (findI p l 0)):=by
 intro S;refine bE Tryz.func118 Tryz.ntmps118 fun hwf=>?_;refine bk ?_;refine bB [0,1,7,8] (fun c σ S' => ∃ (k:Nat),k<=l.length/\c=l.length-k/\findI p (l.drop k) k=findI p l 0/\σ=[(0,vl (jp) l),(1, .func fid caps),(7,bI l.length),(8,bI k)]/\S'=St S [] []) l.length ?_ ?_
 .exact ⟨0,by omega,rfl,rfl,by simp [Fr.oy],rfl⟩
 .rintro c σ T ⟨k,hk,rfl,hd,rfl,rfl⟩;by_cases hkt:k<l.length
  .have hst:findI p (l.drop k) k=if p l[k] then (k:Int) else findI p (l.drop (k+1)) (k+1):=by rw [aj hkt,findI]
   have hw:=jP hkt hl;have hnc : ∀ x,(jp x).ncells=3:=fun _=>rfl;have hix : ∀ S,jz 3 S (vl jp l) (.int .i64 (k:Int))=some (.ref (jp l[k])):=fun S=>jG hnc hkt;refine bi hkt ?_;refine QP ?_ (r:=by conv=>lhs;simp[QV,hix,hnc,jp]);refine zh rfl hc rfl (h _ (ah hkt)) ?_;refine QW ?_;cases hp:p l[k] with
   | true =>
    rw [hp] at hst;refine bi hp ?_;exact jd hwf (by rw [<-hd,hst]; rfl) rfl
   | false =>
    rw [hp] at hst;refine bi hp ?_;show zI _ _ _ _ _ _ _;exact again ⟨al hkt (aN k),k+1,hkt,rfl,by rw [<-hd,hst]; rfl,by simp [Fr.oy,hw],rfl⟩
  .have e:l.drop k=[]:=by rw [aA]; omega
   rw [e] at hd;refine bi hkt ?_;exact jd hwf (by rw [<-hd]; rfl) rfl
theorem an4 (l:List (Wm.Import)) (p:Wm.Import->Bool) (fid:FuncId) (caps:List V) (hc:jE Tryz.prog fid=true) (hl:l.length<2^63) (h : ∀ x∈l,bF fid ([jp x]++caps) (.bool (p x))) :
  bF 49 [vl (jp) l, .func fid caps] (.bool (l.any p)):=by
 intro S;refine bE Tryz.func49 Tryz.ntmps49 fun hwf=>?_;rw [<-Wp p l 0];refine bk ?_;refine QP ?_;refine QL (ahz l p fid caps hc hl h) ?_;refine bz ?_;exact bw
theorem ain (l:List (Wm.Export)) (p:Wm.Export->Bool) (fid:FuncId) (caps:List V) (hc:jE Tryz.prog fid=true) (hl:l.length<2^63) (h : ∀ x∈l,bF fid ([jr x]++caps) (.bool (p x))) :
  bF 119 [vl (jr) l, .func fid caps] (bH (findI p l 0)):=by
 intro S;refine bE Tryz.func119 Tryz.ntmps119 fun hwf=>?_;refine bk ?_;refine bB [0,1,7,8] (fun c σ S' => ∃ (k:Nat),k<=l.length/\c=l.length-k/\findI p (l.drop k) k=findI p l 0/\σ=[(0,vl (jr) l),(1, .func fid caps),(7,bI l.length),(8,bI k)]/\S'=St S [] []) l.length ?_ ?_
 .exact ⟨0,by omega,rfl,rfl,by simp [Fr.oy],rfl⟩
 .rintro c σ T ⟨k,hk,rfl,hd,rfl,rfl⟩;by_cases hkt:k<l.length
  .have hst:findI p (l.drop k) k=if p l[k] then (k:Int) else findI p (l.drop (k+1)) (k+1):=by rw [aj hkt,findI]
   have hw:=jP hkt hl;have hnc : ∀ x,(jr x).ncells=3:=fun _=>rfl;have hix : ∀ S,jz 3 S (vl jr l) (.int .i64 (k:Int))=some (.ref (jr l[k])):=fun S=>jG hnc hkt;refine bi hkt ?_;refine QP ?_ (r:=by conv=>lhs;simp[QV,hix,hnc,jr]);refine zh rfl hc rfl (h _ (ah hkt)) ?_;refine QW ?_;cases hp:p l[k] with
   | true =>
    rw [hp] at hst;refine bi hp ?_;exact jd hwf (by rw [<-hd,hst]; rfl) rfl
   | false =>
    rw [hp] at hst;refine bi hp ?_;show zI _ _ _ _ _ _ _;exact again ⟨al hkt (aN k),k+1,hkt,rfl,by rw [<-hd,hst]; rfl,by simp [Fr.oy,hw],rfl⟩
  .have e:l.drop k=[]:=by rw [aA]; omega
   rw [e] at hd;refine bi hkt ?_;exact jd hwf (by rw [<-hd]; rfl) rfl
theorem ao8 (l:List (Wm.Export)) (p:Wm.Export->Bool) (fid:FuncId) (caps:List V) (hc:jE Tryz.prog fid=true) (hl:l.length<2^63) (h : ∀ x∈l,bF fid ([jr x]++caps) (.bool (p x))) :
  bF 51 [vl (jr) l, .func fid caps] (.bool (l.any p)):=by
 intro S;refine bE Tryz.func51 Tryz.ntmps51 fun hwf=>?_;rw [<-Wp p l 0];refine bk ?_;refine QP ?_;refine QL (ain l p fid caps hc hl h) ?_;refine bz ?_;exact bw
theorem air (l:List (Wm.Data)) (p:Wm.Data->Bool) (fid:FuncId) (caps:List V) (hc:jE Tryz.prog fid=true) (hl:l.length<2^63) (h : ∀ x∈l,bF fid ([jq x]++caps) (.bool (p x))) :
  bF 120 [vl (jq) l, .func fid caps] (bH (findI p l 0)):=by
 intro S;refine bE Tryz.func120 Tryz.ntmps120 fun hwf=>?_;refine bk ?_;refine bB [0,1,7,8] (fun c σ S' => ∃ (k:Nat),k<=l.length/\c=l.length-k/\findI p (l.drop k) k=findI p l 0/\σ=[(0,vl (jq) l),(1, .func fid caps),(7,bI l.length),(8,bI k)]/\S'=St S [] []) l.length ?_ ?_
 .exact ⟨0,by omega,rfl,rfl,by simp [Fr.oy],rfl⟩
 .rintro c σ T ⟨k,hk,rfl,hd,rfl,rfl⟩;by_cases hkt:k<l.length
  .have hst:findI p (l.drop k) k=if p l[k] then (k:Int) else findI p (l.drop (k+1)) (k+1):=by rw [aj hkt,findI]
   have hw:=jP hkt hl;have hnc : ∀ x,(jq x).ncells=2:=fun _=>rfl;have hix : ∀ S,jz 2 S (vl jq l) (.int .i64 (k:Int))=some (.ref (jq l[k])):=fun S=>jG hnc hkt;refine bi hkt ?_;refine QP ?_ (r:=by conv=>lhs;simp[QV,hix,hnc,jq]);refine zh rfl hc rfl (h _ (ah hkt)) ?_;refine QW ?_;cases hp:p l[k] with
   | true =>
    rw [hp] at hst;refine bi hp ?_;exact jd hwf (by rw [<-hd,hst]; rfl) rfl
   | false =>
    rw [hp] at hst;refine bi hp ?_;show zI _ _ _ _ _ _ _;exact again ⟨al hkt (aN k),k+1,hkt,rfl,by rw [<-hd,hst]; rfl,by simp [Fr.oy,hw],rfl⟩
  .have e:l.drop k=[]:=by rw [aA]; omega
   rw [e] at hd;refine bi hkt ?_;exact jd hwf (by rw [<-hd]; rfl) rfl
theorem aoy (l:List (Wm.Data)) (p:Wm.Data->Bool) (fid:FuncId) (caps:List V) (hc:jE Tryz.prog fid=true) (hl:l.length<2^63) (h : ∀ x∈l,bF fid ([jq x]++caps) (.bool (p x))) :
  bF 53 [vl (jq) l, .func fid caps] (.bool (l.any p)):=by
 intro S;refine bE Tryz.func53 Tryz.ntmps53 fun hwf=>?_;rw [<-Wp p l 0];refine bk ?_;refine QP ?_;refine QL (air l p fid caps hc hl h) ?_;refine bz ?_;exact bw
theorem ajh (l:List (Wm.Func)) (p:Wm.Func->Bool) (fid:FuncId) (caps:List V) (hc:jE Tryz.prog fid=true) (hl:l.length<2^63) (h : ∀ x∈l,bF fid ([encF x]++caps) (.bool (p x))) :
  bF 121 [vl (encF) l, .func fid caps] (bH (findI p l 0)):=by
 intro S;refine bE Tryz.func121 Tryz.ntmps121 fun hwf=>?_;refine bk ?_;refine bB [0,1,7,8] (fun c σ S' => ∃ (k:Nat),k<=l.length/\c=l.length-k/\findI p (l.drop k) k=findI p l 0/\σ=[(0,vl (encF) l),(1, .func fid caps),(7,bI l.length),(8,bI k)]/\S'=St S [] []) l.length ?_ ?_
 .exact ⟨0,by omega,rfl,rfl,by simp [Fr.oy],rfl⟩
 .rintro c σ T ⟨k,hk,rfl,hd,rfl,rfl⟩;by_cases hkt:k<l.length
  .have hst:findI p (l.drop k) k=if p l[k] then (k:Int) else findI p (l.drop (k+1)) (k+1):=by rw [aj hkt,findI]
   have hw:=jP hkt hl;have hnc : ∀ x,(encF x).ncells=3:=fun _=>rfl;have hix : ∀ S,jz 3 S (vl encF l) (.int .i64 (k:Int))=some (.ref (encF l[k])):=fun S=>jG hnc hkt;refine bi hkt ?_;refine QP ?_ (r:=by conv=>lhs;simp[QV,hix,hnc,encF]);refine zh rfl hc rfl (h _ (ah hkt)) ?_;refine QW ?_;cases hp:p l[k] with
   | true =>
    rw [hp] at hst;refine bi hp ?_;exact jd hwf (by rw [<-hd,hst]; rfl) rfl
   | false =>
    rw [hp] at hst;refine bi hp ?_;show zI _ _ _ _ _ _ _;exact again ⟨al hkt (aN k),k+1,hkt,rfl,by rw [<-hd,hst]; rfl,by simp [Fr.oy,hw],rfl⟩
  .have e:l.drop k=[]:=by rw [aA]; omega
   rw [e] at hd;refine bi hkt ?_;exact jd hwf (by rw [<-hd]; rfl) rfl
theorem aox (l:List (Wm.Func)) (p:Wm.Func->Bool) (fid:FuncId) (caps:List V) (hc:jE Tryz.prog fid=true) (hl:l.length<2^63) (h : ∀ x∈l,bF fid ([encF x]++caps) (.bool (p x))) :
  bF 55 [vl (encF) l, .func fid caps] (.bool (l.any p)):=by
 intro S;refine bE Tryz.func55 Tryz.ntmps55 fun hwf=>?_;rw [<-Wp p l 0];refine bk ?_;refine QP ?_;refine QL (ajh l p fid caps hc hl h) ?_;refine bz ?_;exact bw
end Go.Vw
namespace Wm
def jdp (s:Sig):Prop:=s.inn.length<1000000/\s.out.length<1000000
mutual
def okI:Ins->Prop
 | .mk _ _ _ ty body els _ ts=>jdp ty/\body.length<1000000/\els.length<1000000/\ts.length<1000000/\okL body/\okL els
def okL:List Ins->Prop
 | []=>True
 | x::xs=>okI x/\okL xs
end
mutual
def YS:Ins->Ins->Bool
 | .mk op n m ty body els he ts,y=>match y with
  | .mk op' n' m' ty' body' els' he' ts'=>decide (op=op')&&decide (n=n')&&decide (m=m')&&decide (he=he')&&decide (ty=ty')&&decide (ts=ts')&&ZL body body'&&ZL els els'
def ZL:List Ins->List Ins->Bool
 | [],l=>match l with
  | []=>true
  | _::_=>false
 | x::xs,l=>match l with
  | []=>false
  | y::ys=>YS x y&&ZL xs ys
end
theorem jbu : ∀ {l:List Ins},okL l -> ∀ x∈l,okI x
 | [],_,_,h=>by cases h
 | x::xs,h,y,hy=>by
  simp only [okL] at h;rcases aE.1 hy with rfl | hy
  .exact h.1
  .exact jbu h.2 y hy
end Wm
namespace Go.Vw
open Go.Proofs Go.RowKit Wm
attribute [-simp] List.map_set
theorem jfu : ∀ l m:List Wm.Ins,eqF YS l m=ZL l m
 | [],[]=>by simp [eqF,ZL]
 | [],_::_=>by simp [eqF,ZL]
 | _::_,[]=>by simp [eqF,ZL]
 | x::xs,y::ys=>by simp only [eqF,ZL]; rw [jfu xs ys]
theorem jcY (x y:Wm.Sig) (h:jdp x):bF 21 [je x,je y] (.bool (decide (x=y))):=by
 intro S;obtain ⟨a1,a2⟩:=x;obtain ⟨b1,b2⟩:=y;simp only [jdp] at h;have h1':a1.length<2^63:=by omega
 have h2':a2.length<2^63:=by omega
 simp only [je];refine bE Tryz.func21 Tryz.ntmps21 fun hwf=>?_;by_cases h1:a1=b1
 .refine bk ?_;refine QP ?_;refine QL (jbS a1 b1 h1') ?_;refine bv h1 ?_;refine QL (jbS a2 b2 h2') ?_;refine bz ?_;exact jd hwf (by simp [h1]) rfl
 .refine bk ?_;refine QP ?_;refine QL (jbS a1 b1 h1') ?_;refine bv h1 ?_;refine bA ?_;exact jd hwf (by simp [h1]) rfl
theorem aav : ∀ (n:Nat) (x y:Wm.Ins),SizeOf.sizeOf x<=n->okI x->bF 29 [encI x,encI y] (.bool (YS x y))
 | 0,x,y,hn,hx=>by cases x; simp at hn
 | n+1,x,y,hn,hx=>by
  intro S;cases x with
  | mk a1 a2 a3 a4 a5 a6 a7 a8 =>
  cases y with
  | mk b1 b2 b3 b4 b5 b6 b7 b8 =>
  simp only [okI] at hx;obtain ⟨o1,o2,o3,o4,o5,o6⟩:=hx;have k5:=jgk a5 b5 YS 29 rfl (by omega) (fun hl k h1 h2=>aav n a5[k] b5[k] (by have:=List.sizeOf_lt_of_mem (ah h1); simp at hn; omega) (jbu o5 _ (ah h1)));have k6:=jgk a6 b6 YS 29 rfl (by omega) (fun hl k h1 h2=>aav n a6[k] b6[k] (by have:=List.sizeOf_lt_of_mem (ah h1); simp at hn; omega) (jbu o6 _ (ah h1)));rw [jfu] at k5 k6;rw [jK,jK];have j2:((a2:Int)=(b2:Int))=(a2=b2):=propext (by omega);have j3:((a3:Int)=(b3:Int))=(a3=b3):=propext (by omega);refine bE Tryz.func29 Tryz.ntmps29 fun hwf=>?_;by_cases h1:a1=b1
  .by_cases h2:a2=b2
   .by_cases h3:a3=b3
    .by_cases h7:a7=b7
     .refine bk ?_;refine QP ?_ (r:=by conv=>lhs;simp[QV,h1,j2,h2,j3,h3,h7]);refine QL (jcY a4 b4 o1) ?_;by_cases h4:a4=b4
      .refine bv h4 ?_;refine QL (jbS a8 b8 (by omega)) ?_;by_cases h8:a8=b8
       .refine bv h8 ?_;refine jA rfl k5 ?_;cases h5:ZL a5 b5 with
        | true =>
         refine QZ ?_;refine jA rfl k6 ?_;refine bz ?_;exact jd hwf (by simp [YS,h1,h2,h3,h7,h4,h8,h5]) rfl
        | false =>
         refine bz ?_;exact jd hwf (by simp [YS,h5]) rfl
       .refine bv h8 ?_;refine bA ?_;exact jd hwf (by simp [YS,h8]) rfl
      .refine bv h4 ?_;refine bA ?_;exact jd hwf (by simp [YS,h4]) rfl
     .refine bk ?_;refine QY ?_ (r:=by conv=>lhs;simp[QV,h1,j2,h2,j3,h3,h7]);refine bk ?_;exact jd hwf (by simp [YS,h7]) rfl
    .refine bk ?_;refine QY ?_ (r:=by conv=>lhs;simp[QV,h1,j2,h2,j3,h3]);refine bk ?_;exact jd hwf (by simp [YS,h3]) rfl
   .refine bk ?_;refine QY ?_ (r:=by conv=>lhs;simp[QV,h1,j2,h2]);refine bk ?_;exact jd hwf (by simp [YS,h2]) rfl
  .refine bk ?_;refine QY ?_ (r:=by conv=>lhs;simp[QV,h1]);refine bk ?_;exact jd hwf (by simp [YS,h1]) rfl
end Go.Vw
namespace Wm
def btI (tys:List Sig) (s:Sig):Int:=Go.Vw.findI (fun t=>decide (t=s)) tys 0
def btW (tys:List Sig) (s:Sig):List Nat:=if s.inn.length=0/\s.out.length=1 then putW [s.out.getD 0 0] else if s.inn.length+s.out.length=0\/btI tys s<0 then [64] else sW (btI tys s)
end Wm
namespace Go.Vw
open Go.Proofs Go.RowKit Wm
attribute [-simp] List.map_set
theorem axg (t s:Wm.Sig) (h:jdp t):bF 169 [je t, .ref (je s)] (.bool (decide (t=s))):=by
 intro S;have q:=jcY t s h;obtain ⟨f,hf⟩ : ∃ f,decide (t=s)=f:=⟨_,rfl⟩
 rw [hf] at q ⊢;simp only [je] at q ⊢;refine bE Tryz.func169 Tryz.ntmps169 fun hwf=>?_;refine bk ?_;refine QP ?_;refine jA rfl q ?_;refine bz ?_;exact bw
theorem aa5 {α:Type} (p:α->Bool) : ∀ (l:List α) (k:Nat), -1<=findI p l k/\findI p l k<l.length+k+1
 | [],k=>by simp [findI]; omega
 | x::xs,k=>by
  have:=aa5 p xs (k+1);simp only [findI];split
  .simp; omega
  .simp only [av]; omega
theorem bt_w (wo:Nat) (tys:List Wm.Sig) (s:Wm.Sig) (ht:tys.length<1000000) (hok : ∀ t∈tys,jdp t) (hs:jdp s):WrX Tryz.prog 157 [.ptr wo 0,je s] wo (vl je tys) [] (btW tys s):=by
 intro bo bs S E hi he hb;have hix:=jfh tys (fun t=>decide (t=s)) 169 [.ref (je s)] rfl (by omega) (fun t h=>axg t s (hok t h));have hrg:=aa5 (fun t=>decide (t=s)) tys 0;obtain ⟨i,hi0⟩ : ∃ i,findI (fun t=>decide (t=s)) tys 0=i:=⟨_,rfl⟩
 rw [hi0] at hix hrg;have hbi:btI tys s=i:=hi0;obtain ⟨cell,hw0,hbc⟩:=id hi;simp only [je] at hix ⊢;have o1:=hs.1;have o2:=hs.2;have a1:IntKind.i64.wrap ((s.inn.length:Int)+(s.out.length:Int))=(s.inn.length:Int)+(s.out.length:Int):=wrap_i64 (by omega) (by omega);refine jc (c:=jf Tryz.f157) Tryz.func157 rfl rfl (by simp [Tryz.ntmps157]) ?_;rw [Tryz.ntmps157];intro hwf;have hlt:=hi.lt hwf;have gw : ∀ l,(St S [] l).get wo=some (2,[vl je tys,cell]):=fun l=>(jk hlt.1).trans hw0;refine bk ?_;refine qi 3 rfl (WH (k:=0) (s:=2) (cs:=[vl bH s.inn,vl bH s.out]) (by simp) (by simp) rfl (by simp)) (by conv=>lhs; simp [Fr.set]) ?_;by_cases c1:s.inn.length=0
 .have d1:(s.inn.length:Int)=0:=by omega
  by_cases c2:s.out.length=1
  .obtain ⟨y,hy⟩ : ∃ y,s.out=[y]:=List.length_eq_one_iff.1 c2;have hbw:btW tys s=putW [y]:=by simp [btW,c1,hy]
   rw [hbw] at hb ⊢;refine XQ E ?_ (r:=by conv=>lhs;simp[QV,gw]);refine qr rfl hix ?_;refine XN ?_;refine ja ?_;rw [hy];refine bm c1 d1 ?_;refine XQ E ?_;refine jb rfl (Wu (k:=1) (ls:=[y]) hwf hi rfl (by simpa [qp] using hb)) ?_;rintro _ T1 ⟨⟨b1,h1⟩,rfl⟩;refine ja ?_;refine bk ?_;exact jn ⟨⟨b1,h1⟩,rfl⟩
  .have d2 : ¬ (s.out.length:Int)=1:=by omega
   by_cases c3:s.out.length=0
   .have d3:(s.inn.length:Int)+(s.out.length:Int)=0:=by omega
    have d4:(s.out.length:Int)=0:=by omega
    rw [d3] at a1;have hbw:btW tys s=[64]:=by simp only [btW,hbi]; rw [if_neg (fun h=>c2 h.2),if_pos (.inl (by omega))]
    rw [hbw] at hb ⊢;refine XQ E ?_ (r:=by conv=>lhs;simp[QV,gw]);refine qr rfl hix ?_;refine XN ?_;refine ja ?_
    repeat first|refine QG ?_|refine QY ?_ (r:=by conv=>lhs;simp[QV,c1,c2,d1,d2,d3,d4,a1])
    refine XQ E ?_;refine jb rfl (Wu (k:=1) (ls:=[64]) hwf hi rfl hb) ?_;rintro _ T1 ⟨⟨b1,h1⟩,rfl⟩;refine ja ?_;refine bk ?_;exact jn ⟨⟨b1,by simpa [putW] using h1⟩,rfl⟩
   .have d3 : ¬ (s.out.length:Int)=0:=by omega
    have c3' : ¬ s.out=[]:=fun h=>c3 (by rw [h]; rfl);have a2:IntKind.i64.wrap (s.out.length:Int)=(s.out.length:Int):=wrap_i64 (by omega) (by omega);by_cases c4:i<0
    .have hbw:btW tys s=[64]:=by simp only [btW,hbi]; rw [if_neg (fun h=>c2 h.2),if_pos (.inr c4)]
     rw [hbw] at hb ⊢;refine XQ E ?_ (r:=by conv=>lhs;simp[QV,gw]);refine qr rfl hix ?_;refine XN ?_;refine ja ?_
     repeat first|refine QG ?_|refine QY ?_ (r:=by conv=>lhs;simp[QV,c1,c2,d1,d2,c3,c3',d3,a2,c4])
     refine XQ E ?_;refine jb rfl (Wu (k:=1) (ls:=[64]) hwf hi rfl hb) ?_;rintro _ T1 ⟨⟨b1,h1⟩,rfl⟩;refine ja ?_;refine bk ?_;exact jn ⟨⟨b1,by simpa [putW] using h1⟩,rfl⟩
    .have hbw:btW tys s=sW i:=by simp only [btW,hbi]; rw [if_neg (fun h=>c2 h.2),if_neg (by rintro (h | h)<;>omega)]
     rw [hbw] at hb ⊢;refine XQ E ?_ (r:=by conv=>lhs;simp[QV,gw]);refine qr rfl hix ?_;refine XN ?_;refine ja ?_
     repeat first|refine QG ?_|refine QY ?_ (r:=by conv=>lhs;simp[QV,c1,c2,d1,d2,c3,c3',d3,a2,c4])
     refine XQ E ?_;refine jb rfl ((s_w wo (vl je tys) rfl i (by omega) (by omega)).at hwf hi (EnvW.nil _ _ _) hb) ?_;rintro _ T1 ⟨⟨b1,h1⟩,rfl⟩;refine ja ?_;refine bk ?_;exact jn ⟨⟨b1,h1⟩,rfl⟩
 .have d1 : ¬ (s.inn.length:Int)=0:=by omega
  have c1' : ¬ s.inn=[]:=fun h=>c1 (by rw [h]; rfl);have d3 : ¬ (s.inn.length:Int)+(s.out.length:Int)=0:=by omega
  by_cases c4:i<0
  .have hbw:btW tys s=[64]:=by simp only [btW,hbi]; rw [if_neg (fun h=>c1 h.1),if_pos (.inr c4)]
   rw [hbw] at hb ⊢;refine XQ E ?_ (r:=by conv=>lhs;simp[QV,gw]);refine qr rfl hix ?_;refine XN ?_;refine ja ?_;refine bu c1 c1' d1 a1 d3 c4 ?_;refine XQ E ?_;refine jb rfl (Wu (k:=1) (ls:=[64]) hwf hi rfl hb) ?_;rintro _ T1 ⟨⟨b1,h1⟩,rfl⟩;refine ja ?_;refine bk ?_;exact jn ⟨⟨b1,by simpa [putW] using h1⟩,rfl⟩
  .have hbw:btW tys s=sW i:=by simp only [btW,hbi]; rw [if_neg (fun h=>c1 h.1),if_neg (by rintro (h | h)<;>omega)]
   rw [hbw] at hb ⊢;refine XQ E ?_ (r:=by conv=>lhs;simp[QV,gw]);refine qr rfl hix ?_;refine XN ?_;refine ja ?_;refine bu c1 c1' d1 a1 d3 c4 ?_;refine XQ E ?_;refine jb rfl ((s_w wo (vl je tys) rfl i (by omega) (by omega)).at hwf hi (EnvW.nil _ _ _) hb) ?_;rintro _ T1 ⟨⟨b1,h1⟩,rfl⟩;refine ja ?_;refine bk ?_;exact jn ⟨⟨b1,h1⟩,rfl⟩
end Go.Vw
namespace Wm
mutual
def insW (tys:List Sig):Ins->List Nat
 | .mk op n m ty body els he ts=>putW [op]++(if (Ss.accOf op).isSome=true then uW m++uW n
  else if op=2\/op=3\/op=4 then btW tys ty++(zg tys body++((if he=true then 5::zg tys els else [])++[11]))
  else if op=12\/op=13\/op=16\/op=32\/op=33\/op=34\/op=35\/op=36 then uW n
  else if op=14 then jS (Go.IntKind.i64.wrap (ts.length-1))++ts.flatMap jS
  else if op=63\/op=64 then [0]
  else if op=65 then sW (Go.IntKind.i64.wrap (Go.IntKind.i32.wrap n))
  else if op=66 then sW (Go.IntKind.i64.wrap n) else [])
def zg (tys:List Sig):List Ins->List Nat
 | []=>[]
 | x::xs=>insW tys x++zg tys xs
end
mutual
def nI:Ins->Prop
 | .mk _ n m _ body els _ _=>n<18446744073709551616/\m<18446744073709551616/\nL body/\nL els
def nL:List Ins->Prop
 | []=>True
 | x::xs=>nI x/\nL xs
end
theorem al2 : ∀ {l:List Ins},nL l -> ∀ x∈l,nI x
 | [],_,_,h=>by cases h
 | x::xs,h,y,hy=>by
  simp only [nL] at h;rcases aE.1 hy with rfl | hy
  .exact h.1
  .exact al2 h.2 y hy
theorem jff (tys:List Sig) : ∀ l:List Ins,zg tys l=l.flatMap (insW tys)
 | []=>rfl
 | x::xs=>by rw [zg,jff tys xs]; rfl
end Wm
namespace Go.Vw
open Go.Proofs Go.RowKit Wm
attribute [-simp] List.map_set
theorem asi (wo:Nat) (tys:List Wm.Sig) (htl:tys.length<1000000) (hto : ∀ t∈tys,jdp t) (op:Int) (n m:Nat) (ty:Wm.Sig) (body els:List Wm.Ins) (els_:Bool) (ts:List Int) (hn:n<18446744073709551616) (hm:m<18446744073709551616) (hty:jdp ty) (hts:ts.length<1000000)
  (hB:WrX Tryz.prog 124 [.ptr wo 0,vl encI body] wo (vl je tys) [] (zg tys body)) (hE2:WrX Tryz.prog 124 [.ptr wo 0,vl encI els] wo (vl je tys) [] (zg tys els)) :
  WrX Tryz.prog 138 [.ptr wo 0,encI (.mk op n m ty body els els_ ts)] wo (vl je tys) [] (insW tys (.mk op n m ty body els els_ ts)):=by
 intro bo bs S E hi he hb;have cA:=jgm op;rw [jK];obtain ⟨ac,hac⟩ : ∃ ac,(Ss.accOf op).isSome=ac:=⟨_,rfl⟩
 generalize (Ss.accOf op).getD ⟨0,0,false,false⟩=a0 at cA;rw [hac] at cA;have hsum:(insW tys (.mk op n m ty body els els_ ts)).length=1+(insW tys (.mk op n m ty body els els_ ts)).length-1:=by omega
 simp only [insW,hac] at hb ⊢;rw [lA,qp] at hb;simp only [av,aF] at hb;refine jc (c:=jf Tryz.f138) Tryz.func138 rfl rfl (by simp [Tryz.ntmps138]) ?_;rw [Tryz.ntmps138];intro hwf;refine bk ?_;refine qi 3 rfl (WH (k:=0) (s:=9) (cs:=[bH op, .int .u64 n, .int .u64 m,vl bH ty.inn,vl bH ty.out,vl encI body,vl encI els, .bool els_,vl bH ts]) (by simp) (by simp) rfl (by simp)) (by conv=>lhs; simp [Fr.set]) ?_;refine XQ E ?_;refine jb rfl (Wu (k:=1) (ls:=[op]) hwf hi rfl (by simp only [av,aF]; omega)) ?_;rintro _ T1 ⟨⟨b1,h1⟩,rfl⟩;refine ja ?_;refine jD fun w1 => ?_;rw [<-jh w1];refine XQ E ?_;refine qr rfl cA ?_;refine XN ?_;refine ja ?_;have fin : ∀ out b T,WP wo b1 (vl je tys) (bs++putW [op]++out) T1 b T->WP wo bo (vl je tys) (bs++(putW [op]++out)) S b T:=fun out b T h=>by rw [<-List.append_assoc]; exact h1.trans h
 have hb1:(bs++putW [op]).length=bs.length+1:=by simp [putW]
 obtain ⟨cur,hcur⟩ : ∃ cur,bs++putW [op]=cur:=⟨_,rfl⟩
 rw [hcur] at h1 fin hb1;cases ac with
 | true =>
  simp only [if_true,lA] at hb ⊢;refine bk ?_;refine XQ E ?_;refine jb rfl ((u_w wo (vl je tys) rfl m (by omega) (by omega)).at w1 h1.wi (EnvW.nil _ _ _) (by omega)) ?_;rintro _ T2 ⟨⟨b2,h2⟩,rfl⟩;refine ja ?_;refine jD fun w2 => ?_;rw [<-jh w2];refine bk ?_;refine XQ E ?_;refine jb rfl ((u_w wo (vl je tys) rfl n (by omega) (by omega)).at w2 h2.wi (EnvW.nil _ _ _) (by rw [lA]; omega)) ?_;rintro _ T3 ⟨⟨b3,h3⟩,rfl⟩;refine ja ?_;refine bk ?_;exact jn ⟨⟨b3,fin _ _ _ (by rw [<-List.append_assoc]; exact h2.trans h3)⟩,rfl⟩
 | false =>
  simp only [ay,if_false] at hb ⊢;by_cases c1:op=2\/op=3\/op=4
  .rw [if_pos c1] at hb ⊢;simp only [lA,av,aF] at hb;rcases c1 with rfl | rfl | rfl
   all_goals
    refine bk ?_;refine XQ E ?_;refine jb rfl ((bt_w wo tys ty htl hto hty).at w1 h1.wi (EnvW.nil _ _ _) (by omega)) ?_;rintro _ T2 ⟨⟨b2,h2⟩,rfl⟩;refine ja ?_;refine jD fun w2 => ?_;rw [<-jh w2];refine bk ?_;refine XQ E ?_;refine jb rfl (hB.at w2 h2.wi (EnvW.nil _ _ _) (by rw [lA]; omega)) ?_;rintro _ T3 ⟨⟨b3,h3⟩,rfl⟩;refine ja ?_;refine jD fun w3 => ?_;rw [<-jh w3];cases els_ with
    | true =>
     simp only [if_true,av] at hb ⊢;refine bk ?_;refine XQ E ?_;refine jb rfl (Wu (k:=0) (ls:=[5]) w3 h3.wi rfl (by simp only [lA,av,aF]; omega)) ?_;rintro _ T4 ⟨⟨b4,h4⟩,rfl⟩;refine ja ?_;refine jD fun w4 => ?_;rw [<-jh w4];refine bk ?_;refine XQ E ?_;refine jb rfl (hE2.at w4 h4.wi (EnvW.nil _ _ _) (by simp only [lA,qp,av,aF]; omega)) ?_;rintro _ T5 ⟨⟨b5,h5⟩,rfl⟩;refine ja ?_;refine jD fun w5 => ?_;rw [<-jh w5];refine bk ?_;refine XQ E ?_;refine jb rfl (Wu (k:=0) (ls:=[11]) w5 h5.wi rfl (by simp only [lA,qp,av,aF]; omega)) ?_;rintro _ T6 ⟨⟨b6,h6⟩,rfl⟩;refine ja ?_;refine bk ?_;exact jn ⟨⟨b6,fin _ _ _ (by simpa [putW] using (((h2.trans h3).trans h4).trans h5).trans h6)⟩,rfl⟩
    | false =>
     simp only [ay,if_false,aF] at hb ⊢;refine bk ?_;refine XQ E ?_;refine jb rfl (Wu (k:=0) (ls:=[11]) w3 h3.wi rfl (by simp only [lA,av,aF]; omega)) ?_;rintro _ T6 ⟨⟨b6,h6⟩,rfl⟩;refine ja ?_;refine bk ?_;exact jn ⟨⟨b6,fin _ _ _ (by simpa [putW] using (h2.trans h3).trans h6)⟩,rfl⟩
  .rw [if_neg c1] at hb ⊢;by_cases c2:op=12\/op=13\/op=16\/op=32\/op=33\/op=34\/op=35\/op=36
   .rw [if_pos c2] at hb ⊢;rcases c2 with rfl | rfl | rfl | rfl | rfl | rfl | rfl | rfl
    all_goals
     refine bk ?_;refine XQ E ?_;refine jb rfl ((u_w wo (vl je tys) rfl n (by omega) (by omega)).at w1 h1.wi (EnvW.nil _ _ _) (by omega)) ?_;rintro _ T2 ⟨⟨b2,h2⟩,rfl⟩;refine ja ?_;refine bk ?_;exact jn ⟨⟨b2,fin _ _ _ h2⟩,rfl⟩
   .rw [if_neg c2] at hb ⊢;by_cases c3:op=14
    .rw [if_pos c3] at hb ⊢;subst c3;simp only [lA] at hb;refine bk ?_;refine XQ E ?_;refine jb rfl ((zF wo (vl je tys) rfl (IntKind.i64.wrap (ts.length-1))).at w1 h1.wi (EnvW.nil _ _ _) (by omega)) ?_;rintro _ T2 ⟨⟨b2,h2⟩,rfl⟩;refine ja ?_;refine jD fun w2 => ?_;rw [<-jh w2];refine bk ?_;refine bB [0,80,81,82] (fun c σ T => ∃ (k bo':Nat),k<=ts.length/\c=ts.length-k/\WP wo b2 (vl je tys) (cur++jS (IntKind.i64.wrap (ts.length-1))++(ts.take k).flatMap jS) T2 bo' T/\σ=[(0, .ptr wo 0),(80,vl bH ts),(81,bI ts.length),(82,bI k)]) ts.length ?_ ?_
     .refine ⟨0,b2,Nat.zero_le _,rfl, ?_,by simp [Fr.oy]⟩;rw [jh w2];simpa using WP.refl h2.wi
     .rintro c σ T ⟨k,bo',hk,rfl,hp,rfl⟩;refine jD fun hwT => ?_;rw [<-jh hwT];by_cases hkt:k<ts.length
      .have hw:=jP hkt (by omega);have hft:=JV jS ts (k+1);rw [List.take_succ_eq_append_getElem hkt,List.flatMap_append,lA] at hft;simp only [List.flatMap_cons,List.flatMap_nil,List.append_nil] at hft;refine bi hkt ?_;refine XQ E ?_;refine jb rfl ((zF wo (vl je tys) rfl ts[k]).at hwT hp.wi (EnvW.nil _ _ _) (by simp only [lA]; omega)) ?_;rintro _ U ⟨⟨b3,h3⟩,rfl⟩;refine ja ?_;refine bi hw ?_;show zI _ _ _ _ _ _ _;exact again ⟨al hkt (aN k),k+1,b3,hkt,rfl,(by rw [List.take_succ_eq_append_getElem hkt,List.flatMap_append, <-List.append_assoc]; simpa using hp.trans h3),by simp [Fr.oy,hw]⟩
      .have hke:k=ts.length:=by omega
       subst hke;refine bi hkt ?_;rw [jh hwT];rw [List.take_length] at hp;exact jn ⟨⟨bo',fin _ _ _ (by rw [<-List.append_assoc]; exact h2.trans hp)⟩,rfl⟩
    .rw [if_neg c3] at hb ⊢;by_cases c4:op=63\/op=64
     .rw [if_pos c4] at hb ⊢;simp only [av,aF] at hb;rcases c4 with rfl | rfl
      all_goals
       refine bk ?_;refine XQ E ?_;refine jb rfl (Wu (k:=0) (ls:=[0]) w1 h1.wi rfl (by simp only [av,aF]; omega)) ?_;rintro _ T2 ⟨⟨b2,h2⟩,rfl⟩;refine ja ?_;refine bk ?_;exact jn ⟨⟨b2,fin _ _ _ (by simpa [putW] using h2)⟩,rfl⟩
     .rw [if_neg c4] at hb ⊢;by_cases c5:op=65
      .rw [if_pos c5] at hb ⊢;subst c5;refine bk ?_;refine XQ E ?_;refine jb rfl ((s_w wo (vl je tys) rfl (IntKind.i64.wrap (IntKind.i32.wrap n)) (jce _).1 (jce _).2).at w1 h1.wi (EnvW.nil _ _ _) (by omega)) ?_;rintro _ T2 ⟨⟨b2,h2⟩,rfl⟩;refine ja ?_;refine bk ?_;exact jn ⟨⟨b2,fin _ _ _ h2⟩,rfl⟩
      .rw [if_neg c5] at hb ⊢;by_cases c6:op=66
       .rw [if_pos c6] at hb ⊢;subst c6;refine bk ?_;refine XQ E ?_;refine jb rfl ((s_w wo (vl je tys) rfl (IntKind.i64.wrap n) (jce _).1 (jce _).2).at w1 h1.wi (EnvW.nil _ _ _) (by omega)) ?_;rintro _ T2 ⟨⟨b2,h2⟩,rfl⟩;refine ja ?_;refine bk ?_;exact jn ⟨⟨b2,fin _ _ _ h2⟩,rfl⟩
       .rw [if_neg c6];simp only [not_or] at c1 c2 c4;obtain ⟨x1,x2,x3⟩:=c1;obtain ⟨y1,y2,y3,y4,y5,y6,y7,y8⟩:=c2;obtain ⟨z1,z2⟩:=c4
        repeat first|refine QG ?_|refine QY ?_ (r:=by conv=>lhs;simp[QV,x1,x2,x3,y1,y2,y3,y4,y5,y6,y7,y8,c3,z1,z2,c5,c6])
        rw [jh w1];exact jn ⟨⟨b1,fin _ _ _ (by rw [List.append_nil]; exact WP.refl h1.wi)⟩,rfl⟩
theorem ac3 (wo:Nat) (tys:List Wm.Sig) (htl:tys.length<1000000) (hto : ∀ t∈tys,jdp t) : ∀ (N:Nat) (l:List Wm.Ins),SizeOf.sizeOf l<=N->l.length<1000000->okL l->nL l->WrX Tryz.prog 124 [.ptr wo 0,vl encI l] wo (vl je tys) [] (zg tys l)
 | 0,l,hN,_,_,_=>by cases l<;>simp at hN
 | N+1,l,hN,hll,hok,hnn=>by
  have hins : ∀ x∈l,WrX Tryz.prog 138 [.ptr wo 0,encI x] wo (vl je tys) [] (insW tys x):=by
   intro x hx;have hsz:=List.sizeOf_lt_of_mem hx;have h1:=jbu hok x hx;have h2:=al2 hnn x hx;cases x with
   | mk op n m ty body els he ts =>
   simp only [okI] at h1;simp only [nI] at h2;obtain ⟨o1,o2,o3,o4,o5,o6⟩:=h1;obtain ⟨p1,p2,p3,p4⟩:=h2;exact asi wo tys htl hto op n m ty body els he ts p1 p2 o1 o4 (ac3 wo tys htl hto N body (by simp at hsz; omega) o2 o5 p3) (ac3 wo tys htl hto N els (by simp at hsz; omega) o3 o6 p4)
  rw [jff];intro bo bs S E hi he hb;refine jc (c:=jf Tryz.f124) Tryz.func124 rfl rfl (by simp [Tryz.ntmps124]) ?_;rw [Tryz.ntmps124];intro hwf;refine bk ?_;refine bB [0,6,7,8] (fun c σ T => ∃ (k bo':Nat),k<=l.length/\c=l.length-k/\WP wo bo (vl je tys) (bs++(l.take k).flatMap (insW tys)) S bo' T/\σ=[(0, .ptr wo 0),(6,vl encI l),(7,bI l.length),(8,bI k)]) l.length ?_ ?_
  .refine ⟨0,bo,Nat.zero_le _,rfl, ?_,by simp [Fr.oy]⟩;rw [jh hwf];simpa using WP.refl hi
  .rintro c σ T ⟨k,bo',hk,rfl,hp,rfl⟩;refine jD fun hwT => ?_;rw [<-jh hwT];by_cases hkt:k<l.length
   .have hw:=jP hkt (by omega);have hft:=JV (insW tys) l (k+1);rw [List.take_succ_eq_append_getElem hkt,List.flatMap_append,lA] at hft;simp only [List.flatMap_cons,List.flatMap_nil,List.append_nil] at hft;have hix : ∀ S,jz 9 S (vl encI l) (.int .i64 (k:Int))=some (.ref (encI l[k])):=fun S=>jG jbL hkt;have hin:=hins l[k] (ah hkt);cases hx:l[k] with
    | mk op n m ty body els he ts =>
    rw [hx] at hix hin hft;rw [jK] at hix hin;refine bm hkt hix ?_;refine XQ E ?_;refine jb rfl (hin.at hwT hp.wi (EnvW.nil _ _ _) (by simp only [lA]; omega)) ?_;rintro _ U ⟨⟨b3,h3⟩,rfl⟩;refine ja ?_;refine bi hw ?_;show zI _ _ _ _ _ _ _;exact again ⟨al hkt (aN k),k+1,b3,hkt,rfl,(by rw [List.take_succ_eq_append_getElem hkt,List.flatMap_append, <-List.append_assoc,hx]; simpa using hp.trans h3),by simp [Fr.oy,hw]⟩
   .have hke:k=l.length:=by omega
    subst hke;refine bi hkt ?_;rw [jh hwT];rw [List.take_length] at hp;exact jn ⟨⟨bo',hp⟩,rfl⟩
end Go.Vw
namespace Wm
def jec (x y:Func):Bool:=decide (x.type=y.type)&&decide (x.locals=y.locals)&&ZL x.body y.body
def okF (x:Func):Prop:=x.locals.length<1000000/\x.body.length<1000000/\okL x.body
def okD (x:Data):Prop:=x.bytes.length<1000000
def bytes (l:List Nat):Prop := ∀ c∈l,c<256
def imx (a b:Int):Int:=if b > a then b else a
def jdI (s:Sig):Bool:=decide (imx s.inn.length s.out.length > 4096)
def jdJ (x:Import):Bool:=decide (imx x.mod.length x.name.length > 32)
def jdK (x:Export):Bool:=decide ((x.name.length:Int) > 32)
def jdL (x:Data):Bool:=decide ((x.bytes.length:Int) > 4096)
mutual
def jef:Ins->Int->Int->Int
 | .mk _ _ _ ty body els _ ts,n,deep =>
  if n-1<0\/imx (imx ts.length ty.inn.length) ty.out.length > 4096 then -1
  else
   let n1:=if deep+1 > 16/\0<body.length then -1 else Kx body (n-1) (deep+1)
   if n1<0 then -1
   else
    let n2:=if deep+1 > 16/\0<els.length then -1 else Kx els n1 (deep+1)
    if n2<0 then -1 else n2
def Kx:List Ins->Int->Int->Int
 | [],n,_=>n
 | x::xs,n,deep=>if jef x n deep<0 then -1 else Kx xs (jef x n deep) deep
end
def room (l:List Ins) (n deep:Int):Int:=if deep > 16/\0<l.length then -1 else Kx l n deep
def jcf (x:Func):Bool:=decide ((x.locals.length:Int) > 4096)||decide (room x.body 512 0<0)
end Wm
namespace Go.Vw
open Go.Proofs Go.RowKit Wm
attribute [-simp] List.map_set
theorem as5 (x y:Wm.Func) (hx:okF x):bF 26 [encF x,encF y] (.bool (jec x y)):=by
 intro S;obtain ⟨a1,a2,a3⟩:=x;obtain ⟨b1,b2,b3⟩:=y;obtain ⟨o1,o2,o3⟩:=hx;simp only at o1 o2 o3;have k3:=jgk a3 b3 YS 29 rfl (by omega) (fun hl k h1 h2=>aav _ a3[k] b3[k] (aT _) (jbu o3 _ (ah h1)));rw [jfu] at k3;simp only [encF];refine bE Tryz.func26 Tryz.ntmps26 fun hwf=>?_;by_cases h1:a1=b1
 .refine bk ?_;refine QP ?_ (r:=by conv=>lhs;simp[QV,h1]);refine QL (jbS a2 b2 (by omega)) ?_;by_cases h2:a2=b2
  .refine bv h2 ?_;refine jA rfl k3 ?_;refine bz ?_;exact jd hwf (by simp [jec,h1,h2]) rfl
  .refine bv h2 ?_;refine bA ?_;exact jd hwf (by simp [jec,h2]) rfl
 .refine bk ?_;refine QY ?_ (r:=by conv=>lhs;simp[QV,h1]);refine bk ?_;exact jd hwf (by simp [jec,h1]) rfl
theorem atq (x y:Wm.Data) (hx:okD x):bF 31 [jq x,jq y] (.bool (decide (x=y))):=by
 intro S;obtain ⟨a1,a2⟩:=x;obtain ⟨b1,b2⟩:=y;simp only [okD] at hx;simp only [jq];refine bE Tryz.func31 Tryz.ntmps31 fun hwf=>?_;by_cases h1:a1=b1
 .refine bk ?_;refine QP ?_ (r:=by conv=>lhs;simp[QV,h1]);refine QL (api a2 b2 (by omega)) ?_;refine bz ?_;exact jd hwf (by simp [h1]) rfl
 .refine bk ?_;refine QY ?_ (r:=by conv=>lhs;simp[QV,h1]);refine bk ?_;exact jd hwf (by simp [h1]) rfl
theorem ark (x:Wm.Sig):bF 48 [je x] (.bool (jdI x)):=by
 intro S;have h : ∀ a b:Int,Ye (.int .i64 a) [.int .i64 b]=some (.int .i64 (imx a b)):=fun a b=>by simp [Ye,imx]
 simp only [je];refine bE Tryz.func48 Tryz.ntmps48 fun hwf=>?_;refine bi h ?_;exact jd hwf (by simp [jdI]) rfl
theorem aqi (x:Wm.Import):bF 50 [jp x] (.bool (jdJ x)):=by
 intro S;have h : ∀ a b:Int,Ye (.int .i64 a) [.int .i64 b]=some (.int .i64 (imx a b)):=fun a b=>by simp [Ye,imx]
 have h1:=jay x.mod;have h2:=jay x.name;simp only [jp,vstr];refine bE Tryz.func50 Tryz.ntmps50 fun hwf=>?_;refine bj h h1 h2 ?_;exact jd hwf (by simp [jdJ]) rfl
theorem aqa (x:Wm.Export):bF 52 [jr x] (.bool (jdK x)):=by
 intro S;have h2:=jay x.name;simp only [jr,vstr];refine bE Tryz.func52 Tryz.ntmps52 fun hwf=>?_;refine bi h2 ?_;exact jd hwf (by simp [jdK]) rfl
theorem aqc (x:Wm.Data):bF 54 [jq x] (.bool (jdL x)):=by
 intro S;simp only [jq];refine bE Tryz.func54 Tryz.ntmps54 fun hwf=>?_;refine bk ?_;exact jd hwf (by simp [jdL]) rfl
end Go.Vw
namespace Wm
mutual
theorem ama : ∀ (x:Ins) (n deep:Int),0<=n -> -1<=jef x n deep/\jef x n deep<=n
 | .mk _ _ _ ty body els _ ts,n,deep,h=>by
  simp only [jef];split
  .omega
  .rename_i h0;have h1:0<=n-1:=by omega
   generalize hx:(if deep+1 > 16/\0<body.length then -1 else Kx body (n-1) (deep+1))=n1;have r1 : -1<=n1/\n1<=n:=by
    subst hx;split
    .omega
    .have:=YX body (n-1) (deep+1) h1; omega
   split
   .omega
   .rename_i h2;generalize hy:(if deep+1 > 16/\0<els.length then -1 else Kx els n1 (deep+1))=n2;have r2 : -1<=n2/\n2<=n:=by
     subst hy;split
     .omega
     .have:=YX els n1 (deep+1) (by omega); omega
    split<;>omega
theorem YX : ∀ (l:List Ins) (n deep:Int),0<=n -> -1<=Kx l n deep/\Kx l n deep<=n
 | [],n,deep,h=>by simp only [Kx]; omega
 | x::xs,n,deep,h=>by
  have r1:=ama x n deep h;simp only [Kx];split
  .omega
  .have:=YX xs (jef x n deep) deep (by omega); omega
end
end Wm
namespace Go.Vw
open Go.Proofs Go.RowKit Wm
attribute [-simp] List.map_set
theorem adx : ∀ (N:Nat) (l:List Wm.Ins),SizeOf.sizeOf l<=N->okL l->l.length<1000000 -> ∀ (n deep:Int),0<=n->n<=1000000->0<=deep->deep<=17->bF 57 [vl encI l, .int .i64 n, .int .i64 deep] (.int .i64 (room l n deep))
 | 0,l,hN,_,_,_,_,_,_,_,_=>by cases l<;>simp at hN
 | N+1,l,hN,hok,hll,n,deep,n0,n1,d0,d1=>by
  intro S;by_cases hdp:deep > 16/\0<l.length
  .have e1:=hdp.1;have e2:=hdp.2;have e2':(l.length:Int) > 0:=by omega
   have hr:room l n deep = -1:=by simp only [room]; rw [if_pos hdp]
   rw [hr];refine bE Tryz.func57 Tryz.ntmps57 fun hwf=>?_;refine bj e1 e2 e2' ?_;exact bw
  .have hr:room l n deep=Kx l n deep:=by simp only [room]; rw [if_neg hdp]
   rw [hr];refine bE Tryz.func57 Tryz.ntmps57 fun hwf=>?_;have dcase:(deep > 16 /\ ¬ 0<l.length) \/ ¬ deep > 16:=by omega
   rcases dcase with ⟨e1,e2⟩ | e1
   case' inl =>
    have e2' : ¬ (l.length:Int) > 0:=by omega
    refine bj e1 e2 e2' ?_
   case' inr =>
    refine bi e1 ?_
   all_goals
    refine bB [1,2,18,19,20] (fun c σ T => ∃ (k:Nat) (cur:Int),k<=l.length/\c=l.length-k/\0<=cur/\cur<=n/\Kx (l.drop k) cur deep=Kx l n deep/\σ=[(1, .int .i64 cur),(2, .int .i64 deep),(18,vl encI l),(19,bI l.length),(20,bI k)]/\T=St S [] []) l.length ?_ ?_
    .exact ⟨0,n,Nat.zero_le _,rfl,n0,Int.le_refl _,rfl,by simp [Fr.oy],rfl⟩
    .rintro c σ T ⟨k,cur,hk,rfl,c0,cn,hd,rfl,rfl⟩;by_cases hkt:k<l.length
     .have hw:=jP hkt (by omega);have hd16:deep<=16:=by omega
      have hix : ∀ S,jz 9 S (vl encI l) (.int .i64 (k:Int))=some (.ref (encI l[k])):=fun S=>jG jbL hkt;have hokx:=jbu hok l[k] (ah hkt);have hsz0:=List.sizeOf_lt_of_mem (ah hkt);rw [aj hkt] at hd;cases hx:l[k] with
      | mk op nn mm ty body els he ts =>
      rw [hx] at hix hokx hsz0 hd;rw [jK] at hix;simp only [okI] at hokx;obtain ⟨o1,o2,o3,o4,o5,o6⟩:=hokx;have hsz:SizeOf.sizeOf (Ins.mk op nn mm ty body els he ts)<=N:=by omega
      obtain ⟨n1,hn1⟩ : ∃ n1,(if deep+1 > 16/\0<body.length then -1 else Kx body (cur-1) (deep+1))=n1:=⟨_,rfl⟩
      obtain ⟨n2,hn2⟩ : ∃ n2,(if deep+1 > 16/\0<els.length then -1 else Kx els n1 (deep+1))=n2:=⟨_,rfl⟩
      obtain ⟨w,hwv⟩ : ∃ w,jef (Ins.mk op nn mm ty body els he ts) cur deep=w:=⟨_,rfl⟩
      have hst:Kx (Ins.mk op nn mm ty body els he ts::l.drop (k+1)) cur deep=if w<0 then -1 else Kx (l.drop (k+1)) w deep:=by rw [Kx,hwv]
      have w1:IntKind.i64.wrap (cur-1)=cur-1:=wrap_i64 (by omega) (by omega);have wd:IntKind.i64.wrap (deep+1)=deep+1:=wrap_i64 (by omega) (by omega);have hmx : ∀ a b c:Int,Ye (.int .i64 a) [.int .i64 b, .int .i64 c]=some (.int .i64 (imx (imx a b) c)):=fun a b c=>by simp [Ye,imx]
      have hI:w=if cur-1<0\/imx (imx ts.length ty.inn.length) ty.out.length > 4096 then -1 else if n1<0 then -1 else if n2<0 then -1 else n2:=by
       rw [<-hwv,jef];simp only [hn1,hn2]
      rw [hst] at hd;by_cases c1:cur-1<0
      .rw [if_pos (.inl c1)] at hI;rw [hI] at hd;refine bq hkt hix w1 c1 ?_;exact jd hwf (by rw [<-hd]; rfl) rfl
      .by_cases c2:imx (imx ts.length ty.inn.length) ty.out.length > 4096
       .rw [if_pos (.inr c2)] at hI;rw [hI] at hd;refine bu hkt hix w1 c1 hmx c2 ?_;exact jd hwf (by rw [<-hd]; rfl) rfl
       .rw [if_neg (fun h=>h.elim c1 c2)] at hI;refine bu hkt hix w1 c1 hmx c2 ?_;have r1 : ¬ n1<0->n1<=cur:=fun h=>by
         rw [<-hn1] at h ⊢;split at h
         .omega
         .rename_i hh; rw [if_neg hh]; have:=YX body (cur-1) (deep+1) (by omega); omega
        have r2 : ¬ n2<0->n2<=n1\/n1<0:=fun h=>by
         by_cases hz:n1<0
         .exact .inr hz
         .rw [<-hn2] at h ⊢;split at h
          .omega
          .rename_i hh; rw [if_neg hh]; have:=YX els n1 (deep+1) (by omega); omega
        refine bB [1,2,18,19,20,47,48,49] (fun c' σ' T' => ∃ (j:Nat) (v:Int),j<=2/\c'=2-j/\0<=v/\v<=cur/\((j=0/\v=cur-1)\/(j=1/\n1=v /\ ¬ n1<0)\/(j=2 /\ ¬ n1<0/\n2=v))/\σ'=[(1, .int .i64 v),(2, .int .i64 deep),(18,vl encI l),(19,bI l.length),(20,bI k),(47, .slice (lid S.nx 1) 0 2),(48,bI 2),(49,bI j)]/\T'=St S [] [some (9,[V.int .i64 op,V.int .u64 nn,V.int .u64 mm,vl bH ty.inn,vl bH ty.out,vl encI body,vl encI els,V.bool he,vl bH ts]),some (1,[vl encI body,vl encI els])]) 2 ?_ ?_
        .exact ⟨0,cur-1,by omega,rfl,by omega,by omega, .inl ⟨rfl,rfl⟩,by simp [Fr.oy],rfl⟩
        .rintro c' σ' T' ⟨j,v,hj,rfl,v0,v1,hcase,rfl,rfl⟩;rcases hcase with ⟨rfl,rfl⟩ | ⟨rfl,rfl,q1⟩ | ⟨rfl,q1,rfl⟩
         .have hrm:=adx N body (by simp at hsz; omega) o5 o2 (cur-1) (deep+1) (by omega) (by omega) (by omega) (by omega);rw [show room body (cur-1) (deep+1)=n1 by simp only [room]; exact hn1] at hrm;refine bi wd ?_;refine QP ?_ (r:=by conv=>lhs;simp[QV,wd]);refine jA rfl hrm ?_;by_cases c3:n1<0
          .rw [if_pos c3] at hI;rw [hI] at hd;refine bv c3 ?_;refine QN ?_;refine bi c3 ?_;exact jd hwf (by rw [<-hd]; rfl) rfl
          .have r9:=r1 c3;refine bv c3 ?_;refine QN ?_;refine bi c3 ?_;show zI _ _ _ _ _ _ _;exact again ⟨(by omega:2-1<2-0),1,n1,by omega,rfl,by omega,by omega, .inr (.inl ⟨rfl,rfl,c3⟩),by simp [Fr.oy]; rfl,rfl⟩
         .have hrm:=adx N els (by simp at hsz; omega) o6 o3 n1 (deep+1) (by omega) (by omega) (by omega) (by omega);rw [show room els n1 (deep+1)=n2 by simp only [room]; exact hn2] at hrm;refine bi wd ?_;refine QP ?_ (r:=by conv=>lhs;simp[QV,wd]);refine jA rfl hrm ?_;by_cases c3:n2<0
          .rw [if_neg q1,if_pos c3] at hI;rw [hI] at hd;refine bv c3 ?_;refine QN ?_;refine bi c3 ?_;exact jd hwf (by rw [<-hd]; rfl) rfl
          .have r9:=r2 c3;refine bv c3 ?_;refine QN ?_;refine bi c3 ?_;show zI _ _ _ _ _ _ _;exact again ⟨(by omega:2-2<2-1),2,n2,by omega,rfl,by omega,by omega, .inr (.inr ⟨rfl,q1,rfl⟩),by simp [Fr.oy]; rfl,rfl⟩
         .refine bk ?_;rw [if_neg q1,if_neg (by omega)] at hI;rw [hI,if_neg (by omega)] at hd;refine bi hw ?_;refine QA [] (h:=⟨?_,k+1,n2,hkt,rfl,by omega,by omega,hd,by simp [hw],rfl⟩);omega
     .have e:l.drop k=[]:=by rw [aA]; omega
      rw [e,Kx] at hd;refine bi hkt ?_;exact jd hwf (by rw [<-hd]; rfl) rfl
end Go.Vw
namespace Wm
def qX:Mod:=⟨[],[],[],0,0,[],[],0,[]⟩
def MS.mod (m:MS):Mod:=⟨m.ty,m.im,m.fs.getD [],m.pg,m.mo,m.gl,m.ex,m.st,m.da⟩
def qo (b:List Nat):Mod × Flt:=if 16384<b.length then (qX,(7,0,0)) else match Kd b with
 | .error e=>(qX,e)
 | .ok m=>(m.mod,(0,0,0))
end Wm
namespace Go.Vw
open Wm
def jR (m:Mod):V := .agg [vl je m.types,vl jp m.imports,vl encF m.funcs,bH m.pages,bH m.most,vl jv m.globals,vl jr m.exports,bH m.start,vl jq m.datas]
theorem avs (fo:Nat) (fs:Option (List Wm.Func)):(fuV fo fs).nj1=true:=by cases fs<;>rfl
theorem aue (fo:Nat) (fs:Option (List Wm.Func)):(fuV fo fs).one=true:=by
 cases fs with
 | none=>exact Zx
 | some l=>exact Kr _ _ _
theorem art (S:Store) (o:Nat) (c c':Nat × List V):(S.upd o c).upd o c'=S.upd o c':=by
 refine Store.eq_of (fun k => ?_) rfl;rw [jQ,jQ,jQ];split<;>rfl
theorem adw {S:Store} {o:Nat} {c:Nat × List V} (h:S.get o=some c):S.upd o c=S:=by
 refine Store.eq_of (fun k => ?_) rfl;rw [jQ];split
 .rename_i e; rw [e,h]
 .rfl
theorem Seen.like {S:Store} {o s:Nat} {cs cs':List V} (hc:S.get o=some (s,cs)) (hl:cs'.length=cs.length) (h : ∀ (i:Nat) x y,cs[i]? = some x->cs'[i]? = some y->y=x\/(x = .nils/\y = .list [])):Seen S (S.upd o (s,cs')):=by
 have key : ∀ k,k<=cs.length->Seen S (S.upd o (s,cs'.take k++cs.drop k)):=by
  intro k
  induction k with
  | zero=>intro _; rw [List.take_zero,List.drop_zero,aZ,adw hc]; exact Seen.refl S
  | succ k ih =>
   intro hk;have h0:=ih (by omega);have hx:cs[k]? = some cs[k]:=aa (by omega);have hy:cs'[k]? = some cs'[k]:=aa (by omega);have e1:cs.drop k=cs[k]::cs.drop (k+1):=aj (by omega);have e2:cs'.take (k+1)=cs'.take k++[cs'[k]]:=List.take_succ_eq_append_getElem (by omega);have hlen:(cs'.take k).length=k:=by rw [List.length_take]; omega
   rcases h k _ _ hx hy with e | ⟨e,e'⟩
   .rw [e2,e,List.append_assoc,List.singleton_append, <-e1]; exact h0
   .refine h0.trans ?_;rw [e1,e];have hg:(S.upd o (s,cs'.take k ++ .nils::cs.drop (k+1))).get o=some (s,cs'.take k ++ .nils::cs.drop (k+1)):=by rw [jQ,if_pos rfl]
    have hi:(cs'.take k++V.nils::cs.drop (k+1))[k]? = some .nils:=by rw [aV (by omega),hlen,Nat.sub_self]; rfl
    have:=Seen.cell (Ghost.nl _) Zx hg hi hg;rw [art] at this;rw [e2,e',List.append_assoc,List.singleton_append];have e3:(cs'.take k++V.nils::cs.drop (k+1)).set k (.list [])=cs'.take k ++ .list []::cs.drop (k+1):=by
     rw [List.set_append_right _ _ (by omega),hlen,Nat.sub_self]; rfl
    rw [e3] at this;exact this
 have:=key cs.length (aT _)
 rwa [List.drop_length,List.append_nil,List.take_of_length_le (by omega)] at this
theorem YJ {B:Store} {u:Upds} {l:OL} {o:Nat} (h:(St B u l).nx<=o):(St B u l).get o=none:=by
 rw [jH] at h;simp only [lid] at h;rw [zj,if_neg (by omega),aC (by omega)]
 rfl
theorem aat {S T:Store} (hk:Kept S [] T) (hg : ∀ o,T.nx<=o->T.get o=none) : ∃ l,T=St S [] l:=by
 refine ⟨(List.range (T.nx-S.nx)).map fun k=>T.get (S.nx+k),Store.eq_of (fun o => ?_) ?_⟩
 .rw [zj];split
  .rename_i h;rw [hk.2 o h (by simp)]; rfl
  .rename_i h;by_cases h2:o<T.nx
   .rw [aQ,List.getElem?_range (by omega)];simp only [aW,Option.join_some]
    congr 1
    omega
   .rw [hg o (by omega),aC (by simp; omega)]
    rfl
 .rw [jH];simp only [lid,aB,List.length_range];have:=hk.1;omega
theorem axb (x:V):nl x=x\/(x = .nils/\nl x = .list []):=by
 cases x<;>first | exact .inr ⟨rfl,rfl⟩ | exact .inl rfl
def likeL:List V->List V->Prop
 | [],[]=>True
 | x::xs,y::ys=>(y=x\/(x = .nils/\y = .list []))/\likeL xs ys
 | _,_=>False
theorem jbE : ∀ {xs ys:List V},likeL xs ys->ys.length=xs.length /\ ∀ (i:Nat) x y,xs[i]? = some x->ys[i]? = some y->y=x\/(x = .nils/\y = .list [])
 | [],[],_=>⟨rfl,fun i x y h=>by simp at h⟩
 | x::xs,y::ys,⟨h1,h2⟩=>by
  obtain ⟨k1,k2⟩:=jbE h2;refine ⟨by simp [k1],fun i a b ha hb => ?_⟩;cases i with
  | zero=>simp at ha hb; subst ha; subst hb; exact h1
  | succ i=>exact k2 i a b (by simpa using ha) (by simpa using hb)
 | [],_::_,h=>h.elim
 | _::_,[],h=>h.elim
theorem Seen.likeL {S:Store} {o s:Nat} {cs cs':List V} (hc:S.get o=some (s,cs)) (h:likeL cs cs'):Seen S (S.upd o (s,cs')):=Seen.like hc (jbE h).1 (jbE h).2
theorem jfN : ∀ xs:List V,likeL xs (xs.map nl)
 | []=>trivial
 | x::xs=>⟨axb x,jfN xs⟩
theorem aul {S T:Store} {σ:Fr} {o2 o3:Nat} {m:Mod} {e:Flt} (hwS:S.Wf) (h2:σ.lk 2 = .ptr o2 0) (h3:σ.lk 3 = .ptr o3 0) (g2:T.get o2=some (9,(jR m).cells)) (g3:T.get o3=some (3,(qh e).cells)) (hk:Kept S [] T) (hg : ∀ o,T.nx<=o->T.get o=none) :
  ∃ xs,resL T σ [(2,some (some 9)),(3,some (some 3))]=some xs/\zq S.nx (fun r T=>r = .tuple [jR m,qh e]/\T=S) (tupV xs) T:=by
 obtain ⟨l,rfl⟩:=aat hk hg;refine ⟨[jR m,qh e], ?_,jd hwS rfl ?_⟩
 .simp [resL,qC,h2,h3,Jk,g2,g3,jR,qh]
 .simp [tupV,jR,qh]
theorem jaZ {S T:Store} {σ:Fr} {o2 o3:Nat} {m:Mod} {e:Flt} {cs:List V} (hwS:S.Wf) (h2:σ.lk 2 = .ptr o2 0) (h3:σ.lk 3 = .ptr o3 0) (g2:T.get o2=some (9,cs)) (hl:likeL cs (jR m).cells) (g3:T.get o3=some (3,(qh e).cells)) (hne:o3≠o2) (hlt:S.nx<=o2) (hk:Kept S [] T) (hg : ∀ o,T.nx<=o->T.get o=none) :
  ∃ S2 xs,Seen T S2/\resL S2 σ [(2,some (some 9)),(3,some (some 3))]=some xs/\zq S.nx (fun r T=>r = .tuple [jR m,qh e]/\T=S) (tupV xs) S2:=by
 obtain ⟨xs,hx,hq⟩:=aul (T:=T.upd o2 (9,(jR m).cells)) (σ:=σ) (m:=m) (e:=e) hwS h2 h3 (by rw [jQ,if_pos rfl]) (by rw [jQ,if_neg hne]; exact g3) ⟨hk.1,fun o ho hn=>by rw [jQ,if_neg (by omega)]; exact hk.2 o ho hn⟩ (fun o ho=>by
  rw [jQ];have h1:o≠o2:=fun e=>by
   have:T.nx<=o:=ho;rw [e, ] at this;rw [hg o2 this] at g2;cases g2
  rw [if_neg h1];exact hg o ho)
 exact ⟨_,xs,Seen.likeL g2 hl,hx,hq⟩
theorem ahm {S T:Store} {σ:Fr} {o2 o3 fo:Nat} {m:Mod} {e:Flt} {c0 c1 c3 c4 c5 c6 c7 c8:V} {cs:List V} (hwS:S.Wf) (h2:σ.lk 2 = .ptr o2 0) (h3:σ.lk 3 = .ptr o3 0) (g2:T.get o2=some (9,[c0,c1, .slice fo 0 m.funcs.length,c3,c4,c5,c6,c7,c8])) (hl:likeL [c0,c1,vl encF m.funcs,c3,c4,c5,c6,c7,c8] (jR m).cells) (g3:T.get o3=some (3,(qh e).cells)) (hne:o3≠o2) (hlt:S.nx<=o2) (hk:Kept S [] T) (hg : ∀ o,T.nx<=o->T.get o=none)
  (gf:T.get fo=some (3,cs)) (hcs:cs.map nl=jF encF m.funcs) (hfl:S.nx<=fo) (hf2:fo≠o2) (hf3:fo≠o3) :
  ∃ S2 xs,Seen T S2/\resL S2 σ [(2,some (some 9)),(3,some (some 3))]=some xs/\zq S.nx (fun r T=>r = .tuple [jR m,qh e]/\T=S) (tupV xs) S2:=by
 have s1:Seen T (T.upd fo (3,jF encF m.funcs)):=by
  rw [<-hcs];exact Seen.likeL gf (jfN cs)
 have hfz:=frzS (enc:=encF) (s:=3) jga jdO (S:=T.upd fo (3,jF encF m.funcs)) (o:=fo) m.funcs (by rw [jQ,if_pos rfl]);have gu : ∀ o,o≠fo->(T.upd fo (3,jF encF m.funcs)).get o=T.get o:=fun o ho=>by rw [jQ,if_neg ho]
 have gd : ∀ o,o≠fo->((T.upd fo (3,jF encF m.funcs)).del fo).get o=T.get o:=fun o ho=>by rw [ZU,if_neg ho]; exact gu o ho
 have s2:=Seen.cell (i:=2) hfz (Kr _ _ _) ((gu o2 (Ne.symm hf2)).trans g2) rfl ((gd o2 (Ne.symm hf2)).trans g2);obtain ⟨S2,xs,s3,hx,hq⟩:=jaZ (S:=S) (T:=((T.upd fo (3,jF encF m.funcs)).del fo).upd o2 (9,[c0,c1, .slice fo 0 m.funcs.length,c3,c4,c5,c6,c7,c8].set 2 (vl encF m.funcs))) (σ:=σ) (m:=m) (e:=e) hwS h2 h3 (by rw [jQ,if_pos rfl]; rfl) hl (by rw [jQ,if_neg hne]; exact (gd o3 (Ne.symm hf3)).trans g3) hne hlt ⟨hk.1,fun o ho hn=>by rw [jQ,if_neg (by omega),gd o (by omega)]; exact hk.2 o ho hn⟩ (fun o ho=>by
  have ho':T.nx<=o:=ho;have h1:o≠o2:=fun e=>by rw [e] at ho'; rw [hg o2 ho'] at g2; cases g2
  rw [jQ,if_neg h1,ZU];split
  .rfl
  .rename_i h2; rw [gu o h2]; exact hg o ho')
 exact ⟨S2,xs,(s1.trans s2).trans s3,hx,hq⟩
end Go.Vw
