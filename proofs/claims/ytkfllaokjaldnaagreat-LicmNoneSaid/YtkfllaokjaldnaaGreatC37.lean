import Derived.Test.YtkfllaokjaldnaaGreatC17
import Derived.Test.YtkfllaokjaldnaaGreatC16
import Derived.Test.YtkfllaokjaldnaaGreatC35
import Derived.Test.YtkfllaokjaldnaaGreatC20
import Derived.Test.YtkfllaokjaldnaaGreatC36
import Derived.Test.YtkfllaokjaldnaaGreatC21
/-
  Part of the proof (texts CKinds, CAsk, CMem, CForm).
-/
set_option linter.unusedVariables false
set_option linter.unusedSimpArgs false
namespace Go.Vw
open Go.Proofs Go.RowKit
set_option maxRecDepth 10000
set_option maxHeartbeats 2000000
theorem rkind_v (t:Int):VPure Tryz.prog 85 [vint t] (.bool (Ss.isKind t)):=by
 intro S
 refine jb (c:=jf Tryz.f85) Tryz.func85 rfl rfl (by simp [Tryz.ntmps85]) ?_
 rw [Tryz.ntmps85]
 intro hwf
 by_cases h:t=127
 ·repeat (first|refine QG ?_|refine QY ?_ (r:=by conv=>lhs;simp[-List.map_set,QV,h]))
  exact ja hwf (by simp [Ss.isKind,h]) rfl
 ·repeat (first|refine QG ?_|refine QY ?_ (r:=by conv=>lhs;simp[-List.map_set,QV,h]))
  exact ja hwf (by simp [Ss.isKind,h]) rfl
theorem YU (most:Nat) (l:List Int) (hl:l.length<2^63):VPure Tryz.prog 42 [vl vint l,vnat most] (.bool (Ss.kinds most l)):=by
 intro S
 by_cases h:l.length≤most
 case neg =>
  have h':(most:Int)<(l.length:Int):=by omega
  have hX:Ss.kinds most l=false:=by simp [Ss.kinds,h]
  rw [hX]
  refine jb (c:=jf Tryz.f42) Tryz.func42 rfl rfl (by simp [Tryz.ntmps42]) ?_
  rw [Tryz.ntmps42]
  intro hwf
  repeat (first|refine QG ?_|refine QY ?_ (r:=by conv=>lhs;simp[-List.map_set,QV,h,h']))
  exact ja hwf rfl rfl
 have h' : ¬ (most:Int)<(l.length:Int):=by omega
 have hX:Ss.kinds most l=l.all Ss.isKind:=by simp [Ss.kinds,h]
 rw [hX]
 refine jb (c:=jf Tryz.f42) Tryz.func42 rfl rfl (by simp [Tryz.ntmps42]) ?_
 rw [Tryz.ntmps42]
 intro hwf
 repeat (first|refine QG ?_|refine QY ?_ (r:=by conv=>lhs;simp[-List.map_set,QV,h,h']))
 repeat refine QS ?_
 refine jd [0,5] rfl (fun c σ S' => ∃ (k:Nat),k≤l.length∧c=l.length-k∧(l.drop k).all Ss.isKind=l.all Ss.isKind∧σ=[(0,vl vint l),(5,vnat k)]∧S'=St S [] []) l.length ?_ ?_
 ·exact ⟨0,by omega,rfl,rfl,by simp [Fr.only],rfl⟩
 ·rintro c σ T ⟨k,hk,rfl,hd,rfl,rfl⟩
  by_cases hkt:k<l.length
  ·have hst:=Ss.drop_all Ss.isKind hkt
   have hw:=jn hkt hl
   repeat (first|refine QG ?_|refine QY ?_ (r:=by conv=>lhs;simp[-List.map_set,QV,hkt]))
   repeat refine QS ?_
   refine QP ?_ (r:=by conv=>lhs;simp[-List.map_set,QV,hkt])
   refine jc (rkind_v l[k]) (by rfl) ?_
   generalize Ss.isKind l[k]=z at *
   by_cases hz:z=true
   ·refine QM (by conv=>lhs;simp[-List.map_set,QV,hz]) ?_
    refine QN ?_
    repeat (first|refine QG ?_|refine QY ?_ (r:=by conv=>lhs;simp[-List.map_set,QV,hw,hkt]))
    show jv _ _ _ _ _ _ _
    exact again ⟨by omega,k+1,by omega,rfl,by rw [←hd,hst,hz,Bool.true_and],by simp [Fr.only],rfl⟩
   ·have hz':z=false:=by simpa using hz
    refine QM (by conv=>lhs;simp[-List.map_set,QV,hz']) ?_
    refine QN ?_
    repeat (first|refine QG ?_|refine QY ?_)
    rw [←hd,hst,hz',Bool.false_and]
    exact ja hwf rfl rfl
  ·repeat (first|refine QG ?_|refine QY ?_ (r:=by conv=>lhs;simp[-List.map_set,QV,hkt]))
   rw [←hd,Ss.drop_all_end _ hkt]
   exact ja hwf rfl rfl
theorem rsig_v (s:Ss.Sig) (hs:s.Fits):VPure Tryz.prog 43 [jO s] (.bool s.right):=by
 intro S
 obtain ⟨⟨h1,_⟩,⟨h2,_⟩⟩:=hs
 obtain ⟨a,b⟩:=s
 simp only at h1 h2
 have hX:Ss.Sig.right ⟨a,b⟩=(Ss.kinds 8 a&&Ss.kinds 8 b):=rfl
 rw [hX]
 have c1:VPure Tryz.prog 42 [vl vint a, .int .i64 8] (.bool (Ss.kinds 8 a)):=YU 8 a (by omega)
 have c2:VPure Tryz.prog 42 [vl vint b, .int .i64 8] (.bool (Ss.kinds 8 b)):=YU 8 b (by omega)
 generalize Ss.kinds 8 a=x at *
 generalize Ss.kinds 8 b=y at *
 refine jb (c:=jf Tryz.f43) Tryz.func43 rfl rfl (by simp [Tryz.ntmps43]) ?_
 rw [Tryz.ntmps43]
 intro hwf
 repeat (first|refine QG ?_|refine QY ?_)
 repeat refine QS ?_
 refine QP ?_
 refine jc (c1) (by rfl) ?_
 by_cases hx:x=true
 ·refine QM (by conv=>lhs;simp[-List.map_set,QV,hx]) ?_
  refine jc (c2) (by rfl) ?_
  refine QM (by conv=>lhs;simp[-List.map_set,QV]) ?_
  refine QN ?_
  repeat (first|refine QG ?_|refine QY ?_)
  exact ja hwf (by simp [hx]) rfl
 ·have hx':x=false:=by simpa using hx
  refine QM (by conv=>lhs;simp[-List.map_set,QV,hx']) ?_
  refine QN ?_
  repeat (first|refine QG ?_|refine QY ?_)
  exact ja hwf (by simp [hx']) rfl
theorem REnvRight_v (e:Ss.Env) (he:e.Fits):VPure Tryz.prog 41 [zm e] (.bool e.right):=by
 intro S
 obtain ⟨⟨h1,h2⟩,_,⟨h4,_⟩,h5⟩:=he
 obtain ⟨sg,im,gl,mu,me⟩:=e
 simp only at h1 h2 h4 h5
 have hX:Ss.Env.right ⟨sg,im,gl,mu,me⟩=(decide (0≤im)&&decide (im≤sg.length)&&decide (sg.length≤64)&&decide (mu.length=gl.length)&&Ss.kinds 32 gl&&sg.all Ss.Sig.right):=rfl
 rw [hX]
 have c1:VPure Tryz.prog 42 [vl vint gl, .int .i64 32] (.bool (Ss.kinds 32 gl)):=YU 32 gl (by omega)
 generalize Ss.kinds 32 gl=x at *
 refine jb (c:=jf Tryz.f41) Tryz.func41 rfl rfl (by simp [Tryz.ntmps41]) ?_
 rw [Tryz.ntmps41]
 intro hwf
 by_cases k3:(64:Int)<(sg.length:Int)
 ·repeat (first|refine QG ?_|refine QY ?_ (r:=by conv=>lhs;simp[-List.map_set,QV,k3]))
  exact ja hwf (by simp; omega) rfl
 by_cases k1:im<0
 ·repeat (first|refine QG ?_|refine QY ?_ (r:=by conv=>lhs;simp[-List.map_set,QV,k1,k3]))
  exact ja hwf (by simp; omega) rfl
 by_cases k2:(sg.length:Int)<im
 ·repeat (first|refine QG ?_|refine QY ?_ (r:=by conv=>lhs;simp[-List.map_set,QV,k1,k2,k3]))
  exact ja hwf (by simp; omega) rfl
 repeat (first|refine QG ?_|refine QY ?_ (r:=by conv=>lhs;simp[-List.map_set,QV,k1,k2,k3]))
 repeat refine QS ?_
 refine QP ?_ (r:=by conv=>lhs;simp[-List.map_set,QV,k1,k2,k3])
 refine jc (c1) (by rfl) ?_
 by_cases hx:x=true
 case neg =>
  have hx':x=false:=by simpa using hx
  refine QM (by conv=>lhs;simp[-List.map_set,QV,hx']) ?_
  refine QN ?_
  repeat (first|refine QG ?_|refine QY ?_)
  exact ja hwf (by simp [hx']) rfl
 by_cases k4:mu.length=gl.length
 case neg =>
  have k4' : ¬ (mu.length:Int)=(gl.length:Int):=by omega
  refine QM (by conv=>lhs;simp[-List.map_set,QV,hx,k4,k4']) ?_
  refine QN ?_
  repeat (first|refine QG ?_|refine QY ?_)
  exact ja hwf (by simp [k4]) rfl
 have k4':(mu.length:Int)=(gl.length:Int):=by omega
 have hp:(decide (0≤im)&&decide (im≤sg.length)&&decide (sg.length≤64)&&decide (mu.length=gl.length))=true:=by simp [k4]; omega
 rw [hp,hx]
 refine QM (by conv=>lhs;simp[-List.map_set,QV,hx,k4,k4']) ?_
 refine QN ?_
 repeat (first|refine QG ?_|refine QY ?_)
 have hl:sg.length<2^63:=by omega
 rw [Bool.true_and,Bool.true_and]
 repeat refine QS ?_
 refine jd [1,3] rfl (fun c σ S' => ∃ (k:Nat),k≤sg.length∧c=sg.length-k∧(sg.drop k).all Ss.Sig.right=sg.all Ss.Sig.right∧σ=[(1, .ptr (lid S.nx 0) 0),(3,vnat k)]∧S'=St S [] [some (5,[vl jO sg,vint im,vl vint gl,vl V.bool mu, .bool me])]) sg.length ?_ ?_
 ·exact ⟨0,by omega,rfl,rfl,by simp [Fr.only],rfl⟩
 ·rintro c σ T ⟨k,hk,rfl,hd,rfl,rfl⟩
  by_cases hkt:k<sg.length
  ·have hst:=Ss.drop_all Ss.Sig.right hkt
   have hw:=jn hkt hl
   have c2:=rsig_v sg[k] (h2 _ (List.getElem_mem hkt))
   generalize hz0:Ss.Sig.right sg[k]=z at *
   obtain ⟨⟨a,b⟩,hb⟩ : ∃ s,sg[k]=s:=⟨_,rfl⟩
   rw [hb] at c2
   have c2':VPure Tryz.prog 43 [.agg [vl vint a,vl vint b]] (.bool z):=c2
   repeat (first|refine QG ?_|refine QY ?_ (r:=by conv=>lhs;simp[-List.map_set,QV,hkt]))
   repeat refine QS ?_
   refine QP ?_ (r:=by conv=>lhs;simp[-List.map_set,QV,hkt,hb])
   refine jc (c2') (by rfl) ?_
   by_cases hz:z=true
   ·refine QM (by conv=>lhs;simp[-List.map_set,QV,hz]) ?_
    refine QN ?_
    repeat (first|refine QG ?_|refine QY ?_ (r:=by conv=>lhs;simp[-List.map_set,QV,hw,hkt]))
    show jv _ _ _ _ _ _ _
    exact again ⟨by omega,k+1,by omega,rfl,by rw [←hd,hst,hz,Bool.true_and],by simp [Fr.only],rfl⟩
   ·have hz':z=false:=by simpa using hz
    refine QM (by conv=>lhs;simp[-List.map_set,QV,hz']) ?_
    refine QN ?_
    repeat (first|refine QG ?_|refine QY ?_)
    rw [←hd,hst,hz',Bool.false_and]
    exact ja hwf rfl rfl
  ·repeat (first|refine QG ?_|refine QY ?_ (r:=by conv=>lhs;simp[-List.map_set,QV,hkt]))
   rw [←hd,Ss.drop_all_end _ hkt]
   exact ja hwf rfl rfl
end Go.Vw

namespace Go.Vw
open Go.Proofs Go.RowKit
set_option maxRecDepth 10000
set_option maxHeartbeats 4000000
attribute [local simp] encRDef_eq
abbrev ckR (e:Ss.Env) (f:Ss.Fn) (ds:List Ss.Def) (near:List Int):V := .ref (.agg (ckC e f (vl jR ds) (vl vint near)))
theorem reqF_step {α:Type} {p:α→α→Bool} {l m:List α} {k:Nat} (h1:k<l.length) (h2:k<m.length):eqF p (l.drop k) (m.drop k)=(p l[k] m[k]&&eqF p (l.drop (k+1)) (m.drop (k+1))):=by
 rw [List.drop_eq_getElem_cons h1,List.drop_eq_getElem_cons h2,eqF]
theorem reqF_end {α:Type} {p:α→α→Bool} {l m:List α} {k:Nat} (h1 : ¬ k<l.length) (h2 : ¬ k<m.length):eqF p (l.drop k) (m.drop k)=true:=by
 have e1:l.drop k=[]:=by rw [List.drop_eq_nil_iff]; omega
 have e2:m.drop k=[]:=by rw [List.drop_eq_nil_iff]; omega
 rw [e1,e2,eqF]
theorem jbu (e:Ss.Env) (f:Ss.Fn) (ds:List Ss.Def) (near:List Int) (l:List Int) (hl:l.length≤1048576) (hv:Ss.InTs f.types.length l):VPure Tryz.prog 48 [ckR e f ds near,vl vint l] (vl vint (Ss.typesOf f.types l)):=by
 intro S
 obtain ⟨⟨fi,fo⟩,ts,bs⟩:=f
 simp only at hv
 generalize hg:(fun v:Int=>ts.getD v.toNat 0)=g
 have hX:Ss.typesOf ts l=l.map g:=by rw [Ss.typesOf,hg]
 simp only
 rw [hX]
 refine jb (c:=jf Tryz.f48) Tryz.func48 rfl rfl (by simp [Tryz.ntmps48]) ?_
 rw [Tryz.ntmps48]
 intro hwf
 repeat refine QS ?_
 refine QP ?_
 refine QN ?_
 repeat refine QS ?_
 refine QP ?_
 refine QN ?_
 refine qP 5 1 rfl (by conv=>lhs; simp [Fr.set]) ?_
 repeat (first|refine QG ?_|refine QY ?_)
 repeat refine QS ?_
 refine jd [0,1,5,6] rfl (fun c σ S' => ∃ (k:Nat) (out:List Int),k≤l.length∧c=l.length-k∧out=(l.take k).map g∧out.length=k∧σ=[(0,ckR e ⟨⟨fi,fo⟩,ts,bs⟩ ds near),(1,vl vint l),(5, .slice (lid S.nx 0) 0 k),(6,vnat k)]∧S'=St S [] [some (1,out.map vint)]) l.length ?_ ?_
 ·exact ⟨0,[],by omega,rfl,by simp,rfl,by simp [Fr.only],by simp⟩
 ·rintro c σ T ⟨k,out,hk,rfl,ho,hlen,rfl,rfl⟩
  by_cases hkt:k<l.length
  ·have hw:=jn hkt (by omega)
   obtain ⟨h0,h1⟩:=hv _ (List.getElem_mem hkt)
   obtain ⟨v,hx⟩ : ∃ v,l[k]=v:=⟨_,rfl⟩
   rw [hx] at h0 h1
   obtain ⟨n,rfl⟩ : ∃ n:Nat,v=n:=⟨v.toNat,by omega⟩
   have hn:n<ts.length:=by omega
   have hgn:g (n:Int)=ts[n]:=by rw [←hg]; simp [hn]
   have htk:l.take (k+1)=l.take k++[(n:Int)]:=by rw [List.take_add_one,List.getElem?_eq_getElem hkt,hx]; rfl
   have hb:(k+1)*8≤140737488355328:=by omega
   have hb':k+1≤140737488355328:=by omega
   repeat (first|refine QG ?_|refine QY ?_ (r:=by conv=>lhs;simp[-List.map_set,QV,hkt,hx,hn,hlen,hb,hb']))
   repeat refine QS ?_
   refine jQ (St S [] [none]) (St S [] [none]) [] rfl (by kernel_rfl) (by conv=>lhs; reduce) (by conv=>lhs; reduce) (by kernel_rfl) (by kernel_rfl) (jG (by simp [subU,shpU,subL,shpL])) (by conv=>lhs; simp [-List.map_set,QV,hkt,hx,hn,hlen,hb,hb']) ?_
   refine jg rfl (by conv=>lhs;simp[-List.map_set,QV,hkt,hx,hn,hlen,hb,hb']) (jG (by simp [subU,shpU,subL,shpL])) ?_
   refine jg rfl (by conv=>lhs;simp[-List.map_set,QV,hkt,hx,hn,hlen,hb,hb']) (jG (by simp [subU,shpU,subL,shpL])) ?_
   refine QM (by conv=>lhs;simp[-List.map_set,QV]) ?_
   refine QN ?_
   repeat (first|refine QG ?_|refine QY ?_ (r:=by conv=>lhs;simp[-List.map_set,QV,hkt,hx,hn,hlen,hb,hb']))
   refine QA [2] (h:=⟨?_,k+1,out++[ts[n]],hkt,rfl,by rw [htk,List.map_append,ho]; simp [hgn],by simp [hlen],by simp [hw],by simp⟩)
   omega
  ·have hke:k=l.length:=by omega
   subst hke
   rw [List.take_length] at ho
   repeat (first|refine QG ?_|refine QY ?_ (r:=by conv=>lhs;simp[-List.map_set,QV,hkt]))
   rw [←ho]
   exact jh hwf ((frz1 (by simp) (by rfl) (jF vint (fun _=>rfl) _) (by simpa using hlen)).toB _) rfl
theorem jbv (e:Ss.Env) (f:Ss.Fn) (ds:List Ss.Def) (near:List Int) (block pos:Int) (l types:List Int) (hds:ds.length=f.types.length) (htl:f.types.length<2^63) (hnl:near.length<2^63) (hl:l.length<2^63) (hnn : ∀ x∈ds,x.made=true→0≤x.block) :
  VPure Tryz.prog 89 [ckR e f ds near,vl vint l,vl vint types,vint block,vint pos] (.bool (Ss.asks f.types ds near block pos l types)):=by
 intro S
 obtain ⟨⟨fi,fo⟩,ts,bs⟩:=f
 simp only at hds htl ⊢
 unfold Ss.asks
 generalize hP:Ss.askOk ts ds near block pos=P
 by_cases hlm:l.length=types.length
 case neg =>
  have hlm' : ¬ (l.length:Int)=(types.length:Int):=by omega
  rw [eqF_len hlm]
  refine jb (c:=jf Tryz.f89) Tryz.func89 rfl rfl (by simp [Tryz.ntmps89]) ?_
  rw [Tryz.ntmps89]
  intro hwf
  repeat (first|refine QG ?_|refine QY ?_ (r:=by conv=>lhs;simp[-List.map_set,QV,hlm,hlm']))
  exact ja hwf rfl rfl
 have hlm':(l.length:Int)=(types.length:Int):=by omega
 refine jb (c:=jf Tryz.f89) Tryz.func89 rfl rfl (by simp [Tryz.ntmps89]) ?_
 rw [Tryz.ntmps89]
 intro hwf
 repeat (first|refine QG ?_|refine QY ?_ (r:=by conv=>lhs;simp[-List.map_set,QV,hlm,hlm']))
 repeat refine QS ?_
 refine jd [0,1,2,3,4,11] rfl (fun c σ S' => ∃ (k:Nat),k≤l.length∧c=l.length-k∧eqF P (l.drop k) (types.drop k)=eqF P l types∧σ=[(0,ckR e ⟨⟨fi,fo⟩,ts,bs⟩ ds near),(1,vl vint l),(2,vl vint types),(3,vint block),(4,vint pos),(11,vnat k)]∧S'=St S [] []) l.length ?_ ?_
 ·exact ⟨0,by omega,rfl,rfl,by simp [Fr.only],rfl⟩
 ·rintro c σ T ⟨k,hk,rfl,hd,rfl,rfl⟩
  by_cases hkt:k<l.length
  case neg =>
   have hkm : ¬ k<types.length:=by omega
   repeat (first|refine QG ?_|refine QY ?_ (r:=by conv=>lhs;simp[-List.map_set,QV,hkt]))
   rw [←hd,reqF_end hkt hkm]
   exact ja hwf rfl rfl
  have hkm:k<types.length:=by omega
  have hw:=jn hkt hl
  have hst:=reqF_step (p:=P) hkt hkm
  obtain ⟨v,hx⟩ : ∃ v,l[k]=v:=⟨_,rfl⟩
  obtain ⟨t,ht⟩ : ∃ t,types[k]=t:=⟨_,rfl⟩
  rw [hx,ht] at hst
  by_cases h0:v<0
  ·have e:P v t=false:=by rw [←hP]; simp [Ss.askOk]; omega
   rw [e,Bool.false_and,hd] at hst
   repeat (first|refine QG ?_|refine QY ?_ (r:=by conv=>lhs;simp[-List.map_set,QV,hkt,hx,h0]))
   rw [hst]
   exact ja hwf rfl rfl
  obtain ⟨n,rfl⟩ : ∃ n:Nat,v=n:=⟨v.toNat,by omega⟩
  by_cases hnt:n<ts.length
  case neg =>
   have h1':(ts.length:Int)≤(n:Int):=by omega
   have e:P n t=false:=by rw [←hP]; simp [Ss.askOk]; omega
   rw [e,Bool.false_and,hd] at hst
   repeat (first|refine QG ?_|refine QY ?_ (r:=by conv=>lhs;simp[-List.map_set,QV,hkt,hx,h0,h1']))
   rw [hst]
   exact ja hwf rfl rfl
  have h1' : ¬ (ts.length:Int)≤(n:Int):=by omega
  have h1:n<ds.length:=by omega
  obtain ⟨tt,htt⟩ : ∃ x,ts[n]=x:=⟨_,rfl⟩
  obtain ⟨⟨dm,db,dp⟩,hdx⟩ : ∃ x,ds[n]=x:=⟨_,rfl⟩
  have hX:P n t=(decide (tt=t)&&(dm&&(if db=block then decide (dp<pos) else G.dominates near db block))):=by
   rw [←hP]
   simp [Ss.askOk,h1,hnt,htt,hdx,Bool.and_assoc]
  rw [hX] at hst
  by_cases h2:tt=t
  case neg =>
   rw [decide_eq_false h2,Bool.false_and,Bool.false_and,hd] at hst
   repeat (first|refine QG ?_|refine QY ?_ (r:=by conv=>lhs;simp[-List.map_set,QV,hkt,hkm,hx,ht,h0,h1',hnt,htt,h2]))
   rw [hst]
   exact ja hwf rfl rfl
  rw [decide_eq_true h2,Bool.true_and] at hst
  cases dm with
  | false =>
   rw [Bool.false_and,Bool.false_and,hd] at hst
   repeat (first|refine QG ?_|refine QY ?_ (r:=by conv=>lhs;simp[-List.map_set,QV,hkt,hkm,hx,ht,h0,h1',hnt,htt,h2,h1,hdx]))
   rw [hst]
   exact ja hwf rfl rfl
  | true =>
   have hb0 : ¬ db<0:=by
    have:=hnn _ (List.getElem_mem h1)
    rw [hdx] at this
    have:=this rfl
    simp only at this
    omega
   rw [Bool.true_and] at hst
   by_cases h3:db=block
   ·rw [if_pos h3] at hst
    subst h3
    by_cases h4:dp<pos
    ·have h4' : ¬ pos≤dp:=by omega
     rw [decide_eq_true h4,Bool.true_and,hd] at hst
     repeat (first|refine QG ?_|refine QY ?_ (r:=by conv=>lhs;simp[-List.map_set,QV,hkt,hkm,hx,ht,h0,h1',hnt,htt,h2,h1,hdx,hb0,h4']))
     refine QA [] (h:=⟨?_,k+1,hkt,rfl,hst.symm,by simp [hw],by simp⟩)
     omega
    ·have h4':pos≤dp:=by omega
     rw [decide_eq_false h4,Bool.false_and,hd] at hst
     repeat (first|refine QG ?_|refine QY ?_ (r:=by conv=>lhs;simp[-List.map_set,QV,hkt,hkm,hx,ht,h0,h1',hnt,htt,h2,h1,hdx,hb0,h4']))
     rw [hst]
     exact ja hwf rfl rfl
   ·rw [if_neg h3] at hst
    have cd:=RDominates_v near db block hnl
    generalize G.dominates near db block=y at *
    repeat (first|refine QG ?_|refine QY ?_ (r:=by conv=>lhs;simp[-List.map_set,QV,hkt,hkm,hx,ht,h0,h1',hnt,htt,h2,h1,hdx,hb0,h3]))
    repeat refine QS ?_
    refine QD (r:=by conv=>lhs;simp[-List.map_set,QV,hkt,hkm,hx,ht,h0,h1',hnt,htt,h2,h1,hdx,hb0,h3]) (k:=?_)
    refine jc (cd) (by rfl) ?_
    by_cases hy:y=true
    ·rw [hy,Bool.true_and,hd] at hst
     refine QM (by conv=>lhs;simp[-List.map_set,QV,hy]) ?_
     refine QN ?_
     repeat (first|refine QG ?_|refine QY ?_)
     refine QA [] (h:=⟨?_,k+1,hkt,rfl,hst.symm,by simp [hw],by simp⟩)
     omega
    ·have hy':y=false:=by simpa using hy
     rw [hy',Bool.false_and,hd] at hst
     refine QM (by conv=>lhs;simp[-List.map_set,QV,hy']) ?_
     refine QN ?_
     repeat (first|refine QG ?_|refine QY ?_)
     rw [hst]
     exact ja hwf rfl rfl
end Go.Vw

namespace Go.Vw
open Go.Proofs Go.RowKit
set_option maxRecDepth 10000
set_option maxHeartbeats 4000000
theorem RAccess_v (op:Int):VPure Tryz.prog 120 [vint op] (.tuple [vint ((Ss.accOf op).getD ⟨0,0,false,false⟩).kind,vint ((Ss.accOf op).getD ⟨0,0,false,false⟩).width, .bool ((Ss.accOf op).getD ⟨0,0,false,false⟩).store, .bool (Ss.accOf op).isSome]):=by
 intro S
 by_cases h:op=40∨op=41∨op=44∨op=45∨op=46∨op=47∨op=48∨op=49∨op=50∨op=51∨op=52∨op=53∨op=54∨op=55∨op=58∨op=59∨op=60∨op=61∨op=62
 ·refine jb (c:=jf Tryz.f120) Tryz.func120 rfl rfl (by simp [Tryz.ntmps120]) ?_
  rw [Tryz.ntmps120]
  intro hwf
  rcases h with rfl | rfl | rfl | rfl | rfl | rfl | rfl | rfl | rfl | rfl | rfl | rfl | rfl | rfl | rfl | rfl | rfl | rfl | rfl
  all_goals
   repeat (first|refine QG ?_|refine QY ?_)
   exact ja hwf rfl rfl
 ·simp only [not_or] at h
  obtain ⟨h1,h2,h3,h4,h5,h6,h7,h8,h9,h10,h11,h12,h13,h14,h15,h16,h17,h18,h19⟩:=h
  have hn:Ss.accOf op=none:=by simp [Ss.accOf,Ss.accL,Ss.findK,h1,h2,h3,h4,h5,h6,h7,h8,h9,h10,h11,h12,h13,h14,h15,h16,h17,h18,h19]
  rw [hn]
  refine jb (c:=jf Tryz.f120) Tryz.func120 rfl rfl (by simp [Tryz.ntmps120]) ?_
  rw [Tryz.ntmps120]
  intro hwf
  repeat (first|refine QG ?_|refine QY ?_ (r:=by conv=>lhs;simp[-List.map_set,QV,h1,h2,h3,h4,h5,h6,h7,h8,h9,h10,h11,h12,h13,h14,h15,h16,h17,h18,h19]))
  exact ja hwf rfl rfl
end Go.Vw

namespace Ss
structure RForm where
 inn:List Int
 outs:List Int
 ok:Bool
deriving DecidableEq,Inhabited
def rformMem (op n:Int):RForm :=
 if op=257 then ⟨[127],[],decide (n≤8589934592)⟩
 else match accOf op with
  | some a=>if a.store then ⟨[127,a.kind],[],decide (n<4294967296)⟩ else ⟨[127],[a.kind],decide (n<4294967296)⟩
  | none=>if op=63 then ⟨[],[127],decide (n=0)⟩ else if op=64 then ⟨[127],[127],decide (n=0)⟩ else ⟨[],[],false⟩
def rformEnv (e:Env) (op n:Int):RForm :=
 if op=35∨op=36 then (if n<e.globals.length then (if op=35 then ⟨[],[e.globals.getD n.toNat 0],true⟩ else ⟨[e.globals.getD n.toNat 0],[],e.muts.getD n.toNat false⟩) else ⟨[],[],false⟩)
 else if op=16 then (if n<e.sigs.length then ⟨(e.sigs.getD n.toNat default).inn,(e.sigs.getD n.toNat default).out,true⟩ else ⟨[],[],false⟩)
 else if e.mem then rformMem op n else ⟨[],[],false⟩
def rform (e:Env) (op n out:Int):RForm :=
 if op=256 then ⟨[],[out],decide (out=126)||(decide (out=127)&&decide (n<4294967296))⟩
 else if op=258 then ⟨[],[],decide (n=0)⟩
 else match numSig op with
  | (l,t,true)=>⟨l,[t],decide (n=0)⟩
  | _=>if op=27 then ⟨[out,out,127],[out],decide (n=0)⟩ else rformEnv e op n
end Ss
namespace Go.Vw
open Go.Proofs Go.RowKit
set_option maxRecDepth 10000
set_option maxHeartbeats 16000000
def rformV (r:Ss.RForm):V := .tuple [vl vint r.inn,vl vint r.outs, .bool r.ok]
theorem Form_v (e:Ss.Env) (x:Ss.Ins) (out:Int) (hsl:e.sigs.length≤140737488355328) (hgl:e.globals.length≤140737488355328) (hml:e.muts.length=e.globals.length) (hx:x.Fits) :
  VPure Tryz.prog 88 [zm e,jt x,vint out] (rformV (Ss.rform e x.op x.n out)):=by
 intro S
 obtain ⟨sg,im,gl,mu,me⟩:=e
 obtain ⟨op,n,xa,xo⟩:=x
 obtain ⟨ho,⟨h0,hn64⟩,_⟩:=hx
 simp only at hsl hgl hml h0 ho hn64 ⊢
 obtain ⟨m,rfl⟩ : ∃ m:Nat,n=m:=⟨n.toNat,by omega⟩
 have hns:=RNumSig_v op
 have hac:=RAccess_v op
 have hfi:=Fits_v out (m:Int)
 have hcg:IntKind.u64.wrap (gl.length:Int)=(gl.length:Int):=Ka (by omega) (by omega)
 have hcs:IntKind.u64.wrap (sg.length:Int)=(sg.length:Int):=Ka (by omega) (by omega)
 have hz:decide ((m:Int)=0)=decide (m=0):=by simp
 unfold Ss.rform
 rw [hz]
 generalize (decide (out=126)||(decide (out=127)&&decide ((m:Int)<4294967296)))=fi at *
 generalize hsg:Ss.numSig op=sgv at *
 obtain ⟨l,t,b⟩:=sgv
 generalize hak:((Ss.accOf op).getD ⟨0,0,false,false⟩).kind=ak at *
 generalize hast:((Ss.accOf op).getD ⟨0,0,false,false⟩).store=ast at *
 generalize ((Ss.accOf op).getD ⟨0,0,false,false⟩).width=aw at *
 generalize his:(Ss.accOf op).isSome=ais at *
 simp only at hns
 refine jb (c:=jf Tryz.f88) Tryz.func88 rfl rfl (by simp [Tryz.ntmps88]) ?_
 rw [Tryz.ntmps88]
 intro hwf
 repeat (first|refine QG ?_|refine QY ?_)
 repeat refine QS ?_
 refine QP ?_
 refine jc (hns) (by rfl) ?_
 refine QM (by conv=>lhs;simp[-List.map_set,QV]) ?_
 refine QN ?_
 repeat refine QS ?_
 refine QP ?_
 refine jc (hac) (by rfl) ?_
 refine QM (by conv=>lhs;simp[-List.map_set,QV]) ?_
 refine QN ?_
 by_cases h1:op=256
 ·rw [if_pos h1]
  repeat (first|refine QG ?_|refine QY ?_ (r:=by conv=>lhs;simp[-List.map_set,QV,h1]))
  repeat refine QS ?_
  refine QP ?_
  refine jc (hfi) (by rfl) ?_
  refine QM (by conv=>lhs;simp[-List.map_set,QV]) ?_
  refine QN ?_
  repeat (first|refine QG ?_|refine QY ?_)
  exact jh hwf (((Ghost.tuple [] [_,_] (Ghost.nils_list _)).trans (Ghost.tuple [_] [_] (frz1 (k:=2) (by simp) (by rfl) (by rfl) (by rfl)))).toB _) rfl
 rw [if_neg h1]
 by_cases h2:op=258
 ·rw [if_pos h2]
  repeat (first|refine QG ?_|refine QY ?_ (r:=by conv=>lhs;simp[-List.map_set,QV,h1,h2]))
  exact jh hwf (((Ghost.tuple [] [_,_] (Ghost.nils_list _)).trans (Ghost.tuple [_] [_] (Ghost.nils_list _))).toB _) rfl
 rw [if_neg h2]
 by_cases hb:b=true
 ·subst hb
  simp only
  repeat (first|refine QG ?_|refine QY ?_ (r:=by conv=>lhs;simp[-List.map_set,QV,h1,h2]))
  repeat refine QS ?_
  refine jQ (St S [] [some (5,[vl jO sg,vint im,vl vint gl,vl V.bool mu, .bool me]),some (4,[vint op, .int .u64 (m:Int),vl vint xa,vl vint xo])]) (St S [] [some (5,[vl jO sg,vint im,vl vint gl,vl V.bool mu, .bool me]),some (4,[vint op, .int .u64 (m:Int),vl vint xa,vl vint xo])]) [] rfl (by kernel_rfl) (by conv=>lhs; reduce) (by conv=>lhs; reduce) (by kernel_rfl) (by kernel_rfl) (jG (by simp [subU,shpU,subL,shpL])) (by conv=>lhs; simp [-List.map_set,QV,h1]) ?_
  refine jg rfl (by conv=>lhs;simp[-List.map_set,QV,h1]) (jG (by simp [subU,shpU,subL,shpL])) ?_
  refine QM (by conv=>lhs;simp[-List.map_set,QV,h1]) ?_
  refine QN ?_
  repeat (first|refine QG ?_|refine QY ?_)
  exact jh hwf ((Ghost.tuple [_] [_] (frz1 (k:=2) (by simp) (by rfl) (by rfl) (by rfl))).toB _) rfl
 obtain rfl:b=false:=by simpa using hb
 simp only
 by_cases h3:op=27
 ·rw [if_pos h3]
  subst h3
  repeat (first|refine QG ?_|refine QY ?_ (r:=by conv=>lhs;simp[-List.map_set,QV,h1,h2]))
  repeat refine QS ?_
  refine WJ (σm := ?sma) (Sm := ?Sma) (ZZ.mk _ (St S [] [some (5,[vl jO sg,vint im,vl vint gl,vl V.bool mu, .bool me]),some (4,[.int .i64 27, .int .u64 (m:Int),vl vint xa,vl vint xo])]) (St S [] [some (5,[vl jO sg,vint im,vl vint gl,vl V.bool mu, .bool me]),some (4,[.int .i64 27, .int .u64 (m:Int),vl vint xa,vl vint xo])]) []) 2 4 [0,1,2,3,4,5,6,7,8,9,10] [0,1,3,4,2,5,6,7,8,9,10] rfl (by kernel_rfl) (by conv=>lhs; reduce) (by kernel_rfl) (by decide) (by kernel_rfl) (by kernel_rfl) (by kernel_rfl) (by kernel_rfl) (by kernel_rfl) (by kernel_rfl) rfl (jG (by simp [subU,shpU,subL,shpL])) (Store.sub_refl _) (by conv=>lhs; reduce) (by conv=>lhs; reduce) ?H1a ?H2a ?H3a
  case H1a =>
   refine QM (by conv=>lhs;simp[-List.map_set,QV]) ?_
   refine jg rfl (by conv=>lhs;simp[-List.map_set,QV]) (jG (by simp [subU,shpU,subL,shpL])) ?_
   refine QM (by conv=>lhs;simp[-List.map_set,QV]) ?_
   refine jg rfl (by conv=>lhs;simp[-List.map_set,QV]) (jG (by simp [subU,shpU,subL,shpL])) ?_
   refine QM (by conv=>lhs;simp[-List.map_set,QV]) ?_
   refine QN ?_
   refine Ja [6,7,8] (Eq.trans (b := ?_) ?_ rfl)
   rotate_left
   conv=>lhs; simp [Fr.only,Fr.look]
  case H2a =>
   refine QM (by conv=>lhs;simp[-List.map_set,QV]) ?_
   refine jg rfl (by conv=>lhs;simp[-List.map_set,QV]) (jG (by simp [subU,shpU,subL,shpL])) ?_
   refine jg rfl (by conv=>lhs;simp[-List.map_set,QV]) (jG (by simp [subU,shpU,subL,shpL])) ?_
   refine QM (by conv=>lhs;simp[-List.map_set,QV]) ?_
   refine QN ?_
   exact JD [6,7,8] [0,1,3,2] (by conv=>lhs; simp [Fr.only,Fr.look]) hwf (by decide) (by simp [-List.map_set]) (by conv=>lhs; simp [-List.map_set]) (by conv=>lhs; simp [-List.map_set]) (by conv=>lhs; simp [-List.map_set])
  repeat (first|refine QG ?_|refine QY ?_)
  exact jh hwf (((Ghost.tuple [] [_,_] (frz1 (k:=2) (by simp) (by rfl) (by rfl) (by rfl))).trans (Ghost.tuple [_] [_] (frz1 (k:=3) (by simp) (by rfl) (by rfl) (by rfl)))).toB _) rfl
 rw [if_neg h3]
 unfold Ss.rformEnv
 simp only
 by_cases h4:op=35∨op=36
 ·rw [if_pos h4]
  by_cases h5:m<gl.length
  case neg =>
   have h5' : ¬ (m:Int)<(gl.length:Int):=by omega
   have h5n:(gl.length:Int)≤(m:Int):=by omega
   rw [if_neg h5']
   by_cases h6:op=35
   ·repeat (first|refine QG ?_|refine QY ?_ (r:=by conv=>lhs;simp[-List.map_set,QV,h1,h2,h3,h6,hcg,h5,h5n]))
    exact jh hwf (((Ghost.tuple [] [_,_] (Ghost.nils_list _)).trans (Ghost.tuple [_] [_] (Ghost.nils_list _))).toB _) rfl
   ·have h7:op=36:=by omega
    repeat (first|refine QG ?_|refine QY ?_ (r:=by conv=>lhs;simp[-List.map_set,QV,h1,h2,h3,h6,h7,hcg,h5,h5n]))
    exact jh hwf (((Ghost.tuple [] [_,_] (Ghost.nils_list _)).trans (Ghost.tuple [_] [_] (Ghost.nils_list _))).toB _) rfl
  have h5':(m:Int)<(gl.length:Int):=by omega
  have h5n : ¬ (gl.length:Int)≤(m:Int):=by omega
  have hgd:gl.getD (m:Int).toNat 0=gl[m]:=by simp [h5]
  have hm:m<mu.length:=by omega
  obtain ⟨b,hb⟩ : ∃ b,mu[m]=b:=⟨_,rfl⟩
  have hmd:mu.getD (m:Int).toNat false=b:=by simp [hm,hb]
  rw [if_pos h5',hgd,hmd]
  by_cases h6:op=35
  ·rw [if_pos h6]
   repeat (first|refine QG ?_|refine QY ?_ (r:=by conv=>lhs;simp[-List.map_set,QV,h1,h2,h3,h6,hcg,h5,h5n]))
   exact jh hwf (((Ghost.tuple [] [_,_] (Ghost.nils_list _)).trans (Ghost.tuple [_] [_] (frz1 (k:=2) (by simp) (by rfl) (by rfl) (by rfl)))).toB _) rfl
  ·have h7:op=36:=by omega
   rw [if_neg h6]
   repeat (first|refine QG ?_|refine QY ?_ (r:=by conv=>lhs;simp[-List.map_set,QV,h1,h2,h3,h6,h7,hcg,h5,h5n,hm,hb]))
   exact jh hwf (((Ghost.tuple [] [_,_] (frz1 (k:=2) (by simp) (by rfl) (by rfl) (by rfl))).trans (Ghost.tuple [_] [_] (Ghost.nils_list _))).toB _) rfl
 rw [if_neg h4]
 have h6 : ¬ op=35:=fun h=>h4 (.inl h)
 have h7 : ¬ op=36:=fun h=>h4 (.inr h)
 by_cases h8:op=16
 ·rw [if_pos h8]
  by_cases h5:m<sg.length
  case neg =>
   have h5' : ¬ (m:Int)<(sg.length:Int):=by omega
   have h5n:(sg.length:Int)≤(m:Int):=by omega
   rw [if_neg h5']
   repeat (first|refine QG ?_|refine QY ?_ (r:=by conv=>lhs;simp[-List.map_set,QV,h1,h2,h3,h6,h7,h8,hcs,h5,h5n]))
   exact jh hwf (((Ghost.tuple [] [_,_] (Ghost.nils_list _)).trans (Ghost.tuple [_] [_] (Ghost.nils_list _))).toB _) rfl
  have h5':(m:Int)<(sg.length:Int):=by omega
  have h5n : ¬ (sg.length:Int)≤(m:Int):=by omega
  obtain ⟨⟨a,b⟩,hab⟩ : ∃ x,sg[m]=x:=⟨_,rfl⟩
  have hgd:sg.getD (m:Int).toNat default=⟨a,b⟩:=by simp [h5,hab]
  rw [if_pos h5',hgd]
  repeat (first|refine QG ?_|refine QY ?_ (r:=by conv=>lhs;simp[-List.map_set,QV,h1,h2,h3,h6,h7,h8,hcs,h5,h5n,hab]))
  exact ja hwf (by simp [rformV,vl]) rfl
 rw [if_neg h8]
 by_cases hme:me=true
 case neg =>
  have hme':me=false:=by simpa using hme
  rw [if_neg hme]
  repeat (first|refine QG ?_|refine QY ?_ (r:=by conv=>lhs;simp[-List.map_set,QV,h1,h2,h3,h6,h7,h8,hme']))
  exact jh hwf (((Ghost.tuple [] [_,_] (Ghost.nils_list _)).trans (Ghost.tuple [_] [_] (Ghost.nils_list _))).toB _) rfl
 subst hme
 rw [if_pos rfl]
 unfold Ss.rformMem
 rw [hz]
 by_cases k1:op=257
 ·rw [if_pos k1]
  subst k1
  repeat (first|refine QG ?_|refine QY ?_ (r:=by conv=>lhs;simp[-List.map_set,QV,h1,h2,h3,h6,h7,h8]))
  repeat refine QS ?_
  refine jQ (St S [] [some (5,[vl jO sg,vint im,vl vint gl,vl V.bool mu, .bool true]),some (4,[.int .i64 257, .int .u64 (m:Int),vl vint xa,vl vint xo])]) (St S [] [some (5,[vl jO sg,vint im,vl vint gl,vl V.bool mu, .bool true]),some (4,[.int .i64 257, .int .u64 (m:Int),vl vint xa,vl vint xo])]) [] rfl (by kernel_rfl) (by conv=>lhs; reduce) (by conv=>lhs; reduce) (by kernel_rfl) (by kernel_rfl) (jG (by simp [subU,shpU,subL,shpL])) (by conv=>lhs; simp [-List.map_set,QV,h1]) ?_
  refine jg rfl (by conv=>lhs;simp[-List.map_set,QV,h1]) (jG (by simp [subU,shpU,subL,shpL])) ?_
  refine QM (by conv=>lhs;simp[-List.map_set,QV,h1]) ?_
  refine QN ?_
  repeat (first|refine QG ?_|refine QY ?_)
  exact jh hwf (((Ghost.tuple [] [_,_] (frz1 (k:=2) (by simp) (by rfl) (by rfl) (by rfl))).trans (Ghost.tuple [_] [_] (Ghost.nils_list _))).toB _) rfl
 rw [if_neg k1]
 cases hf:Ss.accOf op with
 | some a =>
  obtain ⟨b1,b2,b3,b4⟩:=a
  rw [hf] at his hak hast
  simp only [Option.isSome_some,Option.getD_some] at his hak hast
  subst his hak hast
  simp only
  generalize hz4:decide ((m:Int)<4294967296)=z4 at *
  by_cases k2:b3=true
  ·subst k2
   rw [if_pos rfl]
   repeat (first|refine QG ?_|refine QY ?_ (r:=by conv=>lhs;simp[-List.map_set,QV,h1,h2,h3,h6,h7,h8,k1,hz4]))
   repeat refine QS ?_
   refine jQ (St S [] [some (5,[vl jO sg,vint im,vl vint gl,vl V.bool mu, .bool true]),some (4,[vint op, .int .u64 (m:Int),vl vint xa,vl vint xo])]) (St S [] [some (5,[vl jO sg,vint im,vl vint gl,vl V.bool mu, .bool true]),some (4,[vint op, .int .u64 (m:Int),vl vint xa,vl vint xo])]) [] rfl (by kernel_rfl) (by conv=>lhs; reduce) (by conv=>lhs; reduce) (by kernel_rfl) (by kernel_rfl) (jG (by simp [subU,shpU,subL,shpL])) (by conv=>lhs; simp [-List.map_set,QV,h1]) ?_
   refine jg rfl (by conv=>lhs;simp[-List.map_set,QV,h1,hz4]) (jG (by simp [subU,shpU,subL,shpL])) ?_
   refine QM (by conv=>lhs;simp[-List.map_set,QV,h1,hz4]) ?_
   refine QN ?_
   repeat (first|refine QG ?_|refine QY ?_)
   exact jh hwf (((Ghost.tuple [] [_,_] (frz1 (k:=2) (by simp) (by rfl) (by rfl) (by rfl))).trans (Ghost.tuple [_] [_] (Ghost.nils_list _))).toB _) rfl
  ·rw [if_neg k2]
   obtain rfl:b3=false:=by simpa using k2
   repeat (first|refine QG ?_|refine QY ?_ (r:=by conv=>lhs;simp[-List.map_set,QV,h1,h2,h3,h6,h7,h8,k1,hz4]))
   repeat refine QS ?_
   refine WJ (σm := ?smb) (Sm := ?Smb) (ZZ.mk _ (St S [] [some (5,[vl jO sg,vint im,vl vint gl,vl V.bool mu, .bool true]),some (4,[vint op, .int .u64 (m:Int),vl vint xa,vl vint xo])]) (St S [] [some (5,[vl jO sg,vint im,vl vint gl,vl V.bool mu, .bool true]),some (4,[vint op, .int .u64 (m:Int),vl vint xa,vl vint xo])]) []) 0 2 [0,1,2,3,4,5,6,7,8] [1,2,0,3,4,5,6,7,8] rfl (by kernel_rfl) (by conv=>lhs; reduce) (by kernel_rfl) (by decide) (by kernel_rfl) (by kernel_rfl) (by kernel_rfl) (by kernel_rfl) (by kernel_rfl) (by kernel_rfl) rfl (jG (by simp [subU,shpU,subL,shpL])) (Store.sub_refl _) (by conv=>lhs; reduce) (by conv=>lhs; reduce) ?H1b ?H2b ?H3b
   case H1b =>
    refine QM (by conv=>lhs;simp[-List.map_set,QV,h1,hz4]) ?_
    refine jg rfl (by conv=>lhs;simp[-List.map_set,QV]) (jG (by simp [subU,shpU,subL,shpL])) ?_
    refine QM (by conv=>lhs;simp[-List.map_set,QV,hz4]) ?_
    refine jg rfl (by conv=>lhs;simp[-List.map_set,QV]) (jG (by simp [subU,shpU,subL,shpL])) ?_
    refine QM (by conv=>lhs;simp[-List.map_set,QV,hz4]) ?_
    refine QN ?_
    refine Ja [6,7,8] (Eq.trans (b := ?_) ?_ rfl)
    rotate_left
    conv=>lhs; simp [Fr.only,Fr.look]
   case H2b =>
    refine QM (by conv=>lhs;simp[-List.map_set,QV,h1,hz4]) ?_
    refine jg rfl (by conv=>lhs;simp[-List.map_set,QV]) (jG (by simp [subU,shpU,subL,shpL])) ?_
    refine jg rfl (by conv=>lhs;simp[-List.map_set,QV]) (jG (by simp [subU,shpU,subL,shpL])) ?_
    refine QM (by conv=>lhs;simp[-List.map_set,QV,hz4]) ?_
    refine QN ?_
    exact JD [6,7,8] [0,1,3,2] (by conv=>lhs; simp [Fr.only,Fr.look]) hwf (by decide) (by simp [-List.map_set]) (by conv=>lhs; simp [-List.map_set]) (by conv=>lhs; simp [-List.map_set]) (by conv=>lhs; simp [-List.map_set])
   repeat (first|refine QG ?_|refine QY ?_)
   exact jh hwf (((Ghost.tuple [] [_,_] (frz1 (k:=2) (by simp) (by rfl) (by rfl) (by rfl))).trans (Ghost.tuple [_] [_] (frz1 (k:=3) (by simp) (by rfl) (by rfl) (by rfl)))).toB _) rfl
 | none =>
  rw [hf] at his hak hast
  simp only [Option.isSome_none,Option.getD_none] at his hak hast
  subst his hak hast
  simp only
  by_cases k2:op=63
  ·rw [if_pos k2]
   subst k2
   repeat (first|refine QG ?_|refine QY ?_ (r:=by conv=>lhs;simp[-List.map_set,QV,h1,h2,h3,h6,h7,h8,k1]))
   repeat refine QS ?_
   refine jQ (St S [] [some (5,[vl jO sg,vint im,vl vint gl,vl V.bool mu, .bool true]),some (4,[.int .i64 63, .int .u64 (m:Int),vl vint xa,vl vint xo])]) (St S [] [some (5,[vl jO sg,vint im,vl vint gl,vl V.bool mu, .bool true]),some (4,[.int .i64 63, .int .u64 (m:Int),vl vint xa,vl vint xo])]) [] rfl (by kernel_rfl) (by conv=>lhs; reduce) (by conv=>lhs; reduce) (by kernel_rfl) (by kernel_rfl) (jG (by simp [subU,shpU,subL,shpL])) (by conv=>lhs; simp [-List.map_set,QV,h1]) ?_
   refine jg rfl (by conv=>lhs;simp[-List.map_set,QV,h1]) (jG (by simp [subU,shpU,subL,shpL])) ?_
   refine QM (by conv=>lhs;simp[-List.map_set,QV,h1]) ?_
   refine QN ?_
   repeat (first|refine QG ?_|refine QY ?_)
   exact jh hwf (((Ghost.tuple [] [_,_] (Ghost.nils_list _)).trans (Ghost.tuple [_] [_] (frz1 (k:=2) (by simp) (by rfl) (by rfl) (by rfl)))).toB _) rfl
  rw [if_neg k2]
  by_cases k3:op=64
  ·rw [if_pos k3]
   subst k3
   repeat (first|refine QG ?_|refine QY ?_ (r:=by conv=>lhs;simp[-List.map_set,QV,h1,h2,h3,h6,h7,h8,k1,k2]))
   repeat refine QS ?_
   refine WJ (σm := ?smc) (Sm := ?Smc) (ZZ.mk _ (St S [] [some (5,[vl jO sg,vint im,vl vint gl,vl V.bool mu, .bool true]),some (4,[.int .i64 64, .int .u64 (m:Int),vl vint xa,vl vint xo])]) (St S [] [some (5,[vl jO sg,vint im,vl vint gl,vl V.bool mu, .bool true]),some (4,[.int .i64 64, .int .u64 (m:Int),vl vint xa,vl vint xo])]) []) 0 1 [0,1,2,3,4,5,6,7] [1,0,2,3,4,5,6,7] rfl (by kernel_rfl) (by conv=>lhs; reduce) (by kernel_rfl) (by decide) (by kernel_rfl) (by kernel_rfl) (by kernel_rfl) (by kernel_rfl) (by kernel_rfl) (by kernel_rfl) rfl (jG (by simp [subU,shpU,subL,shpL])) (Store.sub_refl _) (by conv=>lhs; reduce) (by conv=>lhs; reduce) ?H1c ?H2c ?H3c
   case H1c =>
    refine QM (by conv=>lhs;simp[-List.map_set,QV,h1]) ?_
    refine jg rfl (by conv=>lhs;simp[-List.map_set,QV]) (jG (by simp [subU,shpU,subL,shpL])) ?_
    refine QM (by conv=>lhs;simp[-List.map_set,QV]) ?_
    refine jg rfl (by conv=>lhs;simp[-List.map_set,QV]) (jG (by simp [subU,shpU,subL,shpL])) ?_
    refine QM (by conv=>lhs;simp[-List.map_set,QV]) ?_
    refine QN ?_
    refine Ja [6,7,8] (Eq.trans (b := ?_) ?_ rfl)
    rotate_left
    conv=>lhs; simp [Fr.only,Fr.look]
   case H2c =>
    refine QM (by conv=>lhs;simp[-List.map_set,QV,h1]) ?_
    refine jg rfl (by conv=>lhs;simp[-List.map_set,QV]) (jG (by simp [subU,shpU,subL,shpL])) ?_
    refine jg rfl (by conv=>lhs;simp[-List.map_set,QV]) (jG (by simp [subU,shpU,subL,shpL])) ?_
    refine QM (by conv=>lhs;simp[-List.map_set,QV]) ?_
    refine QN ?_
    exact JD [6,7,8] [0,1,3,2] (by conv=>lhs; simp [Fr.only,Fr.look]) hwf (by decide) (by simp [-List.map_set]) (by conv=>lhs; simp [-List.map_set]) (by conv=>lhs; simp [-List.map_set]) (by conv=>lhs; simp [-List.map_set])
   repeat (first|refine QG ?_|refine QY ?_)
   exact jh hwf (((Ghost.tuple [] [_,_] (frz1 (k:=2) (by simp) (by rfl) (by rfl) (by rfl))).trans (Ghost.tuple [_] [_] (frz1 (k:=3) (by simp) (by rfl) (by rfl) (by rfl)))).toB _) rfl
  rw [if_neg k3]
  repeat (first|refine QG ?_|refine QY ?_ (r:=by conv=>lhs;simp[-List.map_set,QV,h1,h2,h3,h6,h7,h8,k1,k2,k3]))
  exact jh hwf (((Ghost.tuple [] [_,_] (Ghost.nils_list _)).trans (Ghost.tuple [_] [_] (Ghost.nils_list _))).toB _) rfl
end Go.Vw
