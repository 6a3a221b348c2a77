import Derived.Test.YtkfllaokjaldnaaGreatC35
import Derived.Test.YtkfllaokjaldnaaGreatC20
import Derived.Test.YtkfllaokjaldnaaGreatC21
/-
  Part of the proof (texts CAsk, CNum, CMem).
-/
set_option linter.unusedVariables false
set_option linter.unusedSimpArgs false
namespace Go.Vw
open Go.Proofs Go.RowKit
set_option maxRecDepth 10000
set_option maxHeartbeats 4000000
attribute [local simp] encRDef_eq
abbrev ckR (e:Ss.Env) (f:Ss.Fn) (ds:List Ss.Def) (near:List Int):V := .ref (.agg (ckC e f (vl jZ ds) (vl vint near)))
theorem reqF_step {α:Type} {p:α→α→Bool} {l m:List α} {k:Nat} (h1:k<l.length) (h2:k<m.length):eqF p (l.drop k) (m.drop k)=(p l[k] m[k]&&eqF p (l.drop (k+1)) (m.drop (k+1))):=by
 rw [List.drop_eq_getElem_cons h1,List.drop_eq_getElem_cons h2,eqF]
theorem reqF_end {α:Type} {p:α→α→Bool} {l m:List α} {k:Nat} (h1 : ¬ k<l.length) (h2 : ¬ k<m.length):eqF p (l.drop k) (m.drop k)=true:=by
 have e1:l.drop k=[]:=by rw [List.drop_eq_nil_iff]; omega
 have e2:m.drop k=[]:=by rw [List.drop_eq_nil_iff]; omega
 rw [e1,e2,eqF]
theorem jbn (e:Ss.Env) (f:Ss.Fn) (ds:List Ss.Def) (near:List Int) (l:List Int) (hl:l.length≤1048576) (hv:Ss.InTs f.types.length l):VPure Tryz.prog 48 [ckR e f ds near,vl vint l] (vl vint (Ss.typesOf f.types l)):=by
 intro S
 obtain ⟨⟨fi,fo⟩,ts,bs⟩:=f
 simp only at hv
 generalize hg:(fun v:Int=>ts.getD v.toNat 0)=g
 have hX:Ss.typesOf ts l=l.map g:=by rw [Ss.typesOf,hg]
 simp only
 rw [hX]
 refine jb (c:=jf Tryz.f48) Tryz.func48 rfl rfl (by simp [Tryz.ntmps48]) ?_
 rw [Tryz.ntmps48]
 intro hwf
 repeat refine QS ?_
 refine QP ?_
 refine QN ?_
 repeat refine QS ?_
 refine QP ?_
 refine QN ?_
 refine zd 5 1 rfl (by conv=>lhs; simp [Fr.set]) ?_
 repeat (first|refine QG ?_|refine QY ?_)
 repeat refine QS ?_
 refine je [0,1,5,6] rfl (fun c σ S' => ∃ (k:Nat) (out:List Int),k≤l.length∧c=l.length-k∧out=(l.take k).map g∧out.length=k∧σ=[(0,ckR e ⟨⟨fi,fo⟩,ts,bs⟩ ds near),(1,vl vint l),(5, .slice (lid S.nx 0) 0 k),(6,vnat k)]∧S'=St S [] [some (1,out.map vint)]) l.length ?_ ?_
 ·exact ⟨0,[],by omega,rfl,by simp,rfl,by simp [Fr.only],by simp⟩
 ·rintro c σ T ⟨k,out,hk,rfl,ho,hlen,rfl,rfl⟩
  by_cases hkt:k<l.length
  ·have hw:=jo hkt (by omega)
   obtain ⟨h0,h1⟩:=hv _ (List.getElem_mem hkt)
   obtain ⟨v,hx⟩ : ∃ v,l[k]=v:=⟨_,rfl⟩
   rw [hx] at h0 h1
   obtain ⟨n,rfl⟩ : ∃ n:Nat,v=n:=⟨v.toNat,by omega⟩
   have hn:n<ts.length:=by omega
   have hgn:g (n:Int)=ts[n]:=by rw [←hg]; simp [hn]
   have htk:l.take (k+1)=l.take k++[(n:Int)]:=by rw [List.take_add_one,List.getElem?_eq_getElem hkt,hx]; rfl
   have hb:(k+1)*8≤140737488355328:=by omega
   have hb':k+1≤140737488355328:=by omega
   repeat (first|refine QG ?_|refine QY ?_ (r:=by conv=>lhs;simp[-List.map_set,QV,hkt,hx,hn,hlen,hb,hb']))
   repeat refine QS ?_
   refine jQ (St S [] [none]) (St S [] [none]) [] rfl (by kernel_rfl) (by conv=>lhs; reduce) (by conv=>lhs; reduce) (by kernel_rfl) (by kernel_rfl) (jv (by simp [subU,shpU,subL,shpL])) (by conv=>lhs; simp [-List.map_set,QV,hkt,hx,hn,hlen,hb,hb']) ?_
   refine jg rfl (by conv=>lhs;simp[-List.map_set,QV,hkt,hx,hn,hlen,hb,hb']) (jv (by simp [subU,shpU,subL,shpL])) ?_
   refine jg rfl (by conv=>lhs;simp[-List.map_set,QV,hkt,hx,hn,hlen,hb,hb']) (jv (by simp [subU,shpU,subL,shpL])) ?_
   refine QM (by conv=>lhs;simp[-List.map_set,QV]) ?_
   refine QN ?_
   repeat (first|refine QG ?_|refine QY ?_ (r:=by conv=>lhs;simp[-List.map_set,QV,hkt,hx,hn,hlen,hb,hb']))
   refine QA [2] (h:=⟨?_,k+1,out++[ts[n]],hkt,rfl,by rw [htk,List.map_append,ho]; simp [hgn],by simp [hlen],by simp [hw],by simp⟩)
   omega
  ·have hke:k=l.length:=by omega
   subst hke
   rw [List.take_length] at ho
   repeat (first|refine QG ?_|refine QY ?_ (r:=by conv=>lhs;simp[-List.map_set,QV,hkt]))
   rw [←ho]
   exact jh hwf ((frz1 (by simp) (by rfl) (jI vint (fun _=>rfl) _) (by simpa using hlen)).toB _) rfl
theorem jbo (e:Ss.Env) (f:Ss.Fn) (ds:List Ss.Def) (near:List Int) (block pos:Int) (l types:List Int) (hds:ds.length=f.types.length) (htl:f.types.length<2^63) (hnl:near.length<2^63) (hl:l.length<2^63) (hnn : ∀ x∈ds,x.made=true→0≤x.block) :
  VPure Tryz.prog 89 [ckR e f ds near,vl vint l,vl vint types,vint block,vint pos] (.bool (Ss.asks f.types ds near block pos l types)):=by
 intro S
 obtain ⟨⟨fi,fo⟩,ts,bs⟩:=f
 simp only at hds htl ⊢
 unfold Ss.asks
 generalize hP:Ss.askOk ts ds near block pos=P
 by_cases hlm:l.length=types.length
 case neg =>
  have hlm' : ¬ (l.length:Int)=(types.length:Int):=by omega
  rw [eqF_len hlm]
  refine jb (c:=jf Tryz.f89) Tryz.func89 rfl rfl (by simp [Tryz.ntmps89]) ?_
  rw [Tryz.ntmps89]
  intro hwf
  repeat (first|refine QG ?_|refine QY ?_ (r:=by conv=>lhs;simp[-List.map_set,QV,hlm,hlm']))
  exact ja hwf rfl rfl
 have hlm':(l.length:Int)=(types.length:Int):=by omega
 refine jb (c:=jf Tryz.f89) Tryz.func89 rfl rfl (by simp [Tryz.ntmps89]) ?_
 rw [Tryz.ntmps89]
 intro hwf
 repeat (first|refine QG ?_|refine QY ?_ (r:=by conv=>lhs;simp[-List.map_set,QV,hlm,hlm']))
 repeat refine QS ?_
 refine je [0,1,2,3,4,11] rfl (fun c σ S' => ∃ (k:Nat),k≤l.length∧c=l.length-k∧eqF P (l.drop k) (types.drop k)=eqF P l types∧σ=[(0,ckR e ⟨⟨fi,fo⟩,ts,bs⟩ ds near),(1,vl vint l),(2,vl vint types),(3,vint block),(4,vint pos),(11,vnat k)]∧S'=St S [] []) l.length ?_ ?_
 ·exact ⟨0,by omega,rfl,rfl,by simp [Fr.only],rfl⟩
 ·rintro c σ T ⟨k,hk,rfl,hd,rfl,rfl⟩
  by_cases hkt:k<l.length
  case neg =>
   have hkm : ¬ k<types.length:=by omega
   repeat (first|refine QG ?_|refine QY ?_ (r:=by conv=>lhs;simp[-List.map_set,QV,hkt]))
   rw [←hd,reqF_end hkt hkm]
   exact ja hwf rfl rfl
  have hkm:k<types.length:=by omega
  have hw:=jo hkt hl
  have hst:=reqF_step (p:=P) hkt hkm
  obtain ⟨v,hx⟩ : ∃ v,l[k]=v:=⟨_,rfl⟩
  obtain ⟨t,ht⟩ : ∃ t,types[k]=t:=⟨_,rfl⟩
  rw [hx,ht] at hst
  by_cases h0:v<0
  ·have e:P v t=false:=by rw [←hP]; simp [Ss.askOk]; omega
   rw [e,Bool.false_and,hd] at hst
   repeat (first|refine QG ?_|refine QY ?_ (r:=by conv=>lhs;simp[-List.map_set,QV,hkt,hx,h0]))
   rw [hst]
   exact ja hwf rfl rfl
  obtain ⟨n,rfl⟩ : ∃ n:Nat,v=n:=⟨v.toNat,by omega⟩
  by_cases hnt:n<ts.length
  case neg =>
   have h1':(ts.length:Int)≤(n:Int):=by omega
   have e:P n t=false:=by rw [←hP]; simp [Ss.askOk]; omega
   rw [e,Bool.false_and,hd] at hst
   repeat (first|refine QG ?_|refine QY ?_ (r:=by conv=>lhs;simp[-List.map_set,QV,hkt,hx,h0,h1']))
   rw [hst]
   exact ja hwf rfl rfl
  have h1' : ¬ (ts.length:Int)≤(n:Int):=by omega
  have h1:n<ds.length:=by omega
  obtain ⟨tt,htt⟩ : ∃ x,ts[n]=x:=⟨_,rfl⟩
  obtain ⟨⟨dm,db,dp⟩,hdx⟩ : ∃ x,ds[n]=x:=⟨_,rfl⟩
  have hX:P n t=(decide (tt=t)&&(dm&&(if db=block then decide (dp<pos) else G.dominates near db block))):=by
   rw [←hP]
   simp [Ss.askOk,h1,hnt,htt,hdx,Bool.and_assoc]
  rw [hX] at hst
  by_cases h2:tt=t
  case neg =>
   rw [decide_eq_false h2,Bool.false_and,Bool.false_and,hd] at hst
   repeat (first|refine QG ?_|refine QY ?_ (r:=by conv=>lhs;simp[-List.map_set,QV,hkt,hkm,hx,ht,h0,h1',hnt,htt,h2]))
   rw [hst]
   exact ja hwf rfl rfl
  rw [decide_eq_true h2,Bool.true_and] at hst
  cases dm with
  | false =>
   rw [Bool.false_and,Bool.false_and,hd] at hst
   repeat (first|refine QG ?_|refine QY ?_ (r:=by conv=>lhs;simp[-List.map_set,QV,hkt,hkm,hx,ht,h0,h1',hnt,htt,h2,h1,hdx]))
   rw [hst]
   exact ja hwf rfl rfl
  | true =>
   have hb0 : ¬ db<0:=by
    have:=hnn _ (List.getElem_mem h1)
    rw [hdx] at this
    have:=this rfl
    simp only at this
    omega
   rw [Bool.true_and] at hst
   by_cases h3:db=block
   ·rw [if_pos h3] at hst
    subst h3
    by_cases h4:dp<pos
    ·have h4' : ¬ pos≤dp:=by omega
     rw [decide_eq_true h4,Bool.true_and,hd] at hst
     repeat (first|refine QG ?_|refine QY ?_ (r:=by conv=>lhs;simp[-List.map_set,QV,hkt,hkm,hx,ht,h0,h1',hnt,htt,h2,h1,hdx,hb0,h4']))
     refine QA [] (h:=⟨?_,k+1,hkt,rfl,hst.symm,by simp [hw],by simp⟩)
     omega
    ·have h4':pos≤dp:=by omega
     rw [decide_eq_false h4,Bool.false_and,hd] at hst
     repeat (first|refine QG ?_|refine QY ?_ (r:=by conv=>lhs;simp[-List.map_set,QV,hkt,hkm,hx,ht,h0,h1',hnt,htt,h2,h1,hdx,hb0,h4']))
     rw [hst]
     exact ja hwf rfl rfl
   ·rw [if_neg h3] at hst
    have cd:=RDominates_v near db block hnl
    generalize G.dominates near db block=y at *
    repeat (first|refine QG ?_|refine QY ?_ (r:=by conv=>lhs;simp[-List.map_set,QV,hkt,hkm,hx,ht,h0,h1',hnt,htt,h2,h1,hdx,hb0,h3]))
    repeat refine QS ?_
    refine QD (r:=by conv=>lhs;simp[-List.map_set,QV,hkt,hkm,hx,ht,h0,h1',hnt,htt,h2,h1,hdx,hb0,h3]) (k:=?_)
    refine jc (cd) (by rfl) ?_
    by_cases hy:y=true
    ·rw [hy,Bool.true_and,hd] at hst
     refine QM (by conv=>lhs;simp[-List.map_set,QV,hy]) ?_
     refine QN ?_
     repeat (first|refine QG ?_|refine QY ?_)
     refine QA [] (h:=⟨?_,k+1,hkt,rfl,hst.symm,by simp [hw],by simp⟩)
     omega
    ·have hy':y=false:=by simpa using hy
     rw [hy',Bool.false_and,hd] at hst
     refine QM (by conv=>lhs;simp[-List.map_set,QV,hy']) ?_
     refine QN ?_
     repeat (first|refine QG ?_|refine QY ?_)
     rw [hst]
     exact ja hwf rfl rfl
end Go.Vw

namespace Ss
def rin (op a b:Int):Bool:=decide (a≤op)&&decide (op≤b)
def rof (op:Int):Int :=
 if rin op 69 79∨rin op 103 120∨op=172∨op=173∨op=192∨op=193 then 127
 else if rin op 80 90∨rin op 121 138∨op=167∨rin op 194 196 then 126 else 0
def runary (op:Int):Bool:=decide (op=69)||(decide (op=80)||(rin op 103 105||(rin op 121 123||decide (167≤op))))
def rsigT (op:Int):Int:=if op=172∨op=173 then 126 else if rin op 69 90∨op=167 then 127 else rof op
def rsig (op:Int):List Int × Int × Bool :=
 if rof op=0 then ([],0,false) else (if runary op then [rof op] else [rof op,rof op],rsigT op,true)
theorem rsig_small : ∀ n:Nat,n<256→rsig (n:Int)=numSig (n:Int):=by decide +kernel
theorem rsig_eq (op:Int):rsig op=numSig op:=by
 by_cases h:0≤op∧op<256
 ·obtain ⟨n,rfl⟩:=Int.eq_ofNat_of_zero_le h.1
  exact rsig_small n (by have:=h.2; omega)
 ·have h1:rof op=0:=by
   unfold rof
   rw [if_neg (by simp only [rin,Bool.and_eq_true,decide_eq_true_eq]; omega),if_neg (by simp only [rin,Bool.and_eq_true,decide_eq_true_eq]; omega)]
  have h2:find op=none:=by
   cases hf:find op with
   | none=>rfl
   | some g =>
    exfalso
    obtain ⟨hm,hh⟩:=jaR hf
    have ha : ∀ g∈groups,0≤g.first∧g.first+g.many≤256:=by decide +kernel
    have:=ha g hm
    simp only [Grp.has,Bool.and_eq_true,decide_eq_true_eq] at hh
    omega
  simp [rsig,h1,numSig,h2]
end Ss
namespace Go.Vw
open Go.Proofs Go.RowKit
set_option maxRecDepth 10000
set_option maxHeartbeats 2000000
theorem in_v (op a b:Int):VPure Tryz.prog 126 [vint op,vint a,vint b] (.bool (Ss.rin op a b)):=by
 intro S
 by_cases h:a≤op
 ·have hX:Ss.rin op a b=decide (op≤b):=by simp [Ss.rin,h]
  rw [hX]
  refine jb (c:=jf Tryz.f126) Tryz.func126 rfl rfl (by simp [Tryz.ntmps126]) ?_
  rw [Tryz.ntmps126]
  intro hwf
  repeat (first|refine QG ?_|refine QY ?_ (r:=by conv=>lhs;simp[-List.map_set,QV,h]))
  exact ja hwf (by simp) rfl
 ·have hX:Ss.rin op a b=false:=by simp [Ss.rin,h]
  rw [hX]
  refine jb (c:=jf Tryz.f126) Tryz.func126 rfl rfl (by simp [Tryz.ntmps126]) ?_
  rw [Tryz.ntmps126]
  intro hwf
  repeat (first|refine QG ?_|refine QY ?_ (r:=by conv=>lhs;simp[-List.map_set,QV,h]))
  exact ja hwf (by simp) rfl
theorem Fits_v (t n:Int):VPure Tryz.prog 91 [vint t,vu n] (.bool (decide (t=126)||(decide (t=127)&&decide (n<4294967296)))):=by
 intro S
 refine jb (c:=jf Tryz.f91) Tryz.func91 rfl rfl (by simp [Tryz.ntmps91]) ?_
 rw [Tryz.ntmps91]
 intro hwf
 by_cases h:t=126
 ·repeat (first|refine QG ?_|refine QY ?_ (r:=by conv=>lhs;simp[-List.map_set,QV,h]))
  exact ja hwf (by simp [h]) rfl
 by_cases h2:t=127
 ·repeat (first|refine QG ?_|refine QY ?_ (r:=by conv=>lhs;simp[-List.map_set,QV,h,h2]))
  exact ja hwf (by simp [h,h2]) rfl
 ·repeat (first|refine QG ?_|refine QY ?_ (r:=by conv=>lhs;simp[-List.map_set,QV,h,h2]))
  exact ja hwf (by simp [h,h2]) rfl
theorem Of_v (op:Int):VPure Tryz.prog 125 [vint op] (vint (Ss.rof op)):=by
 intro S
 have c1:VPure Tryz.prog 126 [vint op, .int .i64 69, .int .i64 79] (.bool (Ss.rin op 69 79)):=in_v op 69 79
 have c2:VPure Tryz.prog 126 [vint op, .int .i64 103, .int .i64 120] (.bool (Ss.rin op 103 120)):=in_v op 103 120
 have c3:VPure Tryz.prog 126 [vint op, .int .i64 80, .int .i64 90] (.bool (Ss.rin op 80 90)):=in_v op 80 90
 have c4:VPure Tryz.prog 126 [vint op, .int .i64 121, .int .i64 138] (.bool (Ss.rin op 121 138)):=in_v op 121 138
 have c5:VPure Tryz.prog 126 [vint op, .int .i64 194, .int .i64 196] (.bool (Ss.rin op 194 196)):=in_v op 194 196
 have hX:Ss.rof op=if Ss.rin op 69 79∨Ss.rin op 103 120∨op=172∨op=173∨op=192∨op=193 then 127
  else if Ss.rin op 80 90∨Ss.rin op 121 138∨op=167∨Ss.rin op 194 196 then 126 else 0:=rfl
 rw [hX]
 generalize Ss.rin op 69 79=x1 at *
 generalize Ss.rin op 103 120=x2 at *
 generalize Ss.rin op 80 90=x3 at *
 generalize Ss.rin op 121 138=x4 at *
 generalize Ss.rin op 194 196=x5 at *
 clear hX
 refine jb (c:=jf Tryz.f125) Tryz.func125 rfl rfl (by simp [Tryz.ntmps125]) ?_
 rw [Tryz.ntmps125]
 intro hwf
 repeat (first|refine QG ?_|refine QY ?_)
 repeat refine QS ?_
 refine QP ?_
 refine jc (c1) (by rfl) ?_
 by_cases h1:x1=true
 ·refine QM (by conv=>lhs;simp[-List.map_set,QV,h1]) ?_
  refine QN ?_
  repeat (first|refine QG ?_|refine QY ?_)
  exact ja hwf (by simp [h1]) rfl
 have g1:x1=false:=by simpa using h1
 refine QM (by conv=>lhs;simp[-List.map_set,QV,g1]) ?_
 refine jc (c2) (by rfl) ?_
 by_cases h2:x2=true
 ·refine QM (by conv=>lhs;simp[-List.map_set,QV,h2]) ?_
  refine QN ?_
  repeat (first|refine QG ?_|refine QY ?_)
  exact ja hwf (by simp [h2]) rfl
 have g2:x2=false:=by simpa using h2
 by_cases k1:op=172
 ·refine QM (by conv=>lhs;simp[-List.map_set,QV,g2,k1]) ?_
  refine QN ?_
  repeat (first|refine QG ?_|refine QY ?_)
  exact ja hwf (by simp [k1]) rfl
 by_cases k2:op=173
 ·refine QM (by conv=>lhs;simp[-List.map_set,QV,g2,k1,k2]) ?_
  refine QN ?_
  repeat (first|refine QG ?_|refine QY ?_)
  exact ja hwf (by simp [k2]) rfl
 by_cases k3:op=192
 ·refine QM (by conv=>lhs;simp[-List.map_set,QV,g2,k1,k2,k3]) ?_
  refine QN ?_
  repeat (first|refine QG ?_|refine QY ?_)
  exact ja hwf (by simp [k3]) rfl
 by_cases k4:op=193
 ·refine QM (by conv=>lhs;simp[-List.map_set,QV,g2,k1,k2,k3,k4]) ?_
  refine QN ?_
  repeat (first|refine QG ?_|refine QY ?_)
  exact ja hwf (by simp [k4]) rfl
 rw [if_neg (by simp [g1,g2,k1,k2,k3,k4])]
 refine QM (by conv=>lhs;simp[-List.map_set,QV,g2,k1,k2,k3,k4]) ?_
 refine QN ?_
 repeat (first|refine QG ?_|refine QY ?_)
 repeat refine QS ?_
 refine QP ?_
 refine jc (c3) (by rfl) ?_
 by_cases h3:x3=true
 ·refine QM (by conv=>lhs;simp[-List.map_set,QV,h3]) ?_
  refine QN ?_
  repeat (first|refine QG ?_|refine QY ?_)
  exact ja hwf (by simp [h3]) rfl
 have g3:x3=false:=by simpa using h3
 refine QM (by conv=>lhs;simp[-List.map_set,QV,g3]) ?_
 refine jc (c4) (by rfl) ?_
 by_cases h4:x4=true
 ·refine QM (by conv=>lhs;simp[-List.map_set,QV,h4]) ?_
  refine QN ?_
  repeat (first|refine QG ?_|refine QY ?_)
  exact ja hwf (by simp [h4]) rfl
 have g4:x4=false:=by simpa using h4
 by_cases k5:op=167
 ·refine QM (by conv=>lhs;simp[-List.map_set,QV,g4,k5]) ?_
  refine QN ?_
  repeat (first|refine QG ?_|refine QY ?_)
  exact ja hwf (by simp [k5]) rfl
 refine QM (by conv=>lhs;simp[-List.map_set,QV,g4,k5]) ?_
 refine jc (c5) (by rfl) ?_
 by_cases h5:x5=true
 ·refine QM (by conv=>lhs;simp[-List.map_set,QV,h5]) ?_
  refine QN ?_
  repeat (first|refine QG ?_|refine QY ?_)
  exact ja hwf (by simp [h5]) rfl
 have g5:x5=false:=by simpa using h5
 refine QM (by conv=>lhs;simp[-List.map_set,QV,g5]) ?_
 refine QN ?_
 repeat (first|refine QG ?_|refine QY ?_)
 exact ja hwf (by simp [g3,g4,k5,g5]) rfl
theorem Unary_v (op:Int):VPure Tryz.prog 141 [vint op] (.bool (Ss.runary op)):=by
 intro S
 have c1:VPure Tryz.prog 126 [vint op, .int .i64 103, .int .i64 105] (.bool (Ss.rin op 103 105)):=in_v op 103 105
 have c2:VPure Tryz.prog 126 [vint op, .int .i64 121, .int .i64 123] (.bool (Ss.rin op 121 123)):=in_v op 121 123
 have hX:Ss.runary op=(decide (op=69)||(decide (op=80)||(Ss.rin op 103 105||(Ss.rin op 121 123||decide (167≤op))))):=rfl
 rw [hX]
 generalize Ss.rin op 103 105=x1 at *
 generalize Ss.rin op 121 123=x2 at *
 refine jb (c:=jf Tryz.f141) Tryz.func141 rfl rfl (by simp [Tryz.ntmps141]) ?_
 rw [Tryz.ntmps141]
 intro hwf
 by_cases k1:op=69
 ·repeat (first|refine QG ?_|refine QY ?_ (r:=by conv=>lhs;simp[-List.map_set,QV,k1]))
  exact ja hwf (by simp [k1]) rfl
 by_cases k2:op=80
 ·repeat (first|refine QG ?_|refine QY ?_ (r:=by conv=>lhs;simp[-List.map_set,QV,k1,k2]))
  exact ja hwf (by simp [k2]) rfl
 repeat (first|refine QG ?_|refine QY ?_)
 repeat refine QS ?_
 refine QP ?_ (r:=by conv=>lhs;simp[-List.map_set,QV,k1,k2])
 refine jc (c1) (by rfl) ?_
 by_cases h1:x1=true
 ·refine QM (by conv=>lhs;simp[-List.map_set,QV,h1]) ?_
  refine QN ?_
  repeat (first|refine QG ?_|refine QY ?_)
  exact ja hwf (by simp [h1]) rfl
 have g1:x1=false:=by simpa using h1
 refine QM (by conv=>lhs;simp[-List.map_set,QV,g1]) ?_
 refine jc (c2) (by rfl) ?_
 by_cases h2:x2=true
 ·refine QM (by conv=>lhs;simp[-List.map_set,QV,h2]) ?_
  refine QN ?_
  repeat (first|refine QG ?_|refine QY ?_)
  exact ja hwf (by simp [h2]) rfl
 have g2:x2=false:=by simpa using h2
 refine QM (by conv=>lhs;simp[-List.map_set,QV,g2]) ?_
 refine QN ?_
 repeat (first|refine QG ?_|refine QY ?_)
 exact ja hwf (by simp [k1,k2,g1,g2]) rfl
theorem RNumSig_v (op:Int):VPure Tryz.prog 119 [vint op] (.tuple [vl vint (Ss.numSig op).1,vint (Ss.numSig op).2.1, .bool (Ss.numSig op).2.2]):=by
 intro S
 rw [←Ss.rsig_eq op]
 have c1:=Of_v op
 have c2:=Unary_v op
 have c3:VPure Tryz.prog 126 [vint op, .int .i64 69, .int .i64 90] (.bool (Ss.rin op 69 90)):=in_v op 69 90
 have hX:Ss.rsig op=if Ss.rof op=0 then ([],0,false) else (if Ss.runary op then [Ss.rof op] else [Ss.rof op,Ss.rof op],if op=172∨op=173 then 126 else if Ss.rin op 69 90∨op=167 then 127 else Ss.rof op,true):=rfl
 rw [hX]
 generalize Ss.rof op=t at *
 generalize Ss.runary op=un at *
 generalize Ss.rin op 69 90=x at *
 clear hX
 refine jb (c:=jf Tryz.f119) Tryz.func119 rfl rfl (by simp [Tryz.ntmps119]) ?_
 rw [Tryz.ntmps119]
 intro hwf
 repeat (first|refine QG ?_|refine QY ?_)
 repeat refine QS ?_
 refine QP ?_
 refine jc (c1) (by rfl) ?_
 by_cases ht:t=0
 ·refine QM (by conv=>lhs;simp[-List.map_set,QV]) ?_
  refine QN ?_
  repeat (first|refine QG ?_|refine QY ?_ (r:=by conv=>lhs;simp[-List.map_set,QV,ht]))
  rw [if_pos ht]
  exact jh (l:=[]) hwf (Ghost.toB (Ghost.tuple [] [_,_] (Ghost.nils_list _)) _) rfl
 rw [if_neg ht]
 refine QM (by conv=>lhs;simp[-List.map_set,QV]) ?_
 refine QN ?_
 repeat (first|refine QG ?_|refine QY ?_ (r:=by conv=>lhs;simp[-List.map_set,QV,ht]))
 repeat refine QS ?_
 refine QP ?_
 refine jc (c2) (by rfl) ?_
 obtain ⟨r,hr⟩ : ∃ r,(if op=172∨op=173 then 126 else if x∨op=167 then 127 else t)=r:=⟨_,rfl⟩
 simp only [hr]
 by_cases hu:un=true
 ·rw [if_pos hu]
  refine QM (by conv=>lhs;simp[-List.map_set,QV,hu]) ?_
  refine QN ?_
  repeat (first|refine QG ?_|refine QY ?_ (r:=by conv=>lhs;simp[-List.map_set,QV,hu]))
  refine vw_trim 6 1 rfl (by simp) rfl (by conv=>lhs; simp [List.set_cons_zero,List.set_cons_succ]) ?_
  repeat refine QS ?_
  refine QP ?_
  refine jc (c3) (by rfl) ?_
  by_cases hx:x=true
  ·skip
   refine QM (by conv=>lhs;simp[-List.map_set,QV,hx]) ?_
   refine QN ?_
   by_cases k1:op=172
   ·obtain rfl:r=126:=by rw [←hr]; simp [k1]
    repeat (first|refine QG ?_|refine QY ?_ (r:=by conv=>lhs;simp[-List.map_set,QV,hx,k1]))
    exact jh hwf ((Ghost.tuple [] [_,_] (frz1 (k:=0) (by simp) (by rfl) (by rfl) (by rfl))).toB _) rfl
   by_cases k2:op=173
   ·obtain rfl:r=126:=by rw [←hr]; simp [k2]
    repeat (first|refine QG ?_|refine QY ?_ (r:=by conv=>lhs;simp[-List.map_set,QV,hx,k1,k2]))
    exact jh hwf ((Ghost.tuple [] [_,_] (frz1 (k:=0) (by simp) (by rfl) (by rfl) (by rfl))).toB _) rfl
   obtain rfl:r=127:=by rw [←hr]; simp [k1,k2,hx]
   repeat (first|refine QG ?_|refine QY ?_ (r:=by conv=>lhs;simp[-List.map_set,QV,hx,k1,k2]))
   exact jh hwf ((Ghost.tuple [] [_,_] (frz1 (k:=0) (by simp) (by rfl) (by rfl) (by rfl))).toB _) rfl
  have hx':x=false:=by simpa using hx
  by_cases hq:op=167
  ·skip
   refine QM (by conv=>lhs;simp[-List.map_set,QV,hx',hq]) ?_
   refine QN ?_
   have k1 : ¬ op=172:=by omega
   have k2 : ¬ op=173:=by omega
   obtain rfl:r=127:=by rw [←hr]; simp [k1,k2,hq]
   repeat (first|refine QG ?_|refine QY ?_ (r:=by conv=>lhs;simp[-List.map_set,QV,hx',hq,k1,k2]))
   exact jh hwf ((Ghost.tuple [] [_,_] (frz1 (k:=0) (by simp) (by rfl) (by rfl) (by rfl))).toB _) rfl
  refine QM (by conv=>lhs;simp[-List.map_set,QV,hx',hq]) ?_
  refine QN ?_
  by_cases k1:op=172
  ·obtain rfl:r=126:=by rw [←hr]; simp [k1]
   repeat (first|refine QG ?_|refine QY ?_ (r:=by conv=>lhs;simp[-List.map_set,QV,hx',hq,k1]))
   exact jh hwf ((Ghost.tuple [] [_,_] (frz1 (k:=0) (by simp) (by rfl) (by rfl) (by rfl))).toB _) rfl
  by_cases k2:op=173
  ·obtain rfl:r=126:=by rw [←hr]; simp [k2]
   repeat (first|refine QG ?_|refine QY ?_ (r:=by conv=>lhs;simp[-List.map_set,QV,hx',hq,k1,k2]))
   exact jh hwf ((Ghost.tuple [] [_,_] (frz1 (k:=0) (by simp) (by rfl) (by rfl) (by rfl))).toB _) rfl
  obtain rfl:r=t:=by rw [←hr]; simp [k1,k2,hx',hq]
  repeat (first|refine QG ?_|refine QY ?_ (r:=by conv=>lhs;simp[-List.map_set,QV,hx',hq,k1,k2]))
  exact jh hwf ((Ghost.tuple [] [_,_] (frz1 (k:=0) (by simp) (by rfl) (by rfl) (by rfl))).toB _) rfl
 ·replace hu:un=false:=by simpa using hu
  rw [if_neg (by simp [hu])]
  refine QM (by conv=>lhs;simp[-List.map_set,QV,hu]) ?_
  refine QN ?_
  repeat (first|refine QG ?_|refine QY ?_ (r:=by conv=>lhs;simp[-List.map_set,QV,hu]))
  repeat refine QS ?_
  refine QP ?_
  refine jc (c3) (by rfl) ?_
  by_cases hx:x=true
  ·skip
   refine QM (by conv=>lhs;simp[-List.map_set,QV,hx]) ?_
   refine QN ?_
   by_cases k1:op=172
   ·obtain rfl:r=126:=by rw [←hr]; simp [k1]
    repeat (first|refine QG ?_|refine QY ?_ (r:=by conv=>lhs;simp[-List.map_set,QV,hx,k1]))
    exact jh hwf ((Ghost.tuple [] [_,_] (frz1 (k:=0) (by simp) (by rfl) (by rfl) (by rfl))).toB _) rfl
   by_cases k2:op=173
   ·obtain rfl:r=126:=by rw [←hr]; simp [k2]
    repeat (first|refine QG ?_|refine QY ?_ (r:=by conv=>lhs;simp[-List.map_set,QV,hx,k1,k2]))
    exact jh hwf ((Ghost.tuple [] [_,_] (frz1 (k:=0) (by simp) (by rfl) (by rfl) (by rfl))).toB _) rfl
   obtain rfl:r=127:=by rw [←hr]; simp [k1,k2,hx]
   repeat (first|refine QG ?_|refine QY ?_ (r:=by conv=>lhs;simp[-List.map_set,QV,hx,k1,k2]))
   exact jh hwf ((Ghost.tuple [] [_,_] (frz1 (k:=0) (by simp) (by rfl) (by rfl) (by rfl))).toB _) rfl
  have hx':x=false:=by simpa using hx
  by_cases hq:op=167
  ·skip
   refine QM (by conv=>lhs;simp[-List.map_set,QV,hx',hq]) ?_
   refine QN ?_
   have k1 : ¬ op=172:=by omega
   have k2 : ¬ op=173:=by omega
   obtain rfl:r=127:=by rw [←hr]; simp [k1,k2,hq]
   repeat (first|refine QG ?_|refine QY ?_ (r:=by conv=>lhs;simp[-List.map_set,QV,hx',hq,k1,k2]))
   exact jh hwf ((Ghost.tuple [] [_,_] (frz1 (k:=0) (by simp) (by rfl) (by rfl) (by rfl))).toB _) rfl
  refine QM (by conv=>lhs;simp[-List.map_set,QV,hx',hq]) ?_
  refine QN ?_
  by_cases k1:op=172
  ·obtain rfl:r=126:=by rw [←hr]; simp [k1]
   repeat (first|refine QG ?_|refine QY ?_ (r:=by conv=>lhs;simp[-List.map_set,QV,hx',hq,k1]))
   exact jh hwf ((Ghost.tuple [] [_,_] (frz1 (k:=0) (by simp) (by rfl) (by rfl) (by rfl))).toB _) rfl
  by_cases k2:op=173
  ·obtain rfl:r=126:=by rw [←hr]; simp [k2]
   repeat (first|refine QG ?_|refine QY ?_ (r:=by conv=>lhs;simp[-List.map_set,QV,hx',hq,k1,k2]))
   exact jh hwf ((Ghost.tuple [] [_,_] (frz1 (k:=0) (by simp) (by rfl) (by rfl) (by rfl))).toB _) rfl
  obtain rfl:r=t:=by rw [←hr]; simp [k1,k2,hx',hq]
  repeat (first|refine QG ?_|refine QY ?_ (r:=by conv=>lhs;simp[-List.map_set,QV,hx',hq,k1,k2]))
  exact jh hwf ((Ghost.tuple [] [_,_] (frz1 (k:=0) (by simp) (by rfl) (by rfl) (by rfl))).toB _) rfl
end Go.Vw

namespace Go.Vw
open Go.Proofs Go.RowKit
set_option maxRecDepth 10000
set_option maxHeartbeats 4000000
theorem RAccess_v (op:Int):VPure Tryz.prog 120 [vint op] (.tuple [vint ((Ss.accOf op).getD ⟨0,0,false,false⟩).kind,vint ((Ss.accOf op).getD ⟨0,0,false,false⟩).width, .bool ((Ss.accOf op).getD ⟨0,0,false,false⟩).store, .bool (Ss.accOf op).isSome]):=by
 intro S
 by_cases h:op=40∨op=41∨op=44∨op=45∨op=46∨op=47∨op=48∨op=49∨op=50∨op=51∨op=52∨op=53∨op=54∨op=55∨op=58∨op=59∨op=60∨op=61∨op=62
 ·refine jb (c:=jf Tryz.f120) Tryz.func120 rfl rfl (by simp [Tryz.ntmps120]) ?_
  rw [Tryz.ntmps120]
  intro hwf
  rcases h with rfl | rfl | rfl | rfl | rfl | rfl | rfl | rfl | rfl | rfl | rfl | rfl | rfl | rfl | rfl | rfl | rfl | rfl | rfl
  all_goals
   repeat (first|refine QG ?_|refine QY ?_)
   exact ja hwf rfl rfl
 ·simp only [not_or] at h
  obtain ⟨h1,h2,h3,h4,h5,h6,h7,h8,h9,h10,h11,h12,h13,h14,h15,h16,h17,h18,h19⟩:=h
  have hn:Ss.accOf op=none:=by simp [Ss.accOf,Ss.accL,Ss.findK,h1,h2,h3,h4,h5,h6,h7,h8,h9,h10,h11,h12,h13,h14,h15,h16,h17,h18,h19]
  rw [hn]
  refine jb (c:=jf Tryz.f120) Tryz.func120 rfl rfl (by simp [Tryz.ntmps120]) ?_
  rw [Tryz.ntmps120]
  intro hwf
  repeat (first|refine QG ?_|refine QY ?_ (r:=by conv=>lhs;simp[-List.map_set,QV,h1,h2,h3,h4,h5,h6,h7,h8,h9,h10,h11,h12,h13,h14,h15,h16,h17,h18,h19]))
  exact ja hwf rfl rfl
end Go.Vw
