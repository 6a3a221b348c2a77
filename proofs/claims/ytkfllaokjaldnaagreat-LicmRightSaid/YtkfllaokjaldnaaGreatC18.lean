import Derived.Test.YtkfllaokjaldnaaGreatC11
import Derived.Test.YtkfllaokjaldnaaGreatProg
import Derived.Test.YtkfllaokjaldnaaGreatC12
import Derived.Test.YtkfllaokjaldnaaGreatC14
/-
  Part of the proof (texts SIdx, SKinds, SEqF, SAsk).
-/
set_option linter.unusedVariables false
set_option linter.unusedSimpArgs false
namespace Go.Vw
open Go.Proofs Go.RowKit
set_option maxRecDepth 10000
set_option maxHeartbeats 4000000
def ql {α:Type} (p:α→Bool):List α→Nat→Int
 | [],_ => -1
 | x::xs,k=>if p x then (k:Int) else ql p xs (k+1)
theorem zL {α:Type} (p:α→Bool) : ∀ (l:List α) (k:Nat),decide (0≤ql p l k)=l.any p
 | [],k=>by simp [ql]
 | x::xs,k=>by
   cases h:p x
   ·simp [ql,h,zL p xs (k+1)]
   ·simp [ql,h]
def eqF {α:Type} (p:α→α→Bool):List α→List α→Bool
 | [],[]=>true
 | x::xs,y::ys=>p x y&&eqF p xs ys
 | _,_=>false
theorem eqF_len {α:Type} {p:α→α→Bool} : ∀ {l m:List α}, ¬ l.length=m.length→eqF p l m=false
 | [],[],h=>absurd rfl h
 | [],_::_,_=>rfl
 | _::_,[],_=>rfl
 | x::xs,y::ys,h=>by rw [eqF,eqF_len (l:=xs) (m:=ys) (by simpa using h)]; simp
theorem eqF_eq {α:Type} [DecidableEq α] {p:α→α→Bool} (hp : ∀ x y,p x y=decide (x=y)) : ∀ (l m:List α),eqF p l m=decide (l=m)
 | [],[]=>by simp [eqF]
 | [],_::_=>by simp [eqF]
 | _::_,[]=>by simp [eqF]
 | x::xs,y::ys=>by rw [eqF,hp,eqF_eq hp xs ys]; simp
theorem IndexL_v (l:List (List Int)) (p:List Int→Bool) (fid:FuncId) (caps:List V) (hc:jR Tryz.prog fid=true) (hl:l.length<2^63) (h : ∀ x∈l,VPure Tryz.prog fid ([vl vint x]++caps) (.bool (p x))) :
  VPure Tryz.prog 144 [vl (vl vint) l, .func fid caps] (vint (ql p l 0)):=by
 intro S
 refine jb (c:=jf Tryz.f144) Tryz.func144 rfl rfl (by simp [Tryz.ntmps144]) ?_
 rw [Tryz.ntmps144]
 intro hwf
 repeat (first|refine QG ?_|refine QY ?_)
 repeat refine QS ?_
 refine je [0,1,7,8] rfl (fun c σ S' => ∃ (k:Nat),k≤l.length∧c=l.length-k∧ql p (l.drop k) k=ql p l 0∧σ=[(0,vl (vl vint) l),(1, .func fid caps),(7,vnat l.length),(8,vnat k)]∧S'=St S [] []) l.length ?_ ?_
 ·exact ⟨0,by omega,rfl,rfl,by simp [Fr.only],rfl⟩
 ·rintro c σ T ⟨k,hk,rfl,hd,rfl,rfl⟩
  by_cases hkt:k<l.length
  ·have hst:ql p (l.drop k) k=if p l[k] then (k:Int) else ql p (l.drop (k+1)) (k+1):=by rw [List.drop_eq_getElem_cons hkt,ql]
   have hw:=jo hkt hl
   repeat (first|refine QG ?_|refine QY ?_ (r:=by conv=>lhs;simp[-List.map_set,QV,hkt]))
   repeat refine QS ?_
   refine QP ?_ (r:=by conv=>lhs;simp[-List.map_set,QV,hkt])
   refine qM rfl hc rfl (h _ (List.getElem_mem hkt)) ?_
   refine QM (by conv=>lhs;simp[-List.map_set,QV]) ?_
   refine QN ?_
   cases hp:p l[k] with
   | true =>
    rw [hp] at hst
    repeat (first|refine QG ?_|refine QY ?_ (r:=by conv=>lhs;simp[-List.map_set,QV,hp]))
    exact ja hwf (by rw [←hd,hst]; rfl) rfl
   | false =>
    rw [hp] at hst
    repeat (first|refine QG ?_|refine QY ?_ (r:=by conv=>lhs;simp[-List.map_set,QV,hp]))
    show jy _ _ _ _ _ _ _
    exact again ⟨Nat.sub_lt_sub_left hkt (Nat.lt_succ_self k),k+1,hkt,rfl,by rw [←hd,hst]; rfl,by simp [Fr.only,hw],rfl⟩
  ·have e:l.drop k=[]:=by rw [List.drop_eq_nil_iff]; omega
   rw [e] at hd
   repeat (first|refine QG ?_|refine QY ?_ (r:=by conv=>lhs;simp[-List.map_set,QV,hkt]))
   exact ja hwf (by rw [←hd]; rfl) rfl
theorem AnyL_v (l:List (List Int)) (p:List Int→Bool) (fid:FuncId) (caps:List V) (hc:jR Tryz.prog fid=true) (hl:l.length<2^63) (h : ∀ x∈l,VPure Tryz.prog fid ([vl vint x]++caps) (.bool (p x))) :
  VPure Tryz.prog 128 [vl (vl vint) l, .func fid caps] (.bool (l.any p)):=by
 intro S
 refine jb (c:=jf Tryz.f128) Tryz.func128 rfl rfl (by simp [Tryz.ntmps128]) ?_
 rw [Tryz.ntmps128]
 intro hwf
 rw [←zL p l 0]
 repeat (first|refine QG ?_|refine QY ?_)
 repeat refine QS ?_
 refine QP ?_
 refine jn rfl (IndexL_v l p fid caps hc hl h) ?_
 refine QM (by conv=>lhs;simp[-List.map_set,QV]) ?_
 refine QN ?_
 repeat (first|refine QG ?_|refine QY ?_)
 exact ja hwf rfl rfl
theorem IndexI_v (l:List (Int)) (p:Int→Bool) (fid:FuncId) (caps:List V) (hc:jR Tryz.prog fid=true) (hl:l.length<2^63) (h : ∀ x∈l,VPure Tryz.prog fid ([vint x]++caps) (.bool (p x))) :
  VPure Tryz.prog 84 [vl (vint) l, .func fid caps] (vint (ql p l 0)):=by
 intro S
 refine jb (c:=jf Tryz.f84) Tryz.func84 rfl rfl (by simp [Tryz.ntmps84]) ?_
 rw [Tryz.ntmps84]
 intro hwf
 repeat (first|refine QG ?_|refine QY ?_)
 repeat refine QS ?_
 refine je [0,1,7,8] rfl (fun c σ S' => ∃ (k:Nat),k≤l.length∧c=l.length-k∧ql p (l.drop k) k=ql p l 0∧σ=[(0,vl (vint) l),(1, .func fid caps),(7,vnat l.length),(8,vnat k)]∧S'=St S [] []) l.length ?_ ?_
 ·exact ⟨0,by omega,rfl,rfl,by simp [Fr.only],rfl⟩
 ·rintro c σ T ⟨k,hk,rfl,hd,rfl,rfl⟩
  by_cases hkt:k<l.length
  ·have hst:ql p (l.drop k) k=if p l[k] then (k:Int) else ql p (l.drop (k+1)) (k+1):=by rw [List.drop_eq_getElem_cons hkt,ql]
   have hw:=jo hkt hl
   repeat (first|refine QG ?_|refine QY ?_ (r:=by conv=>lhs;simp[-List.map_set,QV,hkt]))
   repeat refine QS ?_
   refine QP ?_ (r:=by conv=>lhs;simp[-List.map_set,QV,hkt])
   refine qM rfl hc rfl (h _ (List.getElem_mem hkt)) ?_
   refine QM (by conv=>lhs;simp[-List.map_set,QV]) ?_
   refine QN ?_
   cases hp:p l[k] with
   | true =>
    rw [hp] at hst
    repeat (first|refine QG ?_|refine QY ?_ (r:=by conv=>lhs;simp[-List.map_set,QV,hp]))
    exact ja hwf (by rw [←hd,hst]; rfl) rfl
   | false =>
    rw [hp] at hst
    repeat (first|refine QG ?_|refine QY ?_ (r:=by conv=>lhs;simp[-List.map_set,QV,hp]))
    show jy _ _ _ _ _ _ _
    exact again ⟨Nat.sub_lt_sub_left hkt (Nat.lt_succ_self k),k+1,hkt,rfl,by rw [←hd,hst]; rfl,by simp [Fr.only,hw],rfl⟩
  ·have e:l.drop k=[]:=by rw [List.drop_eq_nil_iff]; omega
   rw [e] at hd
   repeat (first|refine QG ?_|refine QY ?_ (r:=by conv=>lhs;simp[-List.map_set,QV,hkt]))
   exact ja hwf (by rw [←hd]; rfl) rfl
theorem AnyI_v (l:List (Int)) (p:Int→Bool) (fid:FuncId) (caps:List V) (hc:jR Tryz.prog fid=true) (hl:l.length<2^63) (h : ∀ x∈l,VPure Tryz.prog fid ([vint x]++caps) (.bool (p x))) :
  VPure Tryz.prog 32 [vl (vint) l, .func fid caps] (.bool (l.any p)):=by
 intro S
 refine jb (c:=jf Tryz.f32) Tryz.func32 rfl rfl (by simp [Tryz.ntmps32]) ?_
 rw [Tryz.ntmps32]
 intro hwf
 rw [←zL p l 0]
 repeat (first|refine QG ?_|refine QY ?_)
 repeat refine QS ?_
 refine QP ?_
 refine jn rfl (IndexI_v l p fid caps hc hl h) ?_
 refine QM (by conv=>lhs;simp[-List.map_set,QV]) ?_
 refine QN ?_
 repeat (first|refine QG ?_|refine QY ?_)
 exact ja hwf rfl rfl
theorem IndexB_v (l:List (Ss.Block)) (p:Ss.Block→Bool) (fid:FuncId) (caps:List V) (hc:jR Tryz.prog fid=true) (hl:l.length<2^63) (h : ∀ x∈l,VPure Tryz.prog fid ([jd x]++caps) (.bool (p x))) :
  VPure Tryz.prog 102 [vl (jd) l, .func fid caps] (vint (ql p l 0)):=by
 intro S
 refine jb (c:=jf Tryz.f102) Tryz.func102 rfl rfl (by simp [Tryz.ntmps102]) ?_
 rw [Tryz.ntmps102]
 intro hwf
 repeat (first|refine QG ?_|refine QY ?_)
 repeat refine QS ?_
 refine je [0,1,7,8] rfl (fun c σ S' => ∃ (k:Nat),k≤l.length∧c=l.length-k∧ql p (l.drop k) k=ql p l 0∧σ=[(0,vl (jd) l),(1, .func fid caps),(7,vnat l.length),(8,vnat k)]∧S'=St S [] []) l.length ?_ ?_
 ·exact ⟨0,by omega,rfl,rfl,by simp [Fr.only],rfl⟩
 ·rintro c σ T ⟨k,hk,rfl,hd,rfl,rfl⟩
  by_cases hkt:k<l.length
  ·have hst:ql p (l.drop k) k=if p l[k] then (k:Int) else ql p (l.drop (k+1)) (k+1):=by rw [List.drop_eq_getElem_cons hkt,ql]
   have hw:=jo hkt hl
   repeat (first|refine QG ?_|refine QY ?_ (r:=by conv=>lhs;simp[-List.map_set,QV,hkt]))
   repeat refine QS ?_
   refine QP ?_ (r:=by conv=>lhs;simp[-List.map_set,QV,hkt])
   refine qM rfl hc rfl (h _ (List.getElem_mem hkt)) ?_
   refine QM (by conv=>lhs;simp[-List.map_set,QV]) ?_
   refine QN ?_
   cases hp:p l[k] with
   | true =>
    rw [hp] at hst
    repeat (first|refine QG ?_|refine QY ?_ (r:=by conv=>lhs;simp[-List.map_set,QV,hp]))
    exact ja hwf (by rw [←hd,hst]; rfl) rfl
   | false =>
    rw [hp] at hst
    repeat (first|refine QG ?_|refine QY ?_ (r:=by conv=>lhs;simp[-List.map_set,QV,hp]))
    show jy _ _ _ _ _ _ _
    exact again ⟨Nat.sub_lt_sub_left hkt (Nat.lt_succ_self k),k+1,hkt,rfl,by rw [←hd,hst]; rfl,by simp [Fr.only,hw],rfl⟩
  ·have e:l.drop k=[]:=by rw [List.drop_eq_nil_iff]; omega
   rw [e] at hd
   repeat (first|refine QG ?_|refine QY ?_ (r:=by conv=>lhs;simp[-List.map_set,QV,hkt]))
   exact ja hwf (by rw [←hd]; rfl) rfl
theorem AnyB_v (l:List (Ss.Block)) (p:Ss.Block→Bool) (fid:FuncId) (caps:List V) (hc:jR Tryz.prog fid=true) (hl:l.length<2^63) (h : ∀ x∈l,VPure Tryz.prog fid ([jd x]++caps) (.bool (p x))) :
  VPure Tryz.prog 67 [vl (jd) l, .func fid caps] (.bool (l.any p)):=by
 intro S
 refine jb (c:=jf Tryz.f67) Tryz.func67 rfl rfl (by simp [Tryz.ntmps67]) ?_
 rw [Tryz.ntmps67]
 intro hwf
 rw [←zL p l 0]
 repeat (first|refine QG ?_|refine QY ?_)
 repeat refine QS ?_
 refine QP ?_
 refine jn rfl (IndexB_v l p fid caps hc hl h) ?_
 refine QM (by conv=>lhs;simp[-List.map_set,QV]) ?_
 refine QN ?_
 repeat (first|refine QG ?_|refine QY ?_)
 exact ja hwf rfl rfl
theorem IndexS_v (l:List (Ss.Sig)) (p:Ss.Sig→Bool) (fid:FuncId) (caps:List V) (hc:jR Tryz.prog fid=true) (hl:l.length<2^63) (h : ∀ x∈l,VPure Tryz.prog fid ([jJ x]++caps) (.bool (p x))) :
  VPure Tryz.prog 127 [vl (jJ) l, .func fid caps] (vint (ql p l 0)):=by
 intro S
 refine jb (c:=jf Tryz.f127) Tryz.func127 rfl rfl (by simp [Tryz.ntmps127]) ?_
 rw [Tryz.ntmps127]
 intro hwf
 repeat (first|refine QG ?_|refine QY ?_)
 repeat refine QS ?_
 refine je [0,1,7,8] rfl (fun c σ S' => ∃ (k:Nat),k≤l.length∧c=l.length-k∧ql p (l.drop k) k=ql p l 0∧σ=[(0,vl (jJ) l),(1, .func fid caps),(7,vnat l.length),(8,vnat k)]∧S'=St S [] []) l.length ?_ ?_
 ·exact ⟨0,by omega,rfl,rfl,by simp [Fr.only],rfl⟩
 ·rintro c σ T ⟨k,hk,rfl,hd,rfl,rfl⟩
  by_cases hkt:k<l.length
  ·have hst:ql p (l.drop k) k=if p l[k] then (k:Int) else ql p (l.drop (k+1)) (k+1):=by rw [List.drop_eq_getElem_cons hkt,ql]
   have hw:=jo hkt hl
   repeat (first|refine QG ?_|refine QY ?_ (r:=by conv=>lhs;simp[-List.map_set,QV,hkt]))
   repeat refine QS ?_
   refine QP ?_ (r:=by conv=>lhs;simp[-List.map_set,QV,hkt])
   refine qM rfl hc rfl (h _ (List.getElem_mem hkt)) ?_
   refine QM (by conv=>lhs;simp[-List.map_set,QV]) ?_
   refine QN ?_
   cases hp:p l[k] with
   | true =>
    rw [hp] at hst
    repeat (first|refine QG ?_|refine QY ?_ (r:=by conv=>lhs;simp[-List.map_set,QV,hp]))
    exact ja hwf (by rw [←hd,hst]; rfl) rfl
   | false =>
    rw [hp] at hst
    repeat (first|refine QG ?_|refine QY ?_ (r:=by conv=>lhs;simp[-List.map_set,QV,hp]))
    show jy _ _ _ _ _ _ _
    exact again ⟨Nat.sub_lt_sub_left hkt (Nat.lt_succ_self k),k+1,hkt,rfl,by rw [←hd,hst]; rfl,by simp [Fr.only,hw],rfl⟩
  ·have e:l.drop k=[]:=by rw [List.drop_eq_nil_iff]; omega
   rw [e] at hd
   repeat (first|refine QG ?_|refine QY ?_ (r:=by conv=>lhs;simp[-List.map_set,QV,hkt]))
   exact ja hwf (by rw [←hd]; rfl) rfl
theorem AnyS_v (l:List (Ss.Sig)) (p:Ss.Sig→Bool) (fid:FuncId) (caps:List V) (hc:jR Tryz.prog fid=true) (hl:l.length<2^63) (h : ∀ x∈l,VPure Tryz.prog fid ([jJ x]++caps) (.bool (p x))) :
  VPure Tryz.prog 97 [vl (jJ) l, .func fid caps] (.bool (l.any p)):=by
 intro S
 refine jb (c:=jf Tryz.f97) Tryz.func97 rfl rfl (by simp [Tryz.ntmps97]) ?_
 rw [Tryz.ntmps97]
 intro hwf
 rw [←zL p l 0]
 repeat (first|refine QG ?_|refine QY ?_)
 repeat refine QS ?_
 refine QP ?_
 refine jn rfl (IndexS_v l p fid caps hc hl h) ?_
 refine QM (by conv=>lhs;simp[-List.map_set,QV]) ?_
 refine QN ?_
 repeat (first|refine QG ?_|refine QY ?_)
 exact ja hwf rfl rfl
theorem IndexN_v (l:List (Ss.Ins)) (p:Ss.Ins→Bool) (fid:FuncId) (caps:List V) (hc:jR Tryz.prog fid=true) (hl:l.length<2^63) (h : ∀ x∈l,VPure Tryz.prog fid ([jp x]++caps) (.bool (p x))) :
  VPure Tryz.prog 145 [vl (jp) l, .func fid caps] (vint (ql p l 0)):=by
 intro S
 refine jb (c:=jf Tryz.f145) Tryz.func145 rfl rfl (by simp [Tryz.ntmps145]) ?_
 rw [Tryz.ntmps145]
 intro hwf
 repeat (first|refine QG ?_|refine QY ?_)
 repeat refine QS ?_
 refine je [0,1,7,8] rfl (fun c σ S' => ∃ (k:Nat),k≤l.length∧c=l.length-k∧ql p (l.drop k) k=ql p l 0∧σ=[(0,vl (jp) l),(1, .func fid caps),(7,vnat l.length),(8,vnat k)]∧S'=St S [] []) l.length ?_ ?_
 ·exact ⟨0,by omega,rfl,rfl,by simp [Fr.only],rfl⟩
 ·rintro c σ T ⟨k,hk,rfl,hd,rfl,rfl⟩
  by_cases hkt:k<l.length
  ·have hst:ql p (l.drop k) k=if p l[k] then (k:Int) else ql p (l.drop (k+1)) (k+1):=by rw [List.drop_eq_getElem_cons hkt,ql]
   have hw:=jo hkt hl
   repeat (first|refine QG ?_|refine QY ?_ (r:=by conv=>lhs;simp[-List.map_set,QV,hkt]))
   repeat refine QS ?_
   refine QP ?_ (r:=by conv=>lhs;simp[-List.map_set,QV,hkt])
   refine qM rfl hc rfl (h _ (List.getElem_mem hkt)) ?_
   refine QM (by conv=>lhs;simp[-List.map_set,QV]) ?_
   refine QN ?_
   cases hp:p l[k] with
   | true =>
    rw [hp] at hst
    repeat (first|refine QG ?_|refine QY ?_ (r:=by conv=>lhs;simp[-List.map_set,QV,hp]))
    exact ja hwf (by rw [←hd,hst]; rfl) rfl
   | false =>
    rw [hp] at hst
    repeat (first|refine QG ?_|refine QY ?_ (r:=by conv=>lhs;simp[-List.map_set,QV,hp]))
    show jy _ _ _ _ _ _ _
    exact again ⟨Nat.sub_lt_sub_left hkt (Nat.lt_succ_self k),k+1,hkt,rfl,by rw [←hd,hst]; rfl,by simp [Fr.only,hw],rfl⟩
  ·have e:l.drop k=[]:=by rw [List.drop_eq_nil_iff]; omega
   rw [e] at hd
   repeat (first|refine QG ?_|refine QY ?_ (r:=by conv=>lhs;simp[-List.map_set,QV,hkt]))
   exact ja hwf (by rw [←hd]; rfl) rfl
theorem AnyN_v (l:List (Ss.Ins)) (p:Ss.Ins→Bool) (fid:FuncId) (caps:List V) (hc:jR Tryz.prog fid=true) (hl:l.length<2^63) (h : ∀ x∈l,VPure Tryz.prog fid ([jp x]++caps) (.bool (p x))) :
  VPure Tryz.prog 131 [vl (jp) l, .func fid caps] (.bool (l.any p)):=by
 intro S
 refine jb (c:=jf Tryz.f131) Tryz.func131 rfl rfl (by simp [Tryz.ntmps131]) ?_
 rw [Tryz.ntmps131]
 intro hwf
 rw [←zL p l 0]
 repeat (first|refine QG ?_|refine QY ?_)
 repeat refine QS ?_
 refine QP ?_
 refine jn rfl (IndexN_v l p fid caps hc hl h) ?_
 refine QM (by conv=>lhs;simp[-List.map_set,QV]) ?_
 refine QN ?_
 repeat (first|refine QG ?_|refine QY ?_)
 exact ja hwf rfl rfl
end Go.Vw

namespace Ss
def isKind (t:Int):Bool:=decide (t=127)||decide (t=126)
def kinds (most:Nat) (l:List Int):Bool:=decide (l.length≤most)&&l.all isKind
def Sig.right (s:Sig):Bool:=kinds 8 s.inn&&kinds 8 s.out
def Env.right (e:Env):Bool:=decide (0≤e.imports)&&decide (e.imports≤e.sigs.length)&&decide (e.sigs.length≤64)&&decide (e.muts.length=e.globals.length)&&kinds 32 e.globals&&e.sigs.all Sig.right
end Ss
namespace Go.Vw
open Go.Proofs Go.RowKit
set_option maxRecDepth 10000
set_option maxHeartbeats 1000000
theorem isKind_v (t:Int):VPure Tryz.prog 101 [vint t] (.bool (Ss.isKind t)):=by
 intro S
 refine jb (c:=jf Tryz.f101) Tryz.func101 rfl rfl (by simp [Tryz.ntmps101]) ?_
 rw [Tryz.ntmps101]
 intro hwf
 by_cases h:t=127
 ·repeat (first|refine QG ?_|refine QY ?_ (r:=by conv=>lhs;simp[-List.map_set,QV,h]))
  exact ja hwf (by simp [Ss.isKind,h]) rfl
 ·repeat (first|refine QG ?_|refine QY ?_ (r:=by conv=>lhs;simp[-List.map_set,QV,h]))
  exact ja hwf (by simp [Ss.isKind,h]) rfl
theorem kinds1_v (t:Int):VPure Tryz.prog 100 ([vint t]++[]) (.bool (!Ss.isKind t)):=by
 intro S
 refine jb (c:=jf Tryz.f100) Tryz.func100 rfl rfl (by simp [Tryz.ntmps100]) ?_
 rw [Tryz.ntmps100]
 intro hwf
 repeat (first|refine QG ?_|refine QY ?_)
 repeat refine QS ?_
 refine QP ?_
 refine jc (isKind_v t) (by rfl) ?_
 refine QM (by conv=>lhs;simp[-List.map_set,QV]) ?_
 refine QN ?_
 repeat (first|refine QG ?_|refine QY ?_)
 exact ja hwf rfl rfl
theorem jbE (most:Nat) (l:List Int) (hl:l.length<2^63):VPure Tryz.prog 65 [vnat most,vl vint l] (.bool (Ss.kinds most l)):=by
 intro S
 have e:(!l.any fun t => !Ss.isKind t)=l.all Ss.isKind:=by
  rw [List.not_any_eq_all_not]; congr 1; funext t; simp
 by_cases h:l.length≤most
 ·have h':(l.length:Int)≤(most:Int):=by omega
  have hX:Ss.kinds most l = !l.any fun t => !Ss.isKind t:=by rw [e]; simp [Ss.kinds,h]
  rw [hX]
  refine jb (c:=jf Tryz.f65) Tryz.func65 rfl rfl (by simp [Tryz.ntmps65]) ?_
  rw [Tryz.ntmps65]
  intro hwf
  repeat (first|refine QG ?_|refine QY ?_ (r:=by conv=>lhs;simp[-List.map_set,QV,h,h']))
  repeat refine QS ?_
  refine QP ?_ (r:=by conv=>lhs;simp[-List.map_set,QV,h,h'])
  refine jc (AnyI_v l (fun t => !Ss.isKind t) _ [] rfl hl (fun t _=>kinds1_v t)) (by rfl) ?_
  refine QM (by conv=>lhs;simp[-List.map_set,QV]) ?_
  refine QN ?_
  repeat (first|refine QG ?_|refine QY ?_)
  exact ja hwf (by simp) rfl
 ·have h' : ¬ (l.length:Int)≤(most:Int):=by omega
  have hX:Ss.kinds most l=false:=by simp [Ss.kinds,h]
  rw [hX]
  refine jb (c:=jf Tryz.f65) Tryz.func65 rfl rfl (by simp [Tryz.ntmps65]) ?_
  rw [Tryz.ntmps65]
  intro hwf
  repeat (first|refine QG ?_|refine QY ?_ (r:=by conv=>lhs;simp[-List.map_set,QV,h,h']))
  exact ja hwf rfl rfl
theorem jaz (s:Ss.Sig) (hs:s.Fits):VPure Tryz.prog 66 [jJ s] (.bool s.right):=by
 intro S
 obtain ⟨⟨h1,_⟩,⟨h2,_⟩⟩:=hs
 obtain ⟨a,b⟩:=s
 simp only at h1 h2
 have hX:Ss.Sig.right ⟨a,b⟩=(Ss.kinds 8 a&&Ss.kinds 8 b):=rfl
 rw [hX]
 have c1:VPure Tryz.prog 65 [.int .i64 8,vl vint a] (.bool (Ss.kinds 8 a)):=jbE 8 a (by omega)
 have c2:VPure Tryz.prog 65 [.int .i64 8,vl vint b] (.bool (Ss.kinds 8 b)):=jbE 8 b (by omega)
 generalize Ss.kinds 8 a=x at *
 generalize Ss.kinds 8 b=y at *
 refine jb (c:=jf Tryz.f66) Tryz.func66 rfl rfl (by simp [Tryz.ntmps66]) ?_
 rw [Tryz.ntmps66]
 intro hwf
 repeat (first|refine QG ?_|refine QY ?_)
 repeat refine QS ?_
 refine QP ?_
 refine jc (c1) (by rfl) ?_
 by_cases hx:x=true
 ·refine QM (by conv=>lhs;simp[-List.map_set,QV,hx]) ?_
  refine jc (c2) (by rfl) ?_
  refine QM (by conv=>lhs;simp[-List.map_set,QV]) ?_
  refine QN ?_
  repeat (first|refine QG ?_|refine QY ?_)
  exact ja hwf (by simp [hx]) rfl
 ·have hx':x=false:=by simpa using hx
  refine QM (by conv=>lhs;simp[-List.map_set,QV,hx']) ?_
  refine QN ?_
  repeat (first|refine QG ?_|refine QY ?_)
  exact ja hwf (by simp [hx']) rfl
theorem envRight1_v (s:Ss.Sig) (hs:s.Fits):VPure Tryz.prog 98 ([jJ s]++[]) (.bool (!s.right)):=by
 intro S
 have c1:=jaz s hs
 obtain ⟨a,b⟩:=s
 have c1':VPure Tryz.prog 66 [.agg [vl vint a,vl vint b]] (.bool (Ss.Sig.right ⟨a,b⟩)):=c1
 refine jb (c:=jf Tryz.f98) Tryz.func98 rfl rfl (by simp [Tryz.ntmps98]) ?_
 rw [Tryz.ntmps98]
 intro hwf
 repeat (first|refine QG ?_|refine QY ?_)
 repeat refine QS ?_
 refine QP ?_
 refine jc (c1') (by rfl) ?_
 refine QM (by conv=>lhs;simp[-List.map_set,QV]) ?_
 refine QN ?_
 repeat (first|refine QG ?_|refine QY ?_)
 exact ja hwf rfl rfl
theorem EnvRight_v (e:Ss.Env) (he:e.Fits):VPure Tryz.prog 63 [zj e] (.bool e.right):=by
 intro S
 obtain ⟨⟨h1,h2⟩,_,⟨h4,_⟩,h5⟩:=he
 obtain ⟨sg,im,gl,mu,me⟩:=e
 simp only at h1 h2 h4 h5
 have ea:(!sg.any fun s => !s.right)=sg.all Ss.Sig.right:=by
  rw [List.not_any_eq_all_not]; congr 1; funext t; simp
 have hX:Ss.Env.right ⟨sg,im,gl,mu,me⟩=(decide (0≤im)&&decide (im≤sg.length)&&decide (sg.length≤64)&&decide (mu.length=gl.length)&&Ss.kinds 32 gl && !sg.any fun s => !s.right):=by rw [ea]; rfl
 rw [hX]
 have c1:VPure Tryz.prog 65 [.int .i64 32,vl vint gl] (.bool (Ss.kinds 32 gl)):=jbE 32 gl (by omega)
 have c2:=AnyS_v sg (fun s => !s.right) 98 [] rfl (by omega) (fun s hs=>envRight1_v s (h2 s hs))
 generalize Ss.kinds 32 gl=x at *
 generalize (sg.any fun s => !s.right)=y at *
 refine jb (c:=jf Tryz.f63) Tryz.func63 rfl rfl (by simp [Tryz.ntmps63]) ?_
 rw [Tryz.ntmps63]
 intro hwf
 by_cases k1:im<0
 ·repeat (first|refine QG ?_|refine QY ?_ (r:=by conv=>lhs;simp[-List.map_set,QV,k1]))
  exact ja hwf (by simp; omega) rfl
 by_cases k2:(sg.length:Int)<im
 ·repeat (first|refine QG ?_|refine QY ?_ (r:=by conv=>lhs;simp[-List.map_set,QV,k1,k2]))
  exact ja hwf (by simp; omega) rfl
 by_cases k3:(64:Int)<(sg.length:Int)
 ·repeat (first|refine QG ?_|refine QY ?_ (r:=by conv=>lhs;simp[-List.map_set,QV,k1,k2,k3]))
  exact ja hwf (by simp; omega) rfl
 by_cases k4:mu.length=gl.length
 case neg =>
  have k4' : ¬ (mu.length:Int)=(gl.length:Int):=by omega
  repeat (first|refine QG ?_|refine QY ?_ (r:=by conv=>lhs;simp[-List.map_set,QV,k1,k2,k3,k4,k4']))
  exact ja hwf (by simp [k4]) rfl
 have k4':(mu.length:Int)=(gl.length:Int):=by omega
 have hp:(decide (0≤im)&&decide (im≤sg.length)&&decide (sg.length≤64)&&decide (mu.length=gl.length))=true:=by simp [k4]; omega
 rw [hp]
 repeat (first|refine QG ?_|refine QY ?_ (r:=by conv=>lhs;simp[-List.map_set,QV,k1,k2,k3,k4,k4']))
 repeat refine QS ?_
 refine QP ?_
 refine jc (c1) (by rfl) ?_
 by_cases hx:x=true
 ·refine QM (by conv=>lhs;simp[-List.map_set,QV,hx]) ?_
  refine jc (c2) (by rfl) ?_
  refine QM (by conv=>lhs;simp[-List.map_set,QV]) ?_
  refine QN ?_
  repeat (first|refine QG ?_|refine QY ?_)
  exact ja hwf (by simp [hx]) rfl
 ·have hx':x=false:=by simpa using hx
  refine QM (by conv=>lhs;simp[-List.map_set,QV,hx']) ?_
  refine QN ?_
  repeat (first|refine QG ?_|refine QY ?_)
  exact ja hwf (by simp [hx']) rfl
theorem check1_v (b:Ss.Block):VPure Tryz.prog 68 ([jd b]++[]) (.bool (decide (256<b.params.length))):=by
 intro S
 obtain ⟨ps,c,t⟩:=b
 refine jb (c:=jf Tryz.f68) Tryz.func68 rfl rfl (by simp [Tryz.ntmps68]) ?_
 rw [Tryz.ntmps68]
 intro hwf
 repeat (first|refine QG ?_|refine QY ?_)
 exact ja hwf (by simp; omega) rfl
end Go.Vw

namespace Go.Vw
open Go.Proofs Go.RowKit
set_option maxRecDepth 10000
set_option maxHeartbeats 4000000
theorem EqFI_v (l m:List (Int)) (p:Int→Int→Bool) (fid:FuncId) (caps:List V) (hc:jR Tryz.prog fid=true) (hl:l.length<2^63) (h:l.length=m.length → ∀ (k:Nat) (h1:k<l.length) (h2:k<m.length),VPure Tryz.prog fid ([vint l[k],vint m[k]]++caps) (.bool (p l[k] m[k]))) :
  VPure Tryz.prog 135 [vl (vint) l,vl (vint) m, .func fid caps] (.bool (eqF p l m)):=by
 intro S
 by_cases hlm:l.length=m.length
 ·have hlm':(l.length:Int)=(m.length:Int):=by omega
  have h:=h hlm
  refine jb (c:=jf Tryz.f135) Tryz.func135 rfl rfl (by simp [Tryz.ntmps135]) ?_
  rw [Tryz.ntmps135]
  intro hwf
  repeat (first|refine QG ?_|refine QY ?_ (r:=by conv=>lhs;simp[-List.map_set,QV,hlm,hlm']))
  repeat refine QS ?_
  refine je [1,2,15,16,17] rfl (fun c σ S' => ∃ (k:Nat),k≤l.length∧c=l.length-k∧eqF p (l.drop k) (m.drop k)=eqF p l m∧σ=[(1,vl (vint) m),(2, .func fid caps),(15,vl (vint) l),(16,vnat m.length),(17,vnat k)]∧S'=St S [] []) l.length ?_ ?_
  ·exact ⟨0,by omega,rfl,rfl,by simp [Fr.only,hlm],rfl⟩
  ·rintro c σ T ⟨k,hk,rfl,hd,rfl,rfl⟩
   by_cases hkt:k<l.length
   ·have hkm:k<m.length:=by omega
    have hw:=jo hkt hl
    have hst:eqF p (l.drop k) (m.drop k)=(p l[k] m[k]&&eqF p (l.drop (k+1)) (m.drop (k+1))):=by rw [List.drop_eq_getElem_cons hkt,List.drop_eq_getElem_cons hkm,eqF]
    have hh:=h k hkt hkm
    obtain ⟨x,hx⟩ : ∃ x,l[k]=x:=⟨_,rfl⟩
    obtain ⟨y,hy⟩ : ∃ y,m[k]=y:=⟨_,rfl⟩
    rw [hx,hy] at hst hh
    repeat (first|refine QG ?_|refine QY ?_ (r:=by conv=>lhs;simp[-List.map_set,QV,hkt,hkm,hx,hy]))
    repeat refine QS ?_
    refine QP ?_ (r:=by conv=>lhs;simp[-List.map_set,QV,hkt,hkm,hx,hy])
    refine qM rfl hc rfl hh ?_
    refine QM (by conv=>lhs;simp[-List.map_set,QV]) ?_
    refine QN ?_
    cases hp:p x y with
    | false =>
     rw [hp] at hst
     repeat (first|refine QG ?_|refine QY ?_ (r:=by conv=>lhs;simp[-List.map_set,QV,hp]))
     exact ja hwf (by rw [←hd,hst]; rfl) rfl
    | true =>
     rw [hp] at hst
     repeat (first|refine QG ?_|refine QY ?_ (r:=by conv=>lhs;simp[-List.map_set,QV,hp]))
     show jy _ _ _ _ _ _ _
     exact again ⟨Nat.sub_lt_sub_left hkt (Nat.lt_succ_self k),k+1,hkt,rfl,by rw [←hd,hst]; rfl,by simp [Fr.only,hw],rfl⟩
   ·have e:l.drop k=[]:=by rw [List.drop_eq_nil_iff]; omega
    have e':m.drop k=[]:=by rw [List.drop_eq_nil_iff]; omega
    rw [e,e'] at hd
    have hkm : ¬ k<m.length:=by omega
    repeat (first|refine QG ?_|refine QY ?_ (r:=by conv=>lhs;simp[-List.map_set,QV,hkt,hkm]))
    exact ja hwf (by rw [←hd]; rfl) rfl
 ·have hlm' : ¬ (l.length:Int)=(m.length:Int):=by omega
  have e:eqF p l m=false:=eqF_len hlm
  rw [e]
  refine jb (c:=jf Tryz.f135) Tryz.func135 rfl rfl (by simp [Tryz.ntmps135]) ?_
  rw [Tryz.ntmps135]
  intro hwf
  repeat (first|refine QG ?_|refine QY ?_ (r:=by conv=>lhs;simp[-List.map_set,QV,hlm,hlm']))
  exact ja hwf rfl rfl
end Go.Vw

namespace Ss
structure Def where
 made:Bool
 block:Int
 pos:Int
deriving DecidableEq,Inhabited
def askOk (ts:List Int) (ds:List Def) (near:List Int) (block pos v t:Int):Bool :=
 decide (0≤v)&&decide (v<ds.length)&&decide (ts.getD v.toNat 0=t)&&(ds.getD v.toNat default).made &&
  (if (ds.getD v.toNat default).block=block then decide ((ds.getD v.toNat default).pos<pos) else Go.Vw.G.dominates near (ds.getD v.toNat default).block block)
def asks (ts:List Int) (ds:List Def) (near:List Int) (block pos:Int) (l types:List Int):Bool:=Go.Vw.eqF (askOk ts ds near block pos) l types
def typesOf (ts:List Int) (l:List Int):List Int:=l.map fun v=>ts.getD v.toNat 0
def InTs (n:Nat) (l:List Int):Prop := ∀ v∈l,0≤v∧v<n
end Ss
namespace Go.Vw
open Go.Proofs Go.RowKit
set_option maxRecDepth 10000
set_option maxHeartbeats 2000000
def qI (d:Ss.Def):V := .agg [.bool d.made,vint d.block,vint d.pos]
theorem encDef_eq (d:Ss.Def):qI d = .agg [.bool d.made,vint d.block,vint d.pos]:=nr rfl
theorem encDef_nc (d:Ss.Def):(qI d).ncells=3:=nr rfl
theorem encDef_cells (d:Ss.Def):(qI d).cells=[.bool d.made,vint d.block,vint d.pos]:=nr rfl
theorem zr (d:Ss.Def):(qI d).closed=true:=rfl
attribute [simp] encDef_eq encDef_nc
def ckC (e:Ss.Env) (f:Ss.Fn) (ds near:V):List V:=[vl jJ e.sigs,vint e.imports,vl vint e.globals,vl V.bool e.muts, .bool e.mem,vl vint f.sig.inn,vl vint f.sig.out,vl vint f.types,vl jd f.blocks,ds,near]
theorem ckC_eq (e:Ss.Env) (f:Ss.Fn) (ds near:V):ckC e f ds near=[vl jJ e.sigs,vint e.imports,vl vint e.globals,vl V.bool e.muts, .bool e.mem,vl vint f.sig.inn,vl vint f.sig.out,vl vint f.types,vl jd f.blocks,ds,near]:=nr rfl
attribute [simp] ckC_eq
abbrev ckV (e:Ss.Env) (f:Ss.Fn) (ds:List Ss.Def) (near:List Int):V := .ref (.agg (ckC e f (vl qI ds) (vl vint near)))
theorem boxSt {B:Store} {u:Upds} {l:List (Option (Nat × List V))} {k s:Nat} {x:V} (hk:k<l.length) (hc:(l[k]?).join=some (s,[x])) (h1:x.closed1=true):Ghost (.ptr (lid B.nx k) 0) (St B u l) (.ref x) (St B u (l.set k none)):=by
 rw [←St_del hk]
 exact Ghost.box (by rw [jL]; exact hc) h1
theorem types_v (e:Ss.Env) (f:Ss.Fn) (ds:List Ss.Def) (near:List Int) (l:List Int) (hl:l.length≤1048576) (hv:Ss.InTs f.types.length l):VPure Tryz.prog 107 [ckV e f ds near,vl vint l] (vl vint (Ss.typesOf f.types l)):=by
 intro S
 obtain ⟨⟨fi,fo⟩,ts,bs⟩:=f
 simp only at hv
 generalize hg:(fun v:Int=>ts.getD v.toNat 0)=g
 have hX:Ss.typesOf ts l=l.map g:=by rw [Ss.typesOf,hg]
 simp only
 rw [hX]
 refine jb (c:=jf Tryz.f107) Tryz.func107 rfl rfl (by simp [Tryz.ntmps107]) ?_
 rw [Tryz.ntmps107]
 intro hwf
 repeat refine QS ?_
 refine QP ?_
 refine QN ?_
 repeat refine QS ?_
 refine QP ?_
 refine QN ?_
 refine zd 5 1 rfl (by conv=>lhs; simp [Fr.set]) ?_
 repeat (first|refine QG ?_|refine QY ?_)
 repeat refine QS ?_
 refine je [0,5,8,9,10] rfl (fun c σ S' => ∃ (k:Nat) (out:List Int),k≤l.length∧c=l.length-k∧out=(l.take k).map g∧out.length=k∧σ=[(0,ckV e ⟨⟨fi,fo⟩,ts,bs⟩ ds near),(5, .slice (lid S.nx 0) 0 k),(8,vl vint l),(9,vnat l.length),(10,vnat k)]∧S'=St S [] [some (1,out.map vint)]) l.length ?_ ?_
 ·exact ⟨0,[],by omega,rfl,by simp,rfl,by simp [Fr.only],by simp⟩
 ·rintro c σ T ⟨k,out,hk,rfl,ho,hlen,rfl,rfl⟩
  by_cases hkt:k<l.length
  ·have hw:=jo hkt (by omega)
   obtain ⟨h0,h1⟩:=hv _ (List.getElem_mem hkt)
   obtain ⟨v,hx⟩ : ∃ v,l[k]=v:=⟨_,rfl⟩
   rw [hx] at h0 h1
   obtain ⟨n,rfl⟩ : ∃ n:Nat,v=n:=⟨v.toNat,by omega⟩
   have hn:n<ts.length:=by omega
   have hgn:g (n:Int)=ts[n]:=by rw [←hg]; simp [hn]
   have htk:l.take (k+1)=l.take k++[(n:Int)]:=by rw [List.take_add_one,List.getElem?_eq_getElem hkt,hx]; rfl
   have hb:(k+1)*8≤140737488355328:=by omega
   have hb':k+1≤140737488355328:=by omega
   repeat (first|refine QG ?_|refine QY ?_ (r:=by conv=>lhs;simp[-List.map_set,QV,hkt,hx,hn,hlen,hb,hb']))
   refine QA [2] (h:=⟨?_,k+1,out++[ts[n]],hkt,rfl,by rw [htk,List.map_append,ho]; simp [hgn],by simp [hlen],by simp [hw],by simp⟩)
   omega
  ·have hke:k=l.length:=by omega
   subst hke
   rw [List.take_length] at ho
   repeat (first|refine QG ?_|refine QY ?_ (r:=by conv=>lhs;simp[-List.map_set,QV,hkt]))
   rw [←ho]
   exact jh hwf ((frz1 (by simp) (by rfl) (jI vint (fun _=>rfl) _) (by simpa using hlen)).toB _) rfl
theorem asks1_v (e:Ss.Env) (f:Ss.Fn) (ds:List Ss.Def) (near:List Int) (block pos v t:Int) (hds:ds.length=f.types.length) (htl:f.types.length<2^63) (hnl:near.length<2^63) :
  VPure Tryz.prog 136 ([vint v,vint t]++[.ref (ckV e f ds near), .ref (vint block), .ref (vint pos)]) (.bool (Ss.askOk f.types ds near block pos v t)):=by
 intro S
 obtain ⟨⟨fi,fo⟩,ts,bs⟩:=f
 simp only at hds htl ⊢
 by_cases h0:v<0
 ·have e:Ss.askOk ts ds near block pos v t=false:=by simp [Ss.askOk]; omega
  rw [e]
  refine jb (c:=jf Tryz.f136) Tryz.func136 rfl rfl (by simp [Tryz.ntmps136]) ?_
  rw [Tryz.ntmps136]
  intro hwf
  repeat (first|refine QG ?_|refine QY ?_ (r:=by conv=>lhs;simp[-List.map_set,QV,h0]))
  exact ja hwf (by simp) rfl
 obtain ⟨n,rfl⟩ : ∃ n:Nat,v=n:=⟨v.toNat,by omega⟩
 by_cases h1:n<ds.length
 case neg =>
  have h1' : ¬ (n:Int)<(ds.length:Int):=by omega
  have h1'':(ds.length:Int)≤(n:Int):=by omega
  have e:Ss.askOk ts ds near block pos n t=false:=by simp [Ss.askOk]; omega
  rw [e]
  refine jb (c:=jf Tryz.f136) Tryz.func136 rfl rfl (by simp [Tryz.ntmps136]) ?_
  rw [Tryz.ntmps136]
  intro hwf
  repeat (first|refine QG ?_|refine QY ?_ (r:=by conv=>lhs;simp[-List.map_set,QV,h0,h1,h1',h1'']))
  exact ja hwf (by simp) rfl
 have hnt:n<ts.length:=by omega
 have h1'' : ¬ (ds.length:Int)≤(n:Int):=by omega
 obtain ⟨tt,htt⟩ : ∃ x,ts[n]=x:=⟨_,rfl⟩
 obtain ⟨⟨dm,db,dp⟩,hd⟩ : ∃ x,ds[n]=x:=⟨_,rfl⟩
 have hX:Ss.askOk ts ds near block pos n t=(decide (tt=t)&&(dm&&(if db=block then decide (dp<pos) else G.dominates near db block))):=by
  simp [Ss.askOk,h1,hnt,htt,hd,Bool.and_assoc]
 rw [hX]
 by_cases h2:tt=t
 case neg =>
  refine jb (c:=jf Tryz.f136) Tryz.func136 rfl rfl (by simp [Tryz.ntmps136]) ?_
  rw [Tryz.ntmps136]
  intro hwf
  repeat (first|refine QG ?_|refine QY ?_ (r:=by conv=>lhs;simp[-List.map_set,QV,h0,h1,h1'',hnt,htt,h2]))
  exact ja hwf (by simp [h2]) rfl
 cases dm with
 | false =>
  refine jb (c:=jf Tryz.f136) Tryz.func136 rfl rfl (by simp [Tryz.ntmps136]) ?_
  rw [Tryz.ntmps136]
  intro hwf
  repeat (first|refine QG ?_|refine QY ?_ (r:=by conv=>lhs;simp[-List.map_set,QV,h0,h1,h1'',hnt,htt,h2,hd]))
  exact ja hwf (by simp) rfl
 | true =>
  by_cases h3:db=block
  ·refine jb (c:=jf Tryz.f136) Tryz.func136 rfl rfl (by simp [Tryz.ntmps136]) ?_
   rw [Tryz.ntmps136]
   intro hwf
   repeat (first|refine QG ?_|refine QY ?_ (r:=by conv=>lhs;simp[-List.map_set,QV,h0,h1,h1'',hnt,htt,h2,hd,h3]))
   exact ja hwf (by simp [h2,h3]) rfl
  ·have cd:=jaj near db block hnl
   generalize G.dominates near db block=y at *
   refine jb (c:=jf Tryz.f136) Tryz.func136 rfl rfl (by simp [Tryz.ntmps136]) ?_
   rw [Tryz.ntmps136]
   intro hwf
   repeat (first|refine QG ?_|refine QY ?_ (r:=by conv=>lhs;simp[-List.map_set,QV,h0,h1,h1'',hnt,htt,h2,hd,h3]))
   repeat refine QS ?_
   refine QD (r:=by conv=>lhs;simp[-List.map_set,QV,h0,h1,h1'',hnt,htt,h2,hd,h3]) (k:=?_)
   refine jc (cd) (by rfl) ?_
   refine QM (by conv=>lhs;simp[-List.map_set,QV]) ?_
   refine QN ?_
   repeat (first|refine QG ?_|refine QY ?_)
   exact ja hwf (by simp [h2,h3]) rfl
theorem asks_v (e:Ss.Env) (f:Ss.Fn) (ds:List Ss.Def) (near:List Int) (block pos:Int) (l types:List Int) (hds:ds.length=f.types.length) (htl:f.types.length<2^63) (hnl:near.length<2^63) (hl:l.length<2^63) :
  VPure Tryz.prog 109 [ckV e f ds near,vint block,vint pos,vl vint l,vl vint types] (.bool (Ss.asks f.types ds near block pos l types)):=by
 intro S
 refine jb (c:=jf Tryz.f109) Tryz.func109 rfl rfl (by simp [Tryz.ntmps109]) ?_
 rw [Tryz.ntmps109]
 intro hwf
 repeat refine QS ?_
 refine QP ?_
 refine QN ?_
 refine jk 5 rfl ((boxSt (by simp) rfl rfl)) (by conv=>lhs; simp [Fr.set]) ?_
 simp only [List.set_cons_succ,List.set_cons_zero]
 refine jk 6 rfl ((boxSt (by simp) rfl rfl)) (by conv=>lhs; simp [Fr.set]) ?_
 simp only [List.set_cons_succ,List.set_cons_zero]
 refine jk 7 rfl ((boxSt (by simp) rfl rfl)) (by conv=>lhs; simp [Fr.set]) ?_
 simp only [List.set_cons_succ,List.set_cons_zero]
 repeat refine QS ?_
 refine QP ?_
 refine jc (EqFI_v l types (Ss.askOk f.types ds near block pos) 136 [.ref (ckV e f ds near), .ref (vint block), .ref (vint pos)] rfl hl (fun _ k h1 h2=>asks1_v e f ds near block pos _ _ hds htl hnl)) (by rfl) ?_
 refine QM (by conv=>lhs;simp[-List.map_set,QV]) ?_
 refine QN ?_
 repeat (first|refine QG ?_|refine QY ?_)
 exact ja hwf rfl rfl
end Go.Vw
