import Derived.Test.YtenhhokhkkfgbaaGreatC11
import Derived.Test.YtenhhokhkkfgbaaGreatProg
/-
  Part of the proof (texts SIdx, VTwo).
-/
set_option linter.unusedVariables false
set_option linter.unusedSimpArgs false
namespace Go.Vw
open Go.Proofs Go.RowKit
set_option maxRecDepth 10000
set_option maxHeartbeats 4000000
def findI {α:Type} (p:α→Bool):List α→Nat→Int
 | [],_ => -1
 | x::xs,k=>if p x then (k:Int) else findI p xs (k+1)
theorem findI_any {α:Type} (p:α→Bool) : ∀ (l:List α) (k:Nat),decide (0≤findI p l k)=l.any p
 | [],k=>by simp [findI]
 | x::xs,k=>by
   cases h:p x
   ·simp [findI,h,findI_any p xs (k+1)]
   ·simp [findI,h]
def eqF {α:Type} (p:α→α→Bool):List α→List α→Bool
 | [],[]=>true
 | x::xs,y::ys=>p x y&&eqF p xs ys
 | _,_=>false
theorem eqF_len {α:Type} {p:α→α→Bool} : ∀ {l m:List α}, ¬ l.length=m.length→eqF p l m=false
 | [],[],h=>absurd rfl h
 | [],_::_,_=>rfl
 | _::_,[],_=>rfl
 | x::xs,y::ys,h=>by rw [eqF,eqF_len (l:=xs) (m:=ys) (by simpa using h)]; simp
theorem eqF_eq {α:Type} [DecidableEq α] {p:α→α→Bool} (hp : ∀ x y,p x y=decide (x=y)) : ∀ (l m:List α),eqF p l m=decide (l=m)
 | [],[]=>by simp [eqF]
 | [],_::_=>by simp [eqF]
 | _::_,[]=>by simp [eqF]
 | x::xs,y::ys=>by rw [eqF,hp,eqF_eq hp xs ys]; simp
theorem IndexL_v (l:List (List Int)) (p:List Int→Bool) (fid:FuncId) (caps:List V) (hc:callable Tryz.prog fid=true) (hl:l.length<2^63) (h : ∀ x∈l,VPure Tryz.prog fid ([vl vint x]++caps) (.bool (p x))) :
  VPure Tryz.prog 135 [vl (vl vint) l, .func fid caps] (vint (findI p l 0)):=by
 intro S
 refine vcalls_start (c:=bodyOf Tryz.f135) Tryz.func135 rfl rfl (by simp [Tryz.ntmps135]) ?_
 rw [Tryz.ntmps135]
 intro hwf
 repeat (first|refine QG ?_|refine QX (r:=by conv=>lhs;simp[-List.map_set,QV]) (k:=?_))
 repeat refine QS ?_
 refine vw_loopAt [0,1,7,8] rfl (fun c σ S' => ∃ (k:Nat),k≤l.length∧c=l.length-k∧findI p (l.drop k) k=findI p l 0∧σ=[(0,vl (vl vint) l),(1, .func fid caps),(7,vnat l.length),(8,vnat k)]∧S'=St S [] []) l.length ?_ ?_
 ·exact ⟨0,by omega,rfl,rfl,by simp [Fr.only],rfl⟩
 ·rintro c σ T ⟨k,hk,rfl,hd,rfl,rfl⟩
  by_cases hkt:k<l.length
  ·have hst:findI p (l.drop k) k=if p l[k] then (k:Int) else findI p (l.drop (k+1)) (k+1):=by rw [List.drop_eq_getElem_cons hkt,findI]
   have hw:=wrapNat hkt hl
   repeat (first|refine QG ?_|refine QX (r:=by conv=>lhs;simp[-List.map_set,QV,hkt]) (k:=?_))
   repeat refine QS ?_
   refine QR (r:=by conv=>lhs;simp[-List.map_set,QV,hkt]) (k:=?_)
   refine vcallv_use rfl hc rfl (h _ (List.getElem_mem hkt)) ?_
   refine QM (by conv=>lhs;simp[-List.map_set,QV]) ?_
   refine QN ?_
   cases hp:p l[k] with
   | true =>
    rw [hp] at hst
    repeat (first|refine QG ?_|refine QX (r:=by conv=>lhs;simp[-List.map_set,QV,hp]) (k:=?_))
    exact done_pure hwf (by rw [←hd,hst]; rfl) rfl
   | false =>
    rw [hp] at hst
    repeat (first|refine QG ?_|refine QX (r:=by conv=>lhs;simp[-List.map_set,QV,hp]) (k:=?_))
    show Again _ _ _ _ _ _ _
    exact again ⟨Nat.sub_lt_sub_left hkt (Nat.lt_succ_self k),k+1,hkt,rfl,by rw [←hd,hst]; rfl,by simp [Fr.only,hw],rfl⟩
  ·have e:l.drop k=[]:=by rw [List.drop_eq_nil_iff]; omega
   rw [e] at hd
   repeat (first|refine QG ?_|refine QX (r:=by conv=>lhs;simp[-List.map_set,QV,hkt]) (k:=?_))
   exact done_pure hwf (by rw [←hd]; rfl) rfl
theorem AnyL_v (l:List (List Int)) (p:List Int→Bool) (fid:FuncId) (caps:List V) (hc:callable Tryz.prog fid=true) (hl:l.length<2^63) (h : ∀ x∈l,VPure Tryz.prog fid ([vl vint x]++caps) (.bool (p x))) :
  VPure Tryz.prog 116 [vl (vl vint) l, .func fid caps] (.bool (l.any p)):=by
 intro S
 refine vcalls_start (c:=bodyOf Tryz.f116) Tryz.func116 rfl rfl (by simp [Tryz.ntmps116]) ?_
 rw [Tryz.ntmps116]
 intro hwf
 rw [←findI_any p l 0]
 repeat (first|refine QG ?_|refine QX (r:=by conv=>lhs;simp[-List.map_set,QV]) (k:=?_))
 repeat refine QS ?_
 refine QR (r:=by conv=>lhs;simp[-List.map_set,QV]) (k:=?_)
 refine vcall_use rfl (IndexL_v l p fid caps hc hl h) ?_
 refine QM (by conv=>lhs;simp[-List.map_set,QV]) ?_
 refine QN ?_
 repeat (first|refine QG ?_|refine QX (r:=by conv=>lhs;simp[-List.map_set,QV]) (k:=?_))
 exact done_pure hwf rfl rfl
theorem IndexI_v (l:List (Int)) (p:Int→Bool) (fid:FuncId) (caps:List V) (hc:callable Tryz.prog fid=true) (hl:l.length<2^63) (h : ∀ x∈l,VPure Tryz.prog fid ([vint x]++caps) (.bool (p x))) :
  VPure Tryz.prog 74 [vl (vint) l, .func fid caps] (vint (findI p l 0)):=by
 intro S
 refine vcalls_start (c:=bodyOf Tryz.f74) Tryz.func74 rfl rfl (by simp [Tryz.ntmps74]) ?_
 rw [Tryz.ntmps74]
 intro hwf
 repeat (first|refine QG ?_|refine QX (r:=by conv=>lhs;simp[-List.map_set,QV]) (k:=?_))
 repeat refine QS ?_
 refine vw_loopAt [0,1,7,8] rfl (fun c σ S' => ∃ (k:Nat),k≤l.length∧c=l.length-k∧findI p (l.drop k) k=findI p l 0∧σ=[(0,vl (vint) l),(1, .func fid caps),(7,vnat l.length),(8,vnat k)]∧S'=St S [] []) l.length ?_ ?_
 ·exact ⟨0,by omega,rfl,rfl,by simp [Fr.only],rfl⟩
 ·rintro c σ T ⟨k,hk,rfl,hd,rfl,rfl⟩
  by_cases hkt:k<l.length
  ·have hst:findI p (l.drop k) k=if p l[k] then (k:Int) else findI p (l.drop (k+1)) (k+1):=by rw [List.drop_eq_getElem_cons hkt,findI]
   have hw:=wrapNat hkt hl
   repeat (first|refine QG ?_|refine QX (r:=by conv=>lhs;simp[-List.map_set,QV,hkt]) (k:=?_))
   repeat refine QS ?_
   refine QR (r:=by conv=>lhs;simp[-List.map_set,QV,hkt]) (k:=?_)
   refine vcallv_use rfl hc rfl (h _ (List.getElem_mem hkt)) ?_
   refine QM (by conv=>lhs;simp[-List.map_set,QV]) ?_
   refine QN ?_
   cases hp:p l[k] with
   | true =>
    rw [hp] at hst
    repeat (first|refine QG ?_|refine QX (r:=by conv=>lhs;simp[-List.map_set,QV,hp]) (k:=?_))
    exact done_pure hwf (by rw [←hd,hst]; rfl) rfl
   | false =>
    rw [hp] at hst
    repeat (first|refine QG ?_|refine QX (r:=by conv=>lhs;simp[-List.map_set,QV,hp]) (k:=?_))
    show Again _ _ _ _ _ _ _
    exact again ⟨Nat.sub_lt_sub_left hkt (Nat.lt_succ_self k),k+1,hkt,rfl,by rw [←hd,hst]; rfl,by simp [Fr.only,hw],rfl⟩
  ·have e:l.drop k=[]:=by rw [List.drop_eq_nil_iff]; omega
   rw [e] at hd
   repeat (first|refine QG ?_|refine QX (r:=by conv=>lhs;simp[-List.map_set,QV,hkt]) (k:=?_))
   exact done_pure hwf (by rw [←hd]; rfl) rfl
theorem AnyI_v (l:List (Int)) (p:Int→Bool) (fid:FuncId) (caps:List V) (hc:callable Tryz.prog fid=true) (hl:l.length<2^63) (h : ∀ x∈l,VPure Tryz.prog fid ([vint x]++caps) (.bool (p x))) :
  VPure Tryz.prog 94 [vl (vint) l, .func fid caps] (.bool (l.any p)):=by
 intro S
 refine vcalls_start (c:=bodyOf Tryz.f94) Tryz.func94 rfl rfl (by simp [Tryz.ntmps94]) ?_
 rw [Tryz.ntmps94]
 intro hwf
 rw [←findI_any p l 0]
 repeat (first|refine QG ?_|refine QX (r:=by conv=>lhs;simp[-List.map_set,QV]) (k:=?_))
 repeat refine QS ?_
 refine QR (r:=by conv=>lhs;simp[-List.map_set,QV]) (k:=?_)
 refine vcall_use rfl (IndexI_v l p fid caps hc hl h) ?_
 refine QM (by conv=>lhs;simp[-List.map_set,QV]) ?_
 refine QN ?_
 repeat (first|refine QG ?_|refine QX (r:=by conv=>lhs;simp[-List.map_set,QV]) (k:=?_))
 exact done_pure hwf rfl rfl
theorem IndexB_v (l:List (Ss.Block)) (p:Ss.Block→Bool) (fid:FuncId) (caps:List V) (hc:callable Tryz.prog fid=true) (hl:l.length<2^63) (h : ∀ x∈l,VPure Tryz.prog fid ([encBlock x]++caps) (.bool (p x))) :
  VPure Tryz.prog 97 [vl (encBlock) l, .func fid caps] (vint (findI p l 0)):=by
 intro S
 refine vcalls_start (c:=bodyOf Tryz.f97) Tryz.func97 rfl rfl (by simp [Tryz.ntmps97]) ?_
 rw [Tryz.ntmps97]
 intro hwf
 repeat (first|refine QG ?_|refine QX (r:=by conv=>lhs;simp[-List.map_set,QV]) (k:=?_))
 repeat refine QS ?_
 refine vw_loopAt [0,1,7,8] rfl (fun c σ S' => ∃ (k:Nat),k≤l.length∧c=l.length-k∧findI p (l.drop k) k=findI p l 0∧σ=[(0,vl (encBlock) l),(1, .func fid caps),(7,vnat l.length),(8,vnat k)]∧S'=St S [] []) l.length ?_ ?_
 ·exact ⟨0,by omega,rfl,rfl,by simp [Fr.only],rfl⟩
 ·rintro c σ T ⟨k,hk,rfl,hd,rfl,rfl⟩
  by_cases hkt:k<l.length
  ·have hst:findI p (l.drop k) k=if p l[k] then (k:Int) else findI p (l.drop (k+1)) (k+1):=by rw [List.drop_eq_getElem_cons hkt,findI]
   have hw:=wrapNat hkt hl
   repeat (first|refine QG ?_|refine QX (r:=by conv=>lhs;simp[-List.map_set,QV,hkt]) (k:=?_))
   repeat refine QS ?_
   refine QR (r:=by conv=>lhs;simp[-List.map_set,QV,hkt]) (k:=?_)
   refine vcallv_use rfl hc rfl (h _ (List.getElem_mem hkt)) ?_
   refine QM (by conv=>lhs;simp[-List.map_set,QV]) ?_
   refine QN ?_
   cases hp:p l[k] with
   | true =>
    rw [hp] at hst
    repeat (first|refine QG ?_|refine QX (r:=by conv=>lhs;simp[-List.map_set,QV,hp]) (k:=?_))
    exact done_pure hwf (by rw [←hd,hst]; rfl) rfl
   | false =>
    rw [hp] at hst
    repeat (first|refine QG ?_|refine QX (r:=by conv=>lhs;simp[-List.map_set,QV,hp]) (k:=?_))
    show Again _ _ _ _ _ _ _
    exact again ⟨Nat.sub_lt_sub_left hkt (Nat.lt_succ_self k),k+1,hkt,rfl,by rw [←hd,hst]; rfl,by simp [Fr.only,hw],rfl⟩
  ·have e:l.drop k=[]:=by rw [List.drop_eq_nil_iff]; omega
   rw [e] at hd
   repeat (first|refine QG ?_|refine QX (r:=by conv=>lhs;simp[-List.map_set,QV,hkt]) (k:=?_))
   exact done_pure hwf (by rw [←hd]; rfl) rfl
theorem AnyB_v (l:List (Ss.Block)) (p:Ss.Block→Bool) (fid:FuncId) (caps:List V) (hc:callable Tryz.prog fid=true) (hl:l.length<2^63) (h : ∀ x∈l,VPure Tryz.prog fid ([encBlock x]++caps) (.bool (p x))) :
  VPure Tryz.prog 61 [vl (encBlock) l, .func fid caps] (.bool (l.any p)):=by
 intro S
 refine vcalls_start (c:=bodyOf Tryz.f61) Tryz.func61 rfl rfl (by simp [Tryz.ntmps61]) ?_
 rw [Tryz.ntmps61]
 intro hwf
 rw [←findI_any p l 0]
 repeat (first|refine QG ?_|refine QX (r:=by conv=>lhs;simp[-List.map_set,QV]) (k:=?_))
 repeat refine QS ?_
 refine QR (r:=by conv=>lhs;simp[-List.map_set,QV]) (k:=?_)
 refine vcall_use rfl (IndexB_v l p fid caps hc hl h) ?_
 refine QM (by conv=>lhs;simp[-List.map_set,QV]) ?_
 refine QN ?_
 repeat (first|refine QG ?_|refine QX (r:=by conv=>lhs;simp[-List.map_set,QV]) (k:=?_))
 exact done_pure hwf rfl rfl
theorem IndexS_v (l:List (Ss.Sig)) (p:Ss.Sig→Bool) (fid:FuncId) (caps:List V) (hc:callable Tryz.prog fid=true) (hl:l.length<2^63) (h : ∀ x∈l,VPure Tryz.prog fid ([encSig x]++caps) (.bool (p x))) :
  VPure Tryz.prog 115 [vl (encSig) l, .func fid caps] (vint (findI p l 0)):=by
 intro S
 refine vcalls_start (c:=bodyOf Tryz.f115) Tryz.func115 rfl rfl (by simp [Tryz.ntmps115]) ?_
 rw [Tryz.ntmps115]
 intro hwf
 repeat (first|refine QG ?_|refine QX (r:=by conv=>lhs;simp[-List.map_set,QV]) (k:=?_))
 repeat refine QS ?_
 refine vw_loopAt [0,1,7,8] rfl (fun c σ S' => ∃ (k:Nat),k≤l.length∧c=l.length-k∧findI p (l.drop k) k=findI p l 0∧σ=[(0,vl (encSig) l),(1, .func fid caps),(7,vnat l.length),(8,vnat k)]∧S'=St S [] []) l.length ?_ ?_
 ·exact ⟨0,by omega,rfl,rfl,by simp [Fr.only],rfl⟩
 ·rintro c σ T ⟨k,hk,rfl,hd,rfl,rfl⟩
  by_cases hkt:k<l.length
  ·have hst:findI p (l.drop k) k=if p l[k] then (k:Int) else findI p (l.drop (k+1)) (k+1):=by rw [List.drop_eq_getElem_cons hkt,findI]
   have hw:=wrapNat hkt hl
   repeat (first|refine QG ?_|refine QX (r:=by conv=>lhs;simp[-List.map_set,QV,hkt]) (k:=?_))
   repeat refine QS ?_
   refine QR (r:=by conv=>lhs;simp[-List.map_set,QV,hkt]) (k:=?_)
   refine vcallv_use rfl hc rfl (h _ (List.getElem_mem hkt)) ?_
   refine QM (by conv=>lhs;simp[-List.map_set,QV]) ?_
   refine QN ?_
   cases hp:p l[k] with
   | true =>
    rw [hp] at hst
    repeat (first|refine QG ?_|refine QX (r:=by conv=>lhs;simp[-List.map_set,QV,hp]) (k:=?_))
    exact done_pure hwf (by rw [←hd,hst]; rfl) rfl
   | false =>
    rw [hp] at hst
    repeat (first|refine QG ?_|refine QX (r:=by conv=>lhs;simp[-List.map_set,QV,hp]) (k:=?_))
    show Again _ _ _ _ _ _ _
    exact again ⟨Nat.sub_lt_sub_left hkt (Nat.lt_succ_self k),k+1,hkt,rfl,by rw [←hd,hst]; rfl,by simp [Fr.only,hw],rfl⟩
  ·have e:l.drop k=[]:=by rw [List.drop_eq_nil_iff]; omega
   rw [e] at hd
   repeat (first|refine QG ?_|refine QX (r:=by conv=>lhs;simp[-List.map_set,QV,hkt]) (k:=?_))
   exact done_pure hwf (by rw [←hd]; rfl) rfl
theorem AnyS_v (l:List (Ss.Sig)) (p:Ss.Sig→Bool) (fid:FuncId) (caps:List V) (hc:callable Tryz.prog fid=true) (hl:l.length<2^63) (h : ∀ x∈l,VPure Tryz.prog fid ([encSig x]++caps) (.bool (p x))) :
  VPure Tryz.prog 91 [vl (encSig) l, .func fid caps] (.bool (l.any p)):=by
 intro S
 refine vcalls_start (c:=bodyOf Tryz.f91) Tryz.func91 rfl rfl (by simp [Tryz.ntmps91]) ?_
 rw [Tryz.ntmps91]
 intro hwf
 rw [←findI_any p l 0]
 repeat (first|refine QG ?_|refine QX (r:=by conv=>lhs;simp[-List.map_set,QV]) (k:=?_))
 repeat refine QS ?_
 refine QR (r:=by conv=>lhs;simp[-List.map_set,QV]) (k:=?_)
 refine vcall_use rfl (IndexS_v l p fid caps hc hl h) ?_
 refine QM (by conv=>lhs;simp[-List.map_set,QV]) ?_
 refine QN ?_
 repeat (first|refine QG ?_|refine QX (r:=by conv=>lhs;simp[-List.map_set,QV]) (k:=?_))
 exact done_pure hwf rfl rfl
theorem IndexN_v (l:List (Ss.Ins)) (p:Ss.Ins→Bool) (fid:FuncId) (caps:List V) (hc:callable Tryz.prog fid=true) (hl:l.length<2^63) (h : ∀ x∈l,VPure Tryz.prog fid ([encIns x]++caps) (.bool (p x))) :
  VPure Tryz.prog 72 [vl (encIns) l, .func fid caps] (vint (findI p l 0)):=by
 intro S
 refine vcalls_start (c:=bodyOf Tryz.f72) Tryz.func72 rfl rfl (by simp [Tryz.ntmps72]) ?_
 rw [Tryz.ntmps72]
 intro hwf
 repeat (first|refine QG ?_|refine QX (r:=by conv=>lhs;simp[-List.map_set,QV]) (k:=?_))
 repeat refine QS ?_
 refine vw_loopAt [0,1,7,8] rfl (fun c σ S' => ∃ (k:Nat),k≤l.length∧c=l.length-k∧findI p (l.drop k) k=findI p l 0∧σ=[(0,vl (encIns) l),(1, .func fid caps),(7,vnat l.length),(8,vnat k)]∧S'=St S [] []) l.length ?_ ?_
 ·exact ⟨0,by omega,rfl,rfl,by simp [Fr.only],rfl⟩
 ·rintro c σ T ⟨k,hk,rfl,hd,rfl,rfl⟩
  by_cases hkt:k<l.length
  ·have hst:findI p (l.drop k) k=if p l[k] then (k:Int) else findI p (l.drop (k+1)) (k+1):=by rw [List.drop_eq_getElem_cons hkt,findI]
   have hw:=wrapNat hkt hl
   repeat (first|refine QG ?_|refine QX (r:=by conv=>lhs;simp[-List.map_set,QV,hkt]) (k:=?_))
   repeat refine QS ?_
   refine QR (r:=by conv=>lhs;simp[-List.map_set,QV,hkt]) (k:=?_)
   refine vcallv_use rfl hc rfl (h _ (List.getElem_mem hkt)) ?_
   refine QM (by conv=>lhs;simp[-List.map_set,QV]) ?_
   refine QN ?_
   cases hp:p l[k] with
   | true =>
    rw [hp] at hst
    repeat (first|refine QG ?_|refine QX (r:=by conv=>lhs;simp[-List.map_set,QV,hp]) (k:=?_))
    exact done_pure hwf (by rw [←hd,hst]; rfl) rfl
   | false =>
    rw [hp] at hst
    repeat (first|refine QG ?_|refine QX (r:=by conv=>lhs;simp[-List.map_set,QV,hp]) (k:=?_))
    show Again _ _ _ _ _ _ _
    exact again ⟨Nat.sub_lt_sub_left hkt (Nat.lt_succ_self k),k+1,hkt,rfl,by rw [←hd,hst]; rfl,by simp [Fr.only,hw],rfl⟩
  ·have e:l.drop k=[]:=by rw [List.drop_eq_nil_iff]; omega
   rw [e] at hd
   repeat (first|refine QG ?_|refine QX (r:=by conv=>lhs;simp[-List.map_set,QV,hkt]) (k:=?_))
   exact done_pure hwf (by rw [←hd]; rfl) rfl
theorem AnyN_v (l:List (Ss.Ins)) (p:Ss.Ins→Bool) (fid:FuncId) (caps:List V) (hc:callable Tryz.prog fid=true) (hl:l.length<2^63) (h : ∀ x∈l,VPure Tryz.prog fid ([encIns x]++caps) (.bool (p x))) :
  VPure Tryz.prog 121 [vl (encIns) l, .func fid caps] (.bool (l.any p)):=by
 intro S
 refine vcalls_start (c:=bodyOf Tryz.f121) Tryz.func121 rfl rfl (by simp [Tryz.ntmps121]) ?_
 rw [Tryz.ntmps121]
 intro hwf
 rw [←findI_any p l 0]
 repeat (first|refine QG ?_|refine QX (r:=by conv=>lhs;simp[-List.map_set,QV]) (k:=?_))
 repeat refine QS ?_
 refine QR (r:=by conv=>lhs;simp[-List.map_set,QV]) (k:=?_)
 refine vcall_use rfl (IndexN_v l p fid caps hc hl h) ?_
 refine QM (by conv=>lhs;simp[-List.map_set,QV]) ?_
 refine QN ?_
 repeat (first|refine QG ?_|refine QX (r:=by conv=>lhs;simp[-List.map_set,QV]) (k:=?_))
 exact done_pure hwf rfl rfl
end Go.Vw

/-
  Regions that draw, with two allocations that stand in no order: a walk for each of the two orders.
-/
namespace Go.Vw
open Go.RowKit
def addAfter (ops:Array Oper) (j i:Nat):Array Oper:=ops.modify j fun o=>{ o with after:=o.after.push ⟨i, .data⟩ }
theorem addAfter_size (ops:Array Oper) (j i:Nat):(addAfter ops j i).size=ops.size:=by simp [addAfter]
theorem addAfter_other (ops:Array Oper) {j i k:Nat} (h:k≠j):(addAfter ops j i)[k]? = ops[k]? := by
  simp only [addAfter,Array.getElem?_modify]
  rw [if_neg (Ne.symm h)]
theorem addAfter_at (ops:Array Oper) {j i:Nat} {o:Oper} (h:ops[j]? = some o):(addAfter ops j i)[j]? = some { o with after:=o.after.push ⟨i, .data⟩ }:=by
  simp only [addAfter,Array.getElem?_modify,if_true,h,Option.map_some]
theorem ready_sub {ops:Array Oper} {i j k:Nat} {listed:Array Bool} (h:k∈Region.ready .any (addAfter ops j i) listed):k∈Region.ready .any ops listed:=by
  obtain ⟨h1,o,ho,hall⟩:=mem_ready.1 h
  by_cases e:k=j
  · subst e
    cases hk:ops[k]? with
    | none =>
      have:(addAfter ops k i).size≤k:=by rw [addAfter_size]; exact Array.getElem?_eq_none_iff.1 hk
      rw [Array.getElem?_eq_none this] at ho; cases ho
    | some o' =>
      rw [addAfter_at ops hk] at ho
      cases ho
      exact mem_ready.2 ⟨h1,o',hk,fun e he=>hall e (by simp [he])⟩
  · rw [addAfter_other ops e] at ho
    exact mem_ready.2 ⟨h1,o,ho,hall⟩
theorem ready_sup {ops:Array Oper} {i j k:Nat} {listed:Array Bool} (h:k∈Region.ready .any ops listed) (hk:k≠j∨listed.getD i false=true):k∈Region.ready .any (addAfter ops j i) listed:=by
  obtain ⟨h1,o,ho,hall⟩:=mem_ready.1 h
  by_cases e:k=j
  · subst e
    have hi:=hk.resolve_left (fun h=>h rfl)
    refine mem_ready.2 ⟨h1,_,addAfter_at ops ho,fun e he hb => ?_⟩
    simp only [Array.mem_push] at he
    rcases he with he | rfl
    · exact hall e he hb
    · exact hi
  · exact mem_ready.2 ⟨h1,o,by rw [addAfter_other ops e]; exact ho,hall⟩
section
variable {P:Program} {Z:ZZ} {ops:Array Oper} {cs:List CO} {Q:Ff→Store→Prop}
theorem set_true_i {listed:Array Bool} {i k:Nat} (h:listed.getD i false=true):(listed.setIfInBounds k true).getD i false=true:=by
  by_cases e:k=i
  · subst e
    have:k<listed.size:=by
      rcases Nat.lt_or_ge k listed.size with h' | h'
      · exact h'
      · simp [Array.getElem?_eq_none h'] at h
    simp [this]
  · rw [getD_set_ne false e]; exact h
theorem anyZ_same {i j:Nat} : ∀ (n:Nat) (listed:Array Bool) (τ:Ff) (S:Store),listed.getD i false=true→anyZ P Z (addAfter ops j i) cs Q n listed τ S→anyZ P Z ops cs Q n listed τ S
  | 0,listed,τ,S,hi,h=>⟨List.eq_nil_iff_forall_not_mem.2 fun k hk=>(by have:=ready_sup (i:=i) (j:=j) hk (.inr hi); rw [h.1] at this; cases this),h.2⟩
  | n+1,listed,τ,S,hi,h=>by
    refine ⟨fun h0=>h.1 (List.eq_nil_iff_forall_not_mem.2 fun k hk=>by have:=ready_sub hk; rw [h0] at this; cases this),fun k hk => ?_⟩
    exact atZ_mono (fun τ S=>anyZ_same n _ τ S (set_true_i hi)) (h.2 k (ready_sup hk (.inr hi)))
theorem yieldZ_det {o:CO} {v v':V} {τ:Ff} {S S1 S1':Store} (hc:o.op.isCall=false) (h:yieldZ P Z o v τ S S1) (h':yieldZ P Z o v' τ S S1'):v=v'∧S1=S1':=by
  have rd : ∀ {Y:Store} {v v':V},readV P Y τ o.op v→readV P Y τ o.op v'→v=v':=by
    intro Y v v' h h'
    cases hop:o.op with
    | call f a=>rw [hop] at hc; simp [COp.isCall] at hc
    | callv f a=>rw [hop] at hc; simp [COp.isCall] at hc
    | _ =>
      rw [hop] at h h'
      simp only [readV] at h h'
      obtain ⟨Z1,e1⟩:=h
      obtain ⟨Z2,e2⟩:=h'
      rw [e1] at e2
      exact (Prod.mk.inj (Option.some.inj e2)).1
  rcases h with ⟨w1,h⟩ | ⟨w1,rfl,rfl⟩
  · rcases h' with ⟨w2,h'⟩ | ⟨w2,_,_⟩
    · rcases h with ⟨r1,rfl,k1⟩ | ⟨r1,k1,_⟩
      · rcases h' with ⟨r2,rfl,k2⟩ | ⟨r2,k2,_⟩
        · exact ⟨rd k1 k2,rfl⟩
        · rw [r1] at r2; cases r2
      · rcases h' with ⟨r2,rfl,k2⟩ | ⟨r2,k2,_⟩
        · rw [r1] at r2; cases r2
        · have wv : ∀ {v:V} {S1:Store},writeV P (trnL Z.es o.dst) τ S o.op v S1→evalOp (evf τ) S o.op=some (v,S1):=by
            intro v S1 h
            cases hop:o.op with
            | call f a=>rw [hop] at hc; simp [COp.isCall] at hc
            | callv f a=>rw [hop] at hc; simp [COp.isCall] at hc
            | _=>rw [hop] at h; exact h
          have e1:=wv k1
          have e2:=wv k2
          rw [e1] at e2; cases e2; exact ⟨rfl,rfl⟩
    · rw [w1] at w2; cases w2
  · rcases h' with ⟨w2,h'⟩ | ⟨w2,rfl,rfl⟩
    · rw [w1] at w2; cases w2
    · exact ⟨rfl,rfl⟩
theorem anyZ_two {i j:Nat} (hij:i≠j) (hdet : ∀ (k:Nat) o,cs[k]? = some o→o.op.isCall=false) (hlen:cs.length=ops.size) : ∀ (n:Nat) (listed:Array Bool) (τ:Ff) (S:Store),listed.getD i true=false→listed.getD j true=false →
    anyZ P Z (addAfter ops j i) cs Q n listed τ S→anyZ P Z (addAfter ops i j) cs Q n listed τ S→anyZ P Z ops cs Q n listed τ S
  | 0,listed,τ,S,hi,hj,h1,h2=>⟨List.eq_nil_iff_forall_not_mem.2 fun k hk=>(by
      by_cases e:k=j
      · have:=ready_sup (i:=j) (j:=i) hk (.inl (by omega)); rw [h2.1] at this; cases this
      · have:=ready_sup (i:=i) (j:=j) hk (.inl e); rw [h1.1] at this; cases this),h1.2⟩
  | n+1,listed,τ,S,hi,hj,h1,h2=>by
    have lt : ∀ {k:Nat},listed.getD k true=false→(listed.setIfInBounds k true).getD k false=true:=by
      intro k hk
      have:k<listed.size:=by
        rcases Nat.lt_or_ge k listed.size with h' | h'
        · exact h'
        · simp [Array.getElem?_eq_none h'] at hk
      simp [this]
    refine ⟨fun h0=>h1.1 (List.eq_nil_iff_forall_not_mem.2 fun k hk=>by have:=ready_sub hk; rw [h0] at this; cases this),fun k hk => ?_⟩
    by_cases ei:k=i
    · subst ei
      exact atZ_mono (fun τ S=>anyZ_same n _ τ S (lt hi)) (h1.2 k (ready_sup hk (.inl hij)))
    by_cases ej:k=j
    · subst ej
      exact atZ_mono (fun τ S=>anyZ_same n _ τ S (lt hj)) (h2.2 k (ready_sup hk (.inl ei)))
    have k1:=h1.2 k (ready_sup hk (.inl ej))
    have k2:=h2.2 k (ready_sup hk (.inl ei))
    obtain ⟨_,o',ho',_⟩:=mem_ready.1 hk
    have hlt:k<cs.length:=by rw [hlen]; exact (Array.getElem?_eq_some_iff.1 ho').1
    have hok:cs[k]? = some cs[k]:=List.getElem?_eq_getElem hlt
    simp only [atZ,hok] at k1 k2 ⊢
    rw [stepZ_yield] at k1 k2 ⊢
    obtain ⟨v,S1,y1,n1⟩:=k1
    obtain ⟨v',S1',y2,n2⟩:=k2
    obtain ⟨rfl,rfl⟩:=yieldZ_det (hdet k _ hok) y1 y2
    exact ⟨v,S1,y1,anyZ_two hij hdet hlen n _ _ _ (by rw [getD_set_ne true ei]; exact hi) (by rw [getD_set_ne true ej]; exact hj) n1 n2⟩
theorem walkZ_mono {Q':Ff→Store→Prop} (hq : ∀ τ S,Q τ S→Q' τ S) : ∀ {l:List CO} {τ:Ff} {S:Store},walkZ P Z Q l τ S→walkZ P Z Q' l τ S
  | [],τ,S,h=>hq τ S h
  | o::r,τ,S,h=>by
    simp only [walkZ] at h ⊢
    rw [stepZ_yield] at h ⊢
    obtain ⟨v,S1,h1,h2⟩:=h
    exact ⟨v,S1,h1,walkZ_mono hq h2⟩
def lexO (es ms:List Nat) (ops:Array Oper) (cs:List CO):List Nat→Array Bool→Bool
  | [],listed=>(Region.ready .any ops listed).isEmpty
  | k::ord,listed=>(Region.ready .any ops listed).contains k &&
      (match cs[k]? with
       | some oi=>(List.range cs.length).all fun j=>j==k||listed.getD j true||waitM ms k j||(match cs[j]? with
          | some oj=>oi.apart oj&&(isRd es oi||isRd es oj)
          | none=>true)
       | none=>false)&&lexO es ms ops cs ord (listed.setIfInBounds k true)
def pickO (cs:List CO) (ord:List Nat):List CO:=ord.filterMap fun k=>cs[k]?
theorem anyZ_ord (hlen:cs.length=ops.size) : ∀ (ord:List Nat) (listed:Array Bool) (τ:Ff) (S:Store),closedL ops listed→lexO Z.es (masks ops) ops cs ord listed=true→walkZ P Z Q (pickO cs ord) τ S→anyZ P Z ops cs Q ord.length listed τ S
  | [],_,_,_,_,hB,h=>⟨by simpa [lexO] using hB,h⟩
  | k::ord,listed,τ,S,hcl,hB,h=>by
    simp only [lexO,Bool.and_eq_true] at hB
    obtain ⟨⟨hr,hf⟩,hB'⟩:=hB
    cases h0:cs[k]? with
    | none=>rw [h0] at hf; cases hf
    | some o =>
    have hp:pickO cs (k::ord)=o::pickO cs ord:=by simp [pickO,h0]
    rw [hp] at h
    simp only [walkZ] at h
    rw [stepZ_yield] at h
    obtain ⟨v,S1,hy,hK⟩:=h
    have hr':k∈Region.ready .any ops listed:=by simpa using hr
    refine anyZ_first h0 hlen ord.length listed τ S S1 hcl (fun j oj hj hne hun hno => ?_) hr' hy (anyZ_ord hlen ord _ _ _ (closedL_set hcl hr') hB' hK)
    simp only [h0,List.all_eq_true,List.mem_range] at hf
    have h1:=hf j (List.getElem?_eq_some_iff.1 hj).1
    have hnm:waitM (masks ops) k j=false:=by
      cases hm:waitM (masks ops) k j with
      | false=>rfl
      | true=>obtain ⟨n,hn⟩:=waitM_waits hm; rw [hno n] at hn; cases hn
    simp only [hj,Bool.or_eq_true,beq_iff_eq,hne,false_or,hun,Bool.false_eq_true,hnm,Bool.and_eq_true] at h1
    exact h1
end
section
variable {P:Program} {N b:Nat} {Q:Exit→Fr→Store→Prop} {σ:Fr} {S:Store}
theorem vw_region_two {id:Nat} {ops:Array Oper} {cs:List CO} {Z:ZZ} {i j:Nat} {ord1 ord2:List Nat} (hm:P.follows .mixedOrders=true) (hc:compOps P N ops=some cs) (hnc:cs.all (fun o => !o.op.isCall)=true) (hij:i≠j) (hi:i<ops.size) (hj:j<ops.size)
    (hB1:lexO Z.es (masks (addAfter ops j i)) (addAfter ops j i) cs ord1 (Array.replicate ops.size false)=true) (hB2:lexO Z.es (masks (addAfter ops i j)) (addAfter ops i j) cs ord2 (Array.replicate ops.size false)=true)
    (hn1:ord1.length=ops.size) (hn2:ord2.length=ops.size) (hE:earlyOk (masks ops) cs Z.es=true) (hz:Z.ok S) (h0:Z.z0.Sub S)
    (H1:walkZ P Z (fun τ S => ∃ σ':Fr,σ'.look=τ∧Q .normal σ' S) (pickO cs ord1) σ.look S) (H2:walkZ P Z (fun τ S => ∃ σ':Fr,σ'.look=τ∧Q .normal σ' S) (pickO cs ord2) σ.look S):VWp P N b (.region id ops true) Q σ S:=by
  intro m β w a hS hF
  obtain ⟨hlen,_⟩:=comp_at hc
  refine wp_region_any hm ?_
  have hcl : ∀ ops':Array Oper,ops'.size=ops.size→closedL ops' (Array.replicate ops.size false):=by
    intro ops' he i o ho hi
    have:i<ops'.size:=(Array.getElem?_eq_some_iff.1 ho).1
    rw [he] at this
    simp [this] at hi
  have a1:=anyZ_ord (P:=P) (Z:=Z) (ops:=addAfter ops j i) (by rw [addAfter_size]; exact hlen) ord1 _ σ.look S (hcl _ (addAfter_size _ _ _)) hB1 H1
  have a2:=anyZ_ord (P:=P) (Z:=Z) (ops:=addAfter ops i j) (by rw [addAfter_size]; exact hlen) ord2 _ σ.look S (hcl _ (addAfter_size _ _ _)) hB2 H2
  rw [hn1] at a1
  rw [hn2] at a2
  have:=anyZ_two hij (fun k o hk=>by
    simp only [List.all_eq_true] at hnc
    have:=hnc o (List.mem_of_getElem? hk)
    simpa using this) hlen ops.size _ σ.look S (by simp [hi]) (by simp [hj]) a1 a2
  exact anyZ_sound hc hE ops.size _ σ S m β _ a this (hcl ops rfl) hz (fun _=>h0) hS.drew hF ((Ext.drew m β w).toB b)
theorem vw_drawTwo {c c2:Code} {cs:List CO} {Q2:Exit→Fr→Store→Prop} {σm:Fr} {Sm:Store} (Z:ZZ) (i j:Nat) (ord1 ord2:List Nat) (h:Code.kind c=2) (hm:P.follows .mixedOrders=true) (hc:compOps P N (Code.ops c)=some cs) (hnc:cs.all (fun o => !o.op.isCall)=true) (hij:i≠j)
    (hi:decide (i<(Code.ops c).size)=true) (hj:decide (j<(Code.ops c).size)=true)
    (hB1:lexO Z.es (masks (addAfter (Code.ops c) j i)) (addAfter (Code.ops c) j i) cs ord1 (Array.replicate (Code.ops c).size false)=true) (hB2:lexO Z.es (masks (addAfter (Code.ops c) i j)) (addAfter (Code.ops c) i j) cs ord2 (Array.replicate (Code.ops c).size false)=true)
    (hn1:ord1.length=(Code.ops c).size) (hn2:ord2.length=(Code.ops c).size) (hes:Z.es=[]) (hz:Z.ok S) (h0:Z.z0.Sub S)
    {cs1 cs2:List CO} (hp1:pickO cs ord1=cs1) (hp2:pickO cs ord2=cs2)
    (H1:vsegG P (some Z) cs1 (fun σ S=>Reach N b σ S σm Sm) σ S) (H2:vsegG P (some Z) cs2 (fun σ S=>Reach N b σ S σm Sm) σ S) (H:VWp P N b c2 Q2 σm Sm):VWp P N b c (thenV (VWp P N b c2 Q2) Q) σ S:=by
  subst hp1
  subst hp2
  cases c with
  | region id ops d =>
    cases d
    · simp [Code.kind] at h
    · refine vw_region_two hm hc hnc hij (of_decide_eq_true hi) (of_decide_eq_true hj) hB1 hB2 hn1 hn2 (by rw [hes]; exact earlyOk_nil _ _) hz h0 ?_ ?_
      · exact walkZ_mono (fun τ S=>fun ⟨σ',e,hr⟩=>⟨σ',e,vw_reach hr H⟩) (vsegG_some _ σ S H1)
      · exact walkZ_mono (fun τ S=>fun ⟨σ',e,hr⟩=>⟨σ',e,vw_reach hr H⟩) (vsegG_some _ σ S H2)
  | _=>simp [Code.kind] at h
end
/-! ### .. behind a part that stands in the order of the text -/
section
variable {P:Program} {Z:ZZ} {ops:Array Oper} {cs:List CO} {Q:Ff→Store→Prop}
def lexPre (es ms:List Nat) (ops:Array Oper) (cs:List CO):Nat→Nat→Array Bool→Bool
  | 0,_,_=>true
  | n+1,k,listed=>(Region.ready .any ops listed).contains k &&
      (match cs[k]? with
       | some oi=>(List.range cs.length).all fun j=>j==k||listed.getD j true||waitM ms k j||(match cs[j]? with
          | some oj=>oi.apart oj&&(isRd es oi||isRd es oj)
          | none=>true)
       | none=>false)&&lexPre es ms ops cs n (k+1) (listed.setIfInBounds k true)
def setFrom:Nat→Nat→Array Bool→Array Bool
  | 0,_,l=>l
  | n+1,k,l=>setFrom n (k+1) (l.setIfInBounds k true)
theorem anyZ_pre (hlen:cs.length=ops.size) {fuel:Nat} : ∀ (l:List CO) (k:Nat) (listed:Array Bool) (τ:Ff) (S:Store),(∀ j<l.length,l[j]? = cs[k+j]?)→closedL ops listed→lexPre Z.es (masks ops) ops cs l.length k listed=true →
    walkZ P Z (fun τ S=>anyZ P Z ops cs Q fuel (setFrom l.length k listed) τ S) l τ S→anyZ P Z ops cs Q (fuel+l.length) listed τ S
  | [],_,_,_,_,_,_,_,h=>h
  | o::l,k,listed,τ,S,hl,hcl,hB,h=>by
    have h0:cs[k]? = some o:=by simpa using (hl 0 (by simp)).symm
    simp only [List.length_cons,lexPre,Bool.and_eq_true,h0] at hB
    obtain ⟨⟨hr,hf⟩,hB'⟩:=hB
    simp only [walkZ] at h
    rw [stepZ_yield] at h
    obtain ⟨v,S1,hy,hK⟩:=h
    have hr':k∈Region.ready .any ops listed:=by simpa using hr
    refine anyZ_first h0 hlen (fuel+l.length) listed τ S S1 hcl (fun j oj hj hne hun hno => ?_) hr' hy (anyZ_pre hlen l (k+1) _ _ _ (fun j hj=>by have:=hl (j+1) (by simp; omega); simpa [Nat.add_assoc,Nat.add_comm 1 j] using this) (closedL_set hcl hr') hB' hK)
    simp only [List.all_eq_true,List.mem_range] at hf
    have h1:=hf j (List.getElem?_eq_some_iff.1 hj).1
    have hnm:waitM (masks ops) k j=false:=by
      cases hm:waitM (masks ops) k j with
      | false=>rfl
      | true=>obtain ⟨n,hn⟩:=waitM_waits hm; rw [hno n] at hn; cases hn
    simp only [hj,Bool.or_eq_true,beq_iff_eq,hne,false_or,hun,Bool.false_eq_true,hnm,Bool.and_eq_true] at h1
    exact h1
theorem closedL_from (hlen:cs.length=ops.size) {es:List Nat} : ∀ (n k:Nat) (listed:Array Bool),closedL ops listed→lexPre es (masks ops) ops cs n k listed=true→closedL ops (setFrom n k listed)
  | 0,_,_,h,_=>h
  | n+1,k,listed,h,hB=>by
    simp only [lexPre,Bool.and_eq_true] at hB
    exact closedL_from hlen n (k+1) _ (closedL_set h (by simpa using hB.1.1)) hB.2
theorem closedL_after {listed:Array Bool} {i j:Nat} (h:closedL ops listed) (hj:listed.getD j true=false):closedL (addAfter ops j i) listed:=by
  intro k o ho hk
  by_cases e:k=j
  · subst e; rw [hj] at hk; cases hk
  · rw [addAfter_other ops e] at ho
    exact h k o ho hk
theorem anyZ_twoL {i j:Nat} (hij:i≠j) (hlen:cs.length=ops.size) : ∀ (n:Nat) (listed:Array Bool) (τ:Ff) (S:Store),(∀ (k:Nat) o,cs[k]? = some o→k≠i→k≠j→listed.getD k true=false→o.op.isCall=false)→listed.getD i true=false→listed.getD j true=false →
    anyZ P Z (addAfter ops j i) cs Q n listed τ S→anyZ P Z (addAfter ops i j) cs Q n listed τ S→anyZ P Z ops cs Q n listed τ S
  | 0,listed,τ,S,_,hi,hj,h1,h2=>⟨List.eq_nil_iff_forall_not_mem.2 fun k hk=>(by
      by_cases e:k=j
      · have:=ready_sup (i:=j) (j:=i) hk (.inl (by omega)); rw [h2.1] at this; cases this
      · have:=ready_sup (i:=i) (j:=j) hk (.inl e); rw [h1.1] at this; cases this),h1.2⟩
  | n+1,listed,τ,S,hdet,hi,hj,h1,h2=>by
    have lt : ∀ {k:Nat},listed.getD k true=false→(listed.setIfInBounds k true).getD k false=true:=by
      intro k hk
      have:k<listed.size:=by
        rcases Nat.lt_or_ge k listed.size with h' | h'
        · exact h'
        · simp [Array.getElem?_eq_none h'] at hk
      simp [this]
    refine ⟨fun h0=>h1.1 (List.eq_nil_iff_forall_not_mem.2 fun k hk=>by have:=ready_sub hk; rw [h0] at this; cases this),fun k hk => ?_⟩
    by_cases ei:k=i
    · subst ei
      exact atZ_mono (fun τ S=>anyZ_same n _ τ S (lt hi)) (h1.2 k (ready_sup hk (.inl hij)))
    by_cases ej:k=j
    · subst ej
      exact atZ_mono (fun τ S=>anyZ_same n _ τ S (lt hj)) (h2.2 k (ready_sup hk (.inl ei)))
    have k1:=h1.2 k (ready_sup hk (.inl ej))
    have k2:=h2.2 k (ready_sup hk (.inl ei))
    obtain ⟨hun,o',ho',_⟩:=mem_ready.1 hk
    have hlt:k<cs.length:=by rw [hlen]; exact (Array.getElem?_eq_some_iff.1 ho').1
    have hok:cs[k]? = some cs[k]:=List.getElem?_eq_getElem hlt
    simp only [atZ,hok] at k1 k2 ⊢
    rw [stepZ_yield] at k1 k2 ⊢
    obtain ⟨v,S1,y1,n1⟩:=k1
    obtain ⟨v',S1',y2,n2⟩:=k2
    obtain ⟨rfl,rfl⟩:=yieldZ_det (hdet k _ hok ei ej hun) y1 y2
    refine ⟨v,S1,y1,anyZ_twoL hij hlen n _ _ _ (fun k' o hk' h3 h4 h5=>hdet k' o hk' h3 h4 ?_) (by rw [getD_set_ne true ei]; exact hi) (by rw [getD_set_ne true ej]; exact hj) n1 n2⟩
    by_cases e:k=k'
    · subst e; exact hun
    · rw [getD_set_ne true e] at h5; exact h5
end
section
variable {P:Program} {N b:Nat} {Q:Exit→Fr→Store→Prop} {σ:Fr} {S:Store}
def callsOk (cs:List CO) (i j n0:Nat):Bool:=(List.range cs.length).all fun k=>decide (k<n0)||k==i||k==j||(match cs[k]? with | some o => !o.op.isCall | none=>true)
theorem vw_drawSplit {c c2:Code} {cs:List CO} {Q2:Exit→Fr→Store→Prop} (Z:ZZ) (n0 i j:Nat) (ord1 ord2:List Nat) (h:Code.kind c=2) (hm:P.follows .mixedOrders=true) (hc:compOps P N (Code.ops c)=some cs) (hnc:callsOk cs i j n0=true) (hij:i≠j)
    (hp:lexPre Z.es (masks (Code.ops c)) (Code.ops c) cs n0 0 (Array.replicate (Code.ops c).size false)=true)
    (hi:(setFrom n0 0 (Array.replicate (Code.ops c).size false)).getD i true=false) (hj:(setFrom n0 0 (Array.replicate (Code.ops c).size false)).getD j true=false)
    (hu:(List.range n0).all (fun k=>(setFrom n0 0 (Array.replicate (Code.ops c).size false)).getD k true)=true)
    (hB1:lexO Z.es (masks (addAfter (Code.ops c) j i)) (addAfter (Code.ops c) j i) cs ord1 (setFrom n0 0 (Array.replicate (Code.ops c).size false))=true) (hB2:lexO Z.es (masks (addAfter (Code.ops c) i j)) (addAfter (Code.ops c) i j) cs ord2 (setFrom n0 0 (Array.replicate (Code.ops c).size false))=true)
    (hn0:decide (n0≤(Code.ops c).size)=true) (hn1:ord1.length+n0=(Code.ops c).size) (hn2:ord2.length+n0=(Code.ops c).size) (hE:earlyOk (masks (Code.ops c)) cs Z.es=true) (hz:Z.ok S) (h0:Z.z0.Sub S)
    {cs0 cs1 cs2:List CO} (hp0:cs.take n0=cs0) (hp1:pickO cs ord1=cs1) (hp2:pickO cs ord2=cs2)
    (H:vsegG P (some Z) cs0 (fun σ S => ∃ σm Sm,VWp P N b c2 Q2 σm Sm∧vsegG P (some Z) cs1 (fun σ S=>Reach N b σ S σm Sm) σ S∧vsegG P (some Z) cs2 (fun σ S=>Reach N b σ S σm Sm) σ S) σ S):VWp P N b c (thenV (VWp P N b c2 Q2) Q) σ S:=by
  subst hp0
  subst hp1
  subst hp2
  cases c with
  | region id ops d =>
    cases d
    · simp [Code.kind] at h
    · intro m β w a hS hF
      simp only [Code.ops] at *
      obtain ⟨hlen,_⟩:=comp_at hc
      refine wp_region_any hm ?_
      have hcl:closedL ops (Array.replicate ops.size false):=by
        intro i o ho hi
        have:i<ops.size:=(Array.getElem?_eq_some_iff.1 ho).1
        simp [this] at hi
      have hle:n0≤cs.length:=by rw [hlen]; exact of_decide_eq_true hn0
      have hl0:(cs.take n0).length=n0:=by rw [List.length_take,Nat.min_eq_left hle]
      have hcl1:=closedL_from hlen n0 0 _ hcl hp
      have key:walkZ P Z (fun τ S=>anyZ P Z ops cs (fun τ S => ∃ σ':Fr,σ'.look=τ∧(thenV (VWp P N b c2 Q2) Q) .normal σ' S) ord1.length (setFrom n0 0 (Array.replicate ops.size false)) τ S) (cs.take n0) σ.look S:=by
        refine walkZ_mono (fun τ S => ?_) (vsegG_some _ σ S H)
        rintro ⟨σ1,rfl,σm,Sm,hQ,H1,H2⟩
        have a1:=anyZ_ord (P:=P) (Z:=Z) (Q:=fun τ S => ∃ σ':Fr,σ'.look=τ∧(thenV (VWp P N b c2 Q2) Q) .normal σ' S) (ops:=addAfter ops j i) (by rw [addAfter_size]; exact hlen) ord1 _ σ1.look S (closedL_after hcl1 hj) hB1 (walkZ_mono (fun τ S=>fun ⟨σ',e,hr⟩=>⟨σ',e,vw_reach hr hQ⟩) (vsegG_some _ σ1 S H1))
        have a2:=anyZ_ord (P:=P) (Z:=Z) (Q:=fun τ S => ∃ σ':Fr,σ'.look=τ∧(thenV (VWp P N b c2 Q2) Q) .normal σ' S) (ops:=addAfter ops i j) (by rw [addAfter_size]; exact hlen) ord2 _ σ1.look S (closedL_after hcl1 hi) hB2 (walkZ_mono (fun τ S=>fun ⟨σ',e,hr⟩=>⟨σ',e,vw_reach hr hQ⟩) (vsegG_some _ σ1 S H2))
        rw [show ord2.length=ord1.length by omega] at a2
        refine anyZ_twoL hij hlen ord1.length _ σ1.look S (fun k o hk h3 h4 h5 => ?_) hi hj a1 a2
        simp only [callsOk,List.all_eq_true,List.mem_range] at hnc
        have hh:=hnc k (List.getElem?_eq_some_iff.1 hk).1
        have h6 : ¬ k<n0:=fun h6=>by
          simp only [List.all_eq_true,List.mem_range] at hu
          rw [hu k h6] at h5; cases h5
        simpa [h6,h3,h4,hk] using hh
      have:=anyZ_pre (P:=P) (Z:=Z) hlen (cs.take n0) 0 (Array.replicate ops.size false) σ.look S (fun q hq=>by rw [Nat.zero_add,List.getElem?_take,if_pos (by omega)]) hcl (by rw [hl0]; exact hp) (by rw [hl0]; exact key)
      rw [hl0,hn1] at this
      exact anyZ_sound hc hE ops.size _ σ S m β _ a this hcl hz (fun _=>h0) hS.drew hF ((Ext.drew m β w).toB b)
  | _=>simp [Code.kind] at h
end
theorem reach_only {N b:Nat} {σ σ':Fr} {S:Store} (ks:List Nat) (h:σ.only ks=σ'):Reach N b σ S σ' S:=by subst h; exact Reach.only ks
theorem reach_swap {N:Nat} {σ σ1 σ':Fr} {B:Store} {u u':Upds} {l l':List (Option (Nat × List V))} (ks gs:List Nat) (hσ1:σ.only ks=σ1) (hw:B.Wf) (h1:gs.Nodup) (h2:(gcOkU B.nx gs u&&gcOkL B.nx gs l gs&&idsF (gcP B.nx gs) σ1)=true)
    (hu:gcU B.nx gs u=u') (hl:gcL B.nx gs l gs=l') (hσ:renF (gcTo B.nx gs) σ1=σ'):Reach N B.nx σ (St B u l) σ' (St B u' l') :=
  (reach_only ks hσ1).trans (Reach.gc gs hw h1 h2 hu hl hσ)
end Go.Vw
