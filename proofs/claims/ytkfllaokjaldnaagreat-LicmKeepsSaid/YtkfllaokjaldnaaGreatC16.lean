import Derived.Test.YtkfllaokjaldnaaGreatC15
import Derived.Test.YtkfllaokjaldnaaGreatC11
import Derived.Test.YtkfllaokjaldnaaGreatProg
/-
  Part of the proof (texts SRingP, SIdx, VTwo).
-/
set_option linter.unusedVariables false
set_option linter.unusedSimpArgs false
/-
 Circles of blocks, by a walk in depth: the walk ends.
-/
namespace Ss
def tickB (b:Block):Bool:=b.code.any fun x=>decide (x.op=258)
mutual
def ringW (tick:List Bool) (g:List (List Nat)):Nat→Nat→List Nat→Option (Bool × List Nat)
 | 0,_,_=>none
 | fuel+1,n,st=>if tick.getD n false then some (false,st) else
   match ringL tick g fuel (g.getD n []) (st.set n 1) with
   | some (true,s)=>some (true,s)
   | some (false,s)=>some (false,s.set n 2)
   | none=>none
 termination_by fuel _ _=>(fuel,0)
def ringL (tick:List Bool) (g:List (List Nat)):Nat→List Nat→List Nat→Option (Bool × List Nat)
 | _,[],st=>some (false,st)
 | fuel,k::ks,st=>if st.getD k 0=1 then some (true,st) else if st.getD k 0=0 then
   match ringW tick g fuel k st with
   | some (true,s)=>some (true,s)
   | some (false,s)=>ringL tick g fuel ks s
   | none=>none
  else ringL tick g fuel ks st
 termination_by fuel ks _=>(fuel,ks.length+1)
end
def ringM (tick:List Bool) (g:List (List Nat)) (fuel:Nat):List Nat→List Nat→Option Bool
 | [],_=>some false
 | n::ns,st=>if st.getD n 0=0 then
   match ringW tick g fuel n st with
   | some (true,_)=>some true
   | some (false,s)=>ringM tick g fuel ns s
   | none=>none
  else ringM tick g fuel ns st
def JK (st:List Nat):Nat:=(st.filter fun x=>decide (x=0)).length
theorem Zn (v:Nat) : ∀ (st:List Nat) (n:Nat),v≠0→JK (st.set n v)≤JK st∧(n<st.length→st.getD n 1=0→JK (st.set n v)+1=JK st)
 | [],n,_=>by simp [JK]
 | x::st,0,hv=>by
  have e:JK ((x::st).set 0 v)=JK st:=by simp [JK,hv]
  rw [e];refine ⟨?_,fun _ h => ?_⟩
  ·simp only [JK,List.filter_cons];split<;>simp
  ·simp at h; subst h; simp [JK]
 | x::st,n+1,hv=>by
  obtain ⟨h1,h2⟩:=Zn v st n hv;simp only [JK,List.set_cons_succ,List.filter_cons] at h1 h2 ⊢;split
  ·simp only [List.length_cons];refine ⟨by omega,fun h3 h4 => ?_⟩;have:=h2 (by simpa using h3) (by simpa using h4);omega
  ·exact ⟨h1,fun h3 h4=>h2 (by simpa using h3) (by simpa using h4)⟩
theorem zeros_le (st:List Nat):JK st≤st.length:=List.length_filter_le _ _
section
variable {tick:List Bool} {g:List (List Nat)}
theorem Yf {N fuel:Nat} (hg : ∀ n, ∀ k∈g.getD n [],k<N)
  (ih : ∀ n st,n<N→st.length=N→st.getD n 0=0→JK st<fuel → ∃ r s,ringW tick g fuel n st=some (r,s)∧JK s≤JK st∧s.length=st.length) :
  ∀ (ks st:List Nat),(∀ k∈ks,k<N)→st.length=N→JK st<fuel → ∃ r s,ringL tick g fuel ks st=some (r,s)∧JK s≤JK st∧s.length=st.length
 | [],st,_,_,_=>⟨false,st,by rw [ringL],Nat.le_refl _,rfl⟩
 | k::ks,st,hk,hl,hz=>by
  rw [ringL];split
  ·exact ⟨true,st,rfl,Nat.le_refl _,rfl⟩
  ·split
   ·rename_i h0;obtain ⟨r,s,h1,h2,h3⟩:=ih k st (hk k (by simp)) hl h0 hz;rw [h1]
    cases r with
    | true=>exact ⟨true,s,rfl,h2,h3⟩
    | false =>
     obtain ⟨r',s',k1,k2,k3⟩:=Yf hg ih ks s (fun x hx=>hk x (by simp [hx])) (by omega) (by omega);exact ⟨r',s',k1,by omega,by omega⟩
   ·exact Yf hg ih ks st (fun x hx=>hk x (by simp [hx])) hl hz
theorem jaX {N:Nat} (hg : ∀ n, ∀ k∈g.getD n [],k<N) : ∀ (fuel n:Nat) (st:List Nat),n<N→st.length=N→st.getD n 0=0→JK st<fuel → ∃ r s,ringW tick g fuel n st=some (r,s)∧JK s≤JK st∧s.length=st.length
 | 0,_,_,_,_,_,hz=>by omega
 | fuel+1,n,st,hn,hl,h0,hz=>by
  rw [ringW];split
  ·exact ⟨false,st,rfl,Nat.le_refl _,rfl⟩
  ·have hz1:=(Zn 1 st n (by decide)).2 (by omega) (by
    rw [List.getD_eq_getElem?_getD,List.getElem?_eq_getElem (by omega)] at h0 ⊢;exact h0)
   obtain ⟨r,s,h1,h2,h3⟩:=Yf hg (fun n st=>jaX hg fuel n st) (g.getD n []) (st.set n 1) (hg n) (by simp; omega) (by omega);rw [h1];have h3':s.length=st.length:=by rw [h3]; simp
   cases r with
   | true=>exact ⟨true,s,rfl,by omega,h3'⟩
   | false =>
    have:=(Zn 2 s n (by decide)).1;exact ⟨false,s.set n 2,rfl,by omega,by simp [h3']⟩
theorem ringM_ends {N fuel:Nat} (hg : ∀ n, ∀ k∈g.getD n [],k<N) (hf:N<fuel) : ∀ (ns st:List Nat),(∀ n∈ns,n<N)→st.length=N → ∃ r,ringM tick g fuel ns st=some r
 | [],_,_,_=>⟨false,rfl⟩
 | n::ns,st,hn,hl=>by
  simp only [ringM];split
  ·rename_i h0;obtain ⟨r,s,h1,h2,h3⟩:=jaX (tick:=tick) hg fuel n st (hn n (by simp)) hl h0 (by have:=zeros_le st; omega);rw [h1]
   cases r with
   | true=>exact ⟨true,rfl⟩
   | false=>exact ringM_ends hg hf ns s (fun x hx=>hn x (by simp [hx])) (by omega)
  ·exact ringM_ends hg hf ns st (fun x hx=>hn x (by simp [hx])) hl
theorem Wy {fuel:Nat} (ih : ∀ n st r s,ringW tick g fuel n st=some (r,s)→s.length=st.length) : ∀ (ks st:List Nat) (r:Bool) (s:List Nat),ringL tick g fuel ks st=some (r,s)→s.length=st.length
 | [],st,r,s,h=>by rw [ringL] at h; cases h; rfl
 | k::ks,st,r,s,h=>by
  rw [ringL] at h;split at h
  ·cases h; rfl
  ·split at h
   ·cases hw:ringW tick g fuel k st with
    | none=>rw [hw] at h; cases h
    | some p =>
     obtain ⟨b,s1⟩:=p;rw [hw] at h;have e1:=ih k st b s1 hw
     cases b with
     | true=>cases h; exact e1
     | false=>exact (Wy ih ks s1 r s h).trans e1
   ·exact Wy ih ks st r s h
theorem ringW_len : ∀ (fuel n:Nat) (st:List Nat) (r:Bool) (s:List Nat),ringW tick g fuel n st=some (r,s)→s.length=st.length
 | 0,_,_,_,_,h=>by rw [ringW] at h; cases h
 | fuel+1,n,st,r,s,h=>by
  rw [ringW] at h;split at h
  ·cases h; rfl
  ·cases hl:ringL tick g fuel (g.getD n []) (st.set n 1) with
   | none=>rw [hl] at h; cases h
   | some p =>
    obtain ⟨b,s1⟩:=p;rw [hl] at h;have e1:=Wy (ringW_len fuel) _ _ _ _ hl
    cases b with
    | true=>cases h; simpa using e1
    | false=>cases h; simpa using e1
end
def rings (bs:List Block) (g:List (List Nat)):Bool:=(ringM (bs.map tickB) g (g.length+1) (List.range g.length) (List.replicate g.length 0)).getD false
end Ss

namespace Go.Vw
open Go.Proofs Go.RowKit
set_option maxRecDepth 10000
set_option maxHeartbeats 4000000
def qw {α:Type} (p:α→Bool):List α→Nat→Int
 | [],_ => -1
 | x::xs,k=>if p x then (k:Int) else qw p xs (k+1)
theorem Jd {α:Type} (p:α→Bool) : ∀ (l:List α) (k:Nat),decide (0≤qw p l k)=l.any p
 | [],k=>by simp [qw]
 | x::xs,k=>by
   cases h:p x
   ·simp [qw,h,Jd p xs (k+1)]
   ·simp [qw,h]
def eqF {α:Type} (p:α→α→Bool):List α→List α→Bool
 | [],[]=>true
 | x::xs,y::ys=>p x y&&eqF p xs ys
 | _,_=>false
theorem eqF_len {α:Type} {p:α→α→Bool} : ∀ {l m:List α}, ¬ l.length=m.length→eqF p l m=false
 | [],[],h=>absurd rfl h
 | [],_::_,_=>rfl
 | _::_,[],_=>rfl
 | x::xs,y::ys,h=>by rw [eqF,eqF_len (l:=xs) (m:=ys) (by simpa using h)]; simp
theorem eqF_eq {α:Type} [DecidableEq α] {p:α→α→Bool} (hp : ∀ x y,p x y=decide (x=y)) : ∀ (l m:List α),eqF p l m=decide (l=m)
 | [],[]=>by simp [eqF]
 | [],_::_=>by simp [eqF]
 | _::_,[]=>by simp [eqF]
 | x::xs,y::ys=>by rw [eqF,hp,eqF_eq hp xs ys]; simp
theorem IndexL_v (l:List (List Int)) (p:List Int→Bool) (fid:FuncId) (caps:List V) (hc:qb Tryz.prog fid=true) (hl:l.length<2^63) (h : ∀ x∈l,VPure Tryz.prog fid ([vl vint x]++caps) (.bool (p x))) :
  VPure Tryz.prog 144 [vl (vl vint) l, .func fid caps] (vint (qw p l 0)):=by
 intro S;refine jb (c:=jg Tryz.f144) Tryz.func144 rfl rfl (by simp [Tryz.ntmps144]) ?_;rw [Tryz.ntmps144];intro hwf
 repeat first|refine QG ?_|refine QY ?_
 repeat refine QS ?_
 refine je [0,1,7,8] rfl (fun c σ S' => ∃ (k:Nat),k≤l.length∧c=l.length-k∧qw p (l.drop k) k=qw p l 0∧σ=[(0,vl (vl vint) l),(1, .func fid caps),(7,vnat l.length),(8,vnat k)]∧S'=St S [] []) l.length ?_ ?_
 ·exact ⟨0,by omega,rfl,rfl,by simp [Fr.only],rfl⟩
 ·rintro c σ T ⟨k,hk,rfl,hd,rfl,rfl⟩
  by_cases hkt:k<l.length
  ·have hst:qw p (l.drop k) k=if p l[k] then (k:Int) else qw p (l.drop (k+1)) (k+1):=by rw [List.drop_eq_getElem_cons hkt,qw]
   have hw:=jn hkt hl
   repeat first|refine QG ?_|refine QY ?_ (r:=by conv=>lhs;simp[-List.map_set,QV,hkt])
   repeat refine QS ?_
   refine QP ?_ (r:=by conv=>lhs;simp[-List.map_set,QV,hkt]);refine zi rfl hc rfl (h _ (List.getElem_mem hkt)) ?_;refine QW ?_
   cases hp:p l[k] with
   | true =>
    rw [hp] at hst
    repeat first|refine QG ?_|refine QY ?_ (r:=by conv=>lhs;simp[-List.map_set,QV,hp])
    exact ja hwf (by rw [←hd,hst]; rfl) rfl
   | false =>
    rw [hp] at hst
    repeat first|refine QG ?_|refine QY ?_ (r:=by conv=>lhs;simp[-List.map_set,QV,hp])
    show jz _ _ _ _ _ _ _;exact again ⟨Nat.sub_lt_sub_left hkt (Nat.lt_succ_self k),k+1,hkt,rfl,by rw [←hd,hst]; rfl,by simp [Fr.only,hw],rfl⟩
  ·have e:l.drop k=[]:=by rw [List.drop_eq_nil_iff]; omega
   rw [e] at hd
   repeat first|refine QG ?_|refine QY ?_ (r:=by conv=>lhs;simp[-List.map_set,QV,hkt])
   exact ja hwf (by rw [←hd]; rfl) rfl
theorem AnyL_v (l:List (List Int)) (p:List Int→Bool) (fid:FuncId) (caps:List V) (hc:qb Tryz.prog fid=true) (hl:l.length<2^63) (h : ∀ x∈l,VPure Tryz.prog fid ([vl vint x]++caps) (.bool (p x))) :
  VPure Tryz.prog 128 [vl (vl vint) l, .func fid caps] (.bool (l.any p)):=by
 intro S;refine jb (c:=jg Tryz.f128) Tryz.func128 rfl rfl (by simp [Tryz.ntmps128]) ?_;rw [Tryz.ntmps128];intro hwf;rw [←Jd p l 0]
 repeat first|refine QG ?_|refine QY ?_
 repeat refine QS ?_
 refine QP ?_;refine jp rfl (IndexL_v l p fid caps hc hl h) ?_;refine QW ?_
 repeat first|refine QG ?_|refine QY ?_
 exact ja hwf rfl rfl
theorem IndexI_v (l:List (Int)) (p:Int→Bool) (fid:FuncId) (caps:List V) (hc:qb Tryz.prog fid=true) (hl:l.length<2^63) (h : ∀ x∈l,VPure Tryz.prog fid ([vint x]++caps) (.bool (p x))) :
  VPure Tryz.prog 84 [vl (vint) l, .func fid caps] (vint (qw p l 0)):=by
 intro S;refine jb (c:=jg Tryz.f84) Tryz.func84 rfl rfl (by simp [Tryz.ntmps84]) ?_;rw [Tryz.ntmps84];intro hwf
 repeat first|refine QG ?_|refine QY ?_
 repeat refine QS ?_
 refine je [0,1,7,8] rfl (fun c σ S' => ∃ (k:Nat),k≤l.length∧c=l.length-k∧qw p (l.drop k) k=qw p l 0∧σ=[(0,vl (vint) l),(1, .func fid caps),(7,vnat l.length),(8,vnat k)]∧S'=St S [] []) l.length ?_ ?_
 ·exact ⟨0,by omega,rfl,rfl,by simp [Fr.only],rfl⟩
 ·rintro c σ T ⟨k,hk,rfl,hd,rfl,rfl⟩
  by_cases hkt:k<l.length
  ·have hst:qw p (l.drop k) k=if p l[k] then (k:Int) else qw p (l.drop (k+1)) (k+1):=by rw [List.drop_eq_getElem_cons hkt,qw]
   have hw:=jn hkt hl
   repeat first|refine QG ?_|refine QY ?_ (r:=by conv=>lhs;simp[-List.map_set,QV,hkt])
   repeat refine QS ?_
   refine QP ?_ (r:=by conv=>lhs;simp[-List.map_set,QV,hkt]);refine zi rfl hc rfl (h _ (List.getElem_mem hkt)) ?_;refine QW ?_
   cases hp:p l[k] with
   | true =>
    rw [hp] at hst
    repeat first|refine QG ?_|refine QY ?_ (r:=by conv=>lhs;simp[-List.map_set,QV,hp])
    exact ja hwf (by rw [←hd,hst]; rfl) rfl
   | false =>
    rw [hp] at hst
    repeat first|refine QG ?_|refine QY ?_ (r:=by conv=>lhs;simp[-List.map_set,QV,hp])
    show jz _ _ _ _ _ _ _;exact again ⟨Nat.sub_lt_sub_left hkt (Nat.lt_succ_self k),k+1,hkt,rfl,by rw [←hd,hst]; rfl,by simp [Fr.only,hw],rfl⟩
  ·have e:l.drop k=[]:=by rw [List.drop_eq_nil_iff]; omega
   rw [e] at hd
   repeat first|refine QG ?_|refine QY ?_ (r:=by conv=>lhs;simp[-List.map_set,QV,hkt])
   exact ja hwf (by rw [←hd]; rfl) rfl
theorem AnyI_v (l:List (Int)) (p:Int→Bool) (fid:FuncId) (caps:List V) (hc:qb Tryz.prog fid=true) (hl:l.length<2^63) (h : ∀ x∈l,VPure Tryz.prog fid ([vint x]++caps) (.bool (p x))) :
  VPure Tryz.prog 32 [vl (vint) l, .func fid caps] (.bool (l.any p)):=by
 intro S;refine jb (c:=jg Tryz.f32) Tryz.func32 rfl rfl (by simp [Tryz.ntmps32]) ?_;rw [Tryz.ntmps32];intro hwf;rw [←Jd p l 0]
 repeat first|refine QG ?_|refine QY ?_
 repeat refine QS ?_
 refine QP ?_;refine jp rfl (IndexI_v l p fid caps hc hl h) ?_;refine QW ?_
 repeat first|refine QG ?_|refine QY ?_
 exact ja hwf rfl rfl
theorem IndexB_v (l:List (Ss.Block)) (p:Ss.Block→Bool) (fid:FuncId) (caps:List V) (hc:qb Tryz.prog fid=true) (hl:l.length<2^63) (h : ∀ x∈l,VPure Tryz.prog fid ([jd x]++caps) (.bool (p x))) :
  VPure Tryz.prog 102 [vl (jd) l, .func fid caps] (vint (qw p l 0)):=by
 intro S;refine jb (c:=jg Tryz.f102) Tryz.func102 rfl rfl (by simp [Tryz.ntmps102]) ?_;rw [Tryz.ntmps102];intro hwf
 repeat first|refine QG ?_|refine QY ?_
 repeat refine QS ?_
 refine je [0,1,7,8] rfl (fun c σ S' => ∃ (k:Nat),k≤l.length∧c=l.length-k∧qw p (l.drop k) k=qw p l 0∧σ=[(0,vl (jd) l),(1, .func fid caps),(7,vnat l.length),(8,vnat k)]∧S'=St S [] []) l.length ?_ ?_
 ·exact ⟨0,by omega,rfl,rfl,by simp [Fr.only],rfl⟩
 ·rintro c σ T ⟨k,hk,rfl,hd,rfl,rfl⟩
  by_cases hkt:k<l.length
  ·have hst:qw p (l.drop k) k=if p l[k] then (k:Int) else qw p (l.drop (k+1)) (k+1):=by rw [List.drop_eq_getElem_cons hkt,qw]
   have hw:=jn hkt hl
   repeat first|refine QG ?_|refine QY ?_ (r:=by conv=>lhs;simp[-List.map_set,QV,hkt])
   repeat refine QS ?_
   refine QP ?_ (r:=by conv=>lhs;simp[-List.map_set,QV,hkt]);refine zi rfl hc rfl (h _ (List.getElem_mem hkt)) ?_;refine QW ?_
   cases hp:p l[k] with
   | true =>
    rw [hp] at hst
    repeat first|refine QG ?_|refine QY ?_ (r:=by conv=>lhs;simp[-List.map_set,QV,hp])
    exact ja hwf (by rw [←hd,hst]; rfl) rfl
   | false =>
    rw [hp] at hst
    repeat first|refine QG ?_|refine QY ?_ (r:=by conv=>lhs;simp[-List.map_set,QV,hp])
    show jz _ _ _ _ _ _ _;exact again ⟨Nat.sub_lt_sub_left hkt (Nat.lt_succ_self k),k+1,hkt,rfl,by rw [←hd,hst]; rfl,by simp [Fr.only,hw],rfl⟩
  ·have e:l.drop k=[]:=by rw [List.drop_eq_nil_iff]; omega
   rw [e] at hd
   repeat first|refine QG ?_|refine QY ?_ (r:=by conv=>lhs;simp[-List.map_set,QV,hkt])
   exact ja hwf (by rw [←hd]; rfl) rfl
theorem AnyB_v (l:List (Ss.Block)) (p:Ss.Block→Bool) (fid:FuncId) (caps:List V) (hc:qb Tryz.prog fid=true) (hl:l.length<2^63) (h : ∀ x∈l,VPure Tryz.prog fid ([jd x]++caps) (.bool (p x))) :
  VPure Tryz.prog 67 [vl (jd) l, .func fid caps] (.bool (l.any p)):=by
 intro S;refine jb (c:=jg Tryz.f67) Tryz.func67 rfl rfl (by simp [Tryz.ntmps67]) ?_;rw [Tryz.ntmps67];intro hwf;rw [←Jd p l 0]
 repeat first|refine QG ?_|refine QY ?_
 repeat refine QS ?_
 refine QP ?_;refine jp rfl (IndexB_v l p fid caps hc hl h) ?_;refine QW ?_
 repeat first|refine QG ?_|refine QY ?_
 exact ja hwf rfl rfl
theorem IndexS_v (l:List (Ss.Sig)) (p:Ss.Sig→Bool) (fid:FuncId) (caps:List V) (hc:qb Tryz.prog fid=true) (hl:l.length<2^63) (h : ∀ x∈l,VPure Tryz.prog fid ([jS x]++caps) (.bool (p x))) :
  VPure Tryz.prog 127 [vl (jS) l, .func fid caps] (vint (qw p l 0)):=by
 intro S;refine jb (c:=jg Tryz.f127) Tryz.func127 rfl rfl (by simp [Tryz.ntmps127]) ?_;rw [Tryz.ntmps127];intro hwf
 repeat first|refine QG ?_|refine QY ?_
 repeat refine QS ?_
 refine je [0,1,7,8] rfl (fun c σ S' => ∃ (k:Nat),k≤l.length∧c=l.length-k∧qw p (l.drop k) k=qw p l 0∧σ=[(0,vl (jS) l),(1, .func fid caps),(7,vnat l.length),(8,vnat k)]∧S'=St S [] []) l.length ?_ ?_
 ·exact ⟨0,by omega,rfl,rfl,by simp [Fr.only],rfl⟩
 ·rintro c σ T ⟨k,hk,rfl,hd,rfl,rfl⟩
  by_cases hkt:k<l.length
  ·have hst:qw p (l.drop k) k=if p l[k] then (k:Int) else qw p (l.drop (k+1)) (k+1):=by rw [List.drop_eq_getElem_cons hkt,qw]
   have hw:=jn hkt hl
   repeat first|refine QG ?_|refine QY ?_ (r:=by conv=>lhs;simp[-List.map_set,QV,hkt])
   repeat refine QS ?_
   refine QP ?_ (r:=by conv=>lhs;simp[-List.map_set,QV,hkt]);refine zi rfl hc rfl (h _ (List.getElem_mem hkt)) ?_;refine QW ?_
   cases hp:p l[k] with
   | true =>
    rw [hp] at hst
    repeat first|refine QG ?_|refine QY ?_ (r:=by conv=>lhs;simp[-List.map_set,QV,hp])
    exact ja hwf (by rw [←hd,hst]; rfl) rfl
   | false =>
    rw [hp] at hst
    repeat first|refine QG ?_|refine QY ?_ (r:=by conv=>lhs;simp[-List.map_set,QV,hp])
    show jz _ _ _ _ _ _ _;exact again ⟨Nat.sub_lt_sub_left hkt (Nat.lt_succ_self k),k+1,hkt,rfl,by rw [←hd,hst]; rfl,by simp [Fr.only,hw],rfl⟩
  ·have e:l.drop k=[]:=by rw [List.drop_eq_nil_iff]; omega
   rw [e] at hd
   repeat first|refine QG ?_|refine QY ?_ (r:=by conv=>lhs;simp[-List.map_set,QV,hkt])
   exact ja hwf (by rw [←hd]; rfl) rfl
theorem AnyS_v (l:List (Ss.Sig)) (p:Ss.Sig→Bool) (fid:FuncId) (caps:List V) (hc:qb Tryz.prog fid=true) (hl:l.length<2^63) (h : ∀ x∈l,VPure Tryz.prog fid ([jS x]++caps) (.bool (p x))) :
  VPure Tryz.prog 97 [vl (jS) l, .func fid caps] (.bool (l.any p)):=by
 intro S;refine jb (c:=jg Tryz.f97) Tryz.func97 rfl rfl (by simp [Tryz.ntmps97]) ?_;rw [Tryz.ntmps97];intro hwf;rw [←Jd p l 0]
 repeat first|refine QG ?_|refine QY ?_
 repeat refine QS ?_
 refine QP ?_;refine jp rfl (IndexS_v l p fid caps hc hl h) ?_;refine QW ?_
 repeat first|refine QG ?_|refine QY ?_
 exact ja hwf rfl rfl
theorem IndexN_v (l:List (Ss.Ins)) (p:Ss.Ins→Bool) (fid:FuncId) (caps:List V) (hc:qb Tryz.prog fid=true) (hl:l.length<2^63) (h : ∀ x∈l,VPure Tryz.prog fid ([jq x]++caps) (.bool (p x))) :
  VPure Tryz.prog 145 [vl (jq) l, .func fid caps] (vint (qw p l 0)):=by
 intro S;refine jb (c:=jg Tryz.f145) Tryz.func145 rfl rfl (by simp [Tryz.ntmps145]) ?_;rw [Tryz.ntmps145];intro hwf
 repeat first|refine QG ?_|refine QY ?_
 repeat refine QS ?_
 refine je [0,1,7,8] rfl (fun c σ S' => ∃ (k:Nat),k≤l.length∧c=l.length-k∧qw p (l.drop k) k=qw p l 0∧σ=[(0,vl (jq) l),(1, .func fid caps),(7,vnat l.length),(8,vnat k)]∧S'=St S [] []) l.length ?_ ?_
 ·exact ⟨0,by omega,rfl,rfl,by simp [Fr.only],rfl⟩
 ·rintro c σ T ⟨k,hk,rfl,hd,rfl,rfl⟩
  by_cases hkt:k<l.length
  ·have hst:qw p (l.drop k) k=if p l[k] then (k:Int) else qw p (l.drop (k+1)) (k+1):=by rw [List.drop_eq_getElem_cons hkt,qw]
   have hw:=jn hkt hl
   repeat first|refine QG ?_|refine QY ?_ (r:=by conv=>lhs;simp[-List.map_set,QV,hkt])
   repeat refine QS ?_
   refine QP ?_ (r:=by conv=>lhs;simp[-List.map_set,QV,hkt]);refine zi rfl hc rfl (h _ (List.getElem_mem hkt)) ?_;refine QW ?_
   cases hp:p l[k] with
   | true =>
    rw [hp] at hst
    repeat first|refine QG ?_|refine QY ?_ (r:=by conv=>lhs;simp[-List.map_set,QV,hp])
    exact ja hwf (by rw [←hd,hst]; rfl) rfl
   | false =>
    rw [hp] at hst
    repeat first|refine QG ?_|refine QY ?_ (r:=by conv=>lhs;simp[-List.map_set,QV,hp])
    show jz _ _ _ _ _ _ _;exact again ⟨Nat.sub_lt_sub_left hkt (Nat.lt_succ_self k),k+1,hkt,rfl,by rw [←hd,hst]; rfl,by simp [Fr.only,hw],rfl⟩
  ·have e:l.drop k=[]:=by rw [List.drop_eq_nil_iff]; omega
   rw [e] at hd
   repeat first|refine QG ?_|refine QY ?_ (r:=by conv=>lhs;simp[-List.map_set,QV,hkt])
   exact ja hwf (by rw [←hd]; rfl) rfl
theorem AnyN_v (l:List (Ss.Ins)) (p:Ss.Ins→Bool) (fid:FuncId) (caps:List V) (hc:qb Tryz.prog fid=true) (hl:l.length<2^63) (h : ∀ x∈l,VPure Tryz.prog fid ([jq x]++caps) (.bool (p x))) :
  VPure Tryz.prog 131 [vl (jq) l, .func fid caps] (.bool (l.any p)):=by
 intro S;refine jb (c:=jg Tryz.f131) Tryz.func131 rfl rfl (by simp [Tryz.ntmps131]) ?_;rw [Tryz.ntmps131];intro hwf;rw [←Jd p l 0]
 repeat first|refine QG ?_|refine QY ?_
 repeat refine QS ?_
 refine QP ?_;refine jp rfl (IndexN_v l p fid caps hc hl h) ?_;refine QW ?_
 repeat first|refine QG ?_|refine QY ?_
 exact ja hwf rfl rfl
end Go.Vw

/-
  Regions that draw, with two allocations that stand in no order: a walk for each of the two orders.
-/
namespace Go.Vw
open Go.RowKit
def jA (ops:Array Oper) (j i:Nat):Array Oper:=ops.modify j fun o=>{ o with after:=o.after.push ⟨i, .data⟩ }
theorem zd (ops:Array Oper) (j i:Nat):(jA ops j i).size=ops.size:=by simp [jA]
theorem JP (ops:Array Oper) {j i k:Nat} (h:k≠j):(jA ops j i)[k]? = ops[k]? := by
  simp only [jA,Array.getElem?_modify];rw [if_neg (Ne.symm h)]
theorem jay (ops:Array Oper) {j i:Nat} {o:Oper} (h:ops[j]? = some o):(jA ops j i)[j]? = some { o with after:=o.after.push ⟨i, .data⟩ }:=by
  simp only [jA,Array.getElem?_modify,if_true,h,Option.map_some]
theorem ZK {ops:Array Oper} {i j k:Nat} {listed:Array Bool} (h:k∈Region.ready .any (jA ops j i) listed):k∈Region.ready .any ops listed:=by
  obtain ⟨h1,o,ho,hall⟩:=mem_ready.1 h
  by_cases e:k=j
  ·subst e
   cases hk:ops[k]? with
   | none =>
     have:(jA ops k i).size≤k:=by rw [zd]; exact Array.getElem?_eq_none_iff.1 hk
     rw [Array.getElem?_eq_none this] at ho; cases ho
   | some o' =>
     rw [jay ops hk] at ho
     cases ho
     exact mem_ready.2 ⟨h1,o',hk,fun e he=>hall e (by simp [he])⟩
  ·rw [JP ops e] at ho;exact mem_ready.2 ⟨h1,o,ho,hall⟩
theorem qI {ops:Array Oper} {i j k:Nat} {listed:Array Bool} (h:k∈Region.ready .any ops listed) (hk:k≠j∨listed.getD i false=true):k∈Region.ready .any (jA ops j i) listed:=by
  obtain ⟨h1,o,ho,hall⟩:=mem_ready.1 h
  by_cases e:k=j
  ·subst e;have hi:=hk.resolve_left (fun h=>h rfl);refine mem_ready.2 ⟨h1,_,jay ops ho,fun e he hb => ?_⟩;simp only [Array.mem_push] at he;rcases he with he | rfl
   ·exact hall e he hb
   ·exact hi
  ·exact mem_ready.2 ⟨h1,o,by rw [JP ops e]; exact ho,hall⟩
section
variable {P:Program} {Z:ZZ} {ops:Array Oper} {cs:List CO} {Q:Ff→Store→Prop}
theorem set_true_i {listed:Array Bool} {i k:Nat} (h:listed.getD i false=true):(listed.setIfInBounds k true).getD i false=true:=by
  by_cases e:k=i
  ·subst e;have:k<listed.size:=by
     rcases Nat.lt_or_ge k listed.size with h' | h'
     ·exact h'
     ·simp [Array.getElem?_eq_none h'] at h
   simp [this]
  ·rw [getD_set_ne false e]; exact h
theorem KD {i j:Nat} : ∀ (n:Nat) (listed:Array Bool) (τ:Ff) (S:Store),listed.getD i false=true→anyZ P Z (jA ops j i) cs Q n listed τ S→anyZ P Z ops cs Q n listed τ S
  | 0,listed,τ,S,hi,h=>⟨List.eq_nil_iff_forall_not_mem.2 fun k hk=>(by have:=qI (i:=i) (j:=j) hk (.inr hi); rw [h.1] at this; cases this),h.2⟩
  | n+1,listed,τ,S,hi,h=>by
    refine ⟨fun h0=>h.1 (List.eq_nil_iff_forall_not_mem.2 fun k hk=>by have:=ZK hk; rw [h0] at this; cases this),fun k hk => ?_⟩;exact KO (fun τ S=>KD n _ τ S (set_true_i hi)) (h.2 k (qI hk (.inr hi)))
theorem jaO {o:CO} {v v':V} {τ:Ff} {S S1 S1':Store} (hc:o.op.isCall=false) (h:KT P Z o v τ S S1) (h':KT P Z o v' τ S S1'):v=v'∧S1=S1':=by
  have rd : ∀ {Y:Store} {v v':V},Jw P Y τ o.op v→Jw P Y τ o.op v'→v=v':=by
    intro Y v v' h h'
    cases hop:o.op with
    | call f a=>rw [hop] at hc; simp [COp.isCall] at hc
    | callv f a=>rw [hop] at hc; simp [COp.isCall] at hc
    | _ =>
      rw [hop] at h h';simp only [Jw] at h h';obtain ⟨Z1,e1⟩:=h;obtain ⟨Z2,e2⟩:=h';rw [e1] at e2;exact (Prod.mk.inj (Option.some.inj e2)).1
  rcases h with ⟨w1,h⟩ | ⟨w1,rfl,rfl⟩
  ·rcases h' with ⟨w2,h'⟩ | ⟨w2,_,_⟩
   ·rcases h with ⟨r1,rfl,k1⟩ | ⟨r1,k1,_⟩
    ·rcases h' with ⟨r2,rfl,k2⟩ | ⟨r2,k2,_⟩
     ·exact ⟨rd k1 k2,rfl⟩
     ·rw [r1] at r2; cases r2
    ·rcases h' with ⟨r2,rfl,k2⟩ | ⟨r2,k2,_⟩
     ·rw [r1] at r2; cases r2
     ·have wv : ∀ {v:V} {S1:Store},zt P (trnL Z.es o.dst) τ S o.op v S1→jh (evf τ) S o.op=some (v,S1):=by
        intro v S1 h
        cases hop:o.op with
        | call f a=>rw [hop] at hc; simp [COp.isCall] at hc
        | callv f a=>rw [hop] at hc; simp [COp.isCall] at hc
        | _=>rw [hop] at h; exact h
      have e1:=wv k1;have e2:=wv k2;rw [e1] at e2; cases e2; exact ⟨rfl,rfl⟩
   ·rw [w1] at w2; cases w2
  ·rcases h' with ⟨w2,h'⟩ | ⟨w2,rfl,rfl⟩
   ·rw [w1] at w2; cases w2
   ·exact ⟨rfl,rfl⟩
theorem anyZ_two {i j:Nat} (hij:i≠j) (hdet : ∀ (k:Nat) o,cs[k]? = some o→o.op.isCall=false) (hlen:cs.length=ops.size) : ∀ (n:Nat) (listed:Array Bool) (τ:Ff) (S:Store),listed.getD i true=false→listed.getD j true=false →
    anyZ P Z (jA ops j i) cs Q n listed τ S→anyZ P Z (jA ops i j) cs Q n listed τ S→anyZ P Z ops cs Q n listed τ S
  | 0,listed,τ,S,hi,hj,h1,h2=>⟨List.eq_nil_iff_forall_not_mem.2 fun k hk=>(by
      by_cases e:k=j
      ·have:=qI (i:=j) (j:=i) hk (.inl (by omega)); rw [h2.1] at this; cases this
      ·have:=qI (i:=i) (j:=j) hk (.inl e); rw [h1.1] at this; cases this),h1.2⟩
  | n+1,listed,τ,S,hi,hj,h1,h2=>by
    have lt : ∀ {k:Nat},listed.getD k true=false→(listed.setIfInBounds k true).getD k false=true:=by
      intro k hk;have:k<listed.size:=by
        rcases Nat.lt_or_ge k listed.size with h' | h'
        ·exact h'
        ·simp [Array.getElem?_eq_none h'] at hk
      simp [this]
    refine ⟨fun h0=>h1.1 (List.eq_nil_iff_forall_not_mem.2 fun k hk=>by have:=ZK hk; rw [h0] at this; cases this),fun k hk => ?_⟩
    by_cases ei:k=i
    ·subst ei;exact KO (fun τ S=>KD n _ τ S (lt hi)) (h1.2 k (qI hk (.inl hij)))
    by_cases ej:k=j
    ·subst ej;exact KO (fun τ S=>KD n _ τ S (lt hj)) (h2.2 k (qI hk (.inl ei)))
    have k1:=h1.2 k (qI hk (.inl ej));have k2:=h2.2 k (qI hk (.inl ei));obtain ⟨_,o',ho',_⟩:=mem_ready.1 hk;have hlt:k<cs.length:=by rw [hlen]; exact (Array.getElem?_eq_some_iff.1 ho').1
    have hok:cs[k]? = some cs[k]:=List.getElem?_eq_getElem hlt;simp only [atZ,hok] at k1 k2 ⊢;rw [qA] at k1 k2 ⊢;obtain ⟨v,S1,y1,n1⟩:=k1;obtain ⟨v',S1',y2,n2⟩:=k2;obtain ⟨rfl,rfl⟩:=jaO (hdet k _ hok) y1 y2;exact ⟨v,S1,y1,anyZ_two hij hdet hlen n _ _ _ (by rw [getD_set_ne true ei]; exact hi) (by rw [getD_set_ne true ej]; exact hj) n1 n2⟩
theorem zR {Q':Ff→Store→Prop} (hq : ∀ τ S,Q τ S→Q' τ S) : ∀ {l:List CO} {τ:Ff} {S:Store},JU P Z Q l τ S→JU P Z Q' l τ S
  | [],τ,S,h=>hq τ S h
  | o::r,τ,S,h=>by
    simp only [JU] at h ⊢;rw [qA] at h ⊢;obtain ⟨v,S1,h1,h2⟩:=h;exact ⟨v,S1,h1,zR hq h2⟩
def lexO (es ms:List Nat) (ops:Array Oper) (cs:List CO):List Nat→Array Bool→Bool
  | [],listed=>(Region.ready .any ops listed).isEmpty
  | k::ord,listed=>(Region.ready .any ops listed).contains k &&
      (match cs[k]? with
       | some oi=>(List.range cs.length).all fun j=>j==k||listed.getD j true||Ws ms k j||(match cs[j]? with
          | some oj=>oi.apart oj&&(isRd es oi||isRd es oj)
          | none=>true)
       | none=>false)&&lexO es ms ops cs ord (listed.setIfInBounds k true)
def Kt (cs:List CO) (ord:List Nat):List CO:=ord.filterMap fun k=>cs[k]?
theorem WU (hlen:cs.length=ops.size) : ∀ (ord:List Nat) (listed:Array Bool) (τ:Ff) (S:Store),zb ops listed→lexO Z.es (qU ops) ops cs ord listed=true→JU P Z Q (Kt cs ord) τ S→anyZ P Z ops cs Q ord.length listed τ S
  | [],_,_,_,_,hB,h=>⟨by simpa [lexO] using hB,h⟩
  | k::ord,listed,τ,S,hcl,hB,h=>by
    simp only [lexO,Bool.and_eq_true] at hB;obtain ⟨⟨hr,hf⟩,hB'⟩:=hB
    cases h0:cs[k]? with
    | none=>rw [h0] at hf; cases hf
    | some o =>
    have hp:Kt cs (k::ord)=o::Kt cs ord:=by simp [Kt,h0]
    rw [hp] at h;simp only [JU] at h;rw [qA] at h;obtain ⟨v,S1,hy,hK⟩:=h;have hr':k∈Region.ready .any ops listed:=by simpa using hr
    refine KQ h0 hlen ord.length listed τ S S1 hcl (fun j oj hj hne hun hno => ?_) hr' hy (WU hlen ord _ _ _ (zB hcl hr') hB' hK);simp only [h0,List.all_eq_true,List.mem_range] at hf;have h1:=hf j (List.getElem?_eq_some_iff.1 hj).1;have hnm:Ws (qU ops) k j=false:=by
      cases hm:Ws (qU ops) k j with
      | false=>rfl
      | true=>obtain ⟨n,hn⟩:=Jr hm; rw [hno n] at hn; cases hn
    simp only [hj,Bool.or_eq_true,beq_iff_eq,hne,false_or,hun,Bool.false_eq_true,hnm,Bool.and_eq_true] at h1;exact h1
end
section
variable {P:Program} {N b:Nat} {Q:Exit→Fr→Store→Prop} {σ:Fr} {S:Store}
theorem jbw {id:Nat} {ops:Array Oper} {cs:List CO} {Z:ZZ} {i j:Nat} {ord1 ord2:List Nat} (hm:P.follows .mixedOrders=true) (hc:qu P N ops=some cs) (hnc:cs.all (fun o => !o.op.isCall)=true) (hij:i≠j) (hi:i<ops.size) (hj:j<ops.size)
    (hB1:lexO Z.es (qU (jA ops j i)) (jA ops j i) cs ord1 (Array.replicate ops.size false)=true) (hB2:lexO Z.es (qU (jA ops i j)) (jA ops i j) cs ord2 (Array.replicate ops.size false)=true)
    (hn1:ord1.length=ops.size) (hn2:ord2.length=ops.size) (hE:zN (qU ops) cs Z.es=true) (hz:Z.ok S) (h0:Z.z0.Sub S)
    (H1:JU P Z (fun τ S => ∃ σ':Fr,σ'.look=τ∧Q .normal σ' S) (Kt cs ord1) σ.look S) (H2:JU P Z (fun τ S => ∃ σ':Fr,σ'.look=τ∧Q .normal σ' S) (Kt cs ord2) σ.look S):VWp P N b (.region id ops true) Q σ S:=by
  intro m β w a hS hF;obtain ⟨hlen,_⟩:=jaq hc;refine wp_region_any hm ?_;have hcl : ∀ ops':Array Oper,ops'.size=ops.size→zb ops' (Array.replicate ops.size false):=by
    intro ops' he i o ho hi;have:i<ops'.size:=(Array.getElem?_eq_some_iff.1 ho).1;rw [he] at this;simp [this] at hi
  have a1:=WU (P:=P) (Z:=Z) (ops:=jA ops j i) (by rw [zd]; exact hlen) ord1 _ σ.look S (hcl _ (zd _ _ _)) hB1 H1;have a2:=WU (P:=P) (Z:=Z) (ops:=jA ops i j) (by rw [zd]; exact hlen) ord2 _ σ.look S (hcl _ (zd _ _ _)) hB2 H2;rw [hn1] at a1;rw [hn2] at a2;have:=anyZ_two hij (fun k o hk=>by
    simp only [List.all_eq_true] at hnc;have:=hnc o (List.mem_of_getElem? hk);simpa using this) hlen ops.size _ σ.look S (by simp [hi]) (by simp [hj]) a1 a2
  exact KP hc hE ops.size _ σ S m β _ a this (hcl ops rfl) hz (fun _=>h0) hS.drew hF ((Ext.drew m β w).toB b)
theorem KG {c c2:Code} {cs:List CO} {Q2:Exit→Fr→Store→Prop} {σm:Fr} {Sm:Store} (Z:ZZ) (i j:Nat) (ord1 ord2:List Nat) (h:Code.kind c=2) (hm:P.follows .mixedOrders=true) (hc:qu P N (Code.ops c)=some cs) (hnc:cs.all (fun o => !o.op.isCall)=true) (hij:i≠j)
    (hi:decide (i<(Code.ops c).size)=true) (hj:decide (j<(Code.ops c).size)=true)
    (hB1:lexO Z.es (qU (jA (Code.ops c) j i)) (jA (Code.ops c) j i) cs ord1 (Array.replicate (Code.ops c).size false)=true) (hB2:lexO Z.es (qU (jA (Code.ops c) i j)) (jA (Code.ops c) i j) cs ord2 (Array.replicate (Code.ops c).size false)=true)
    (hn1:ord1.length=(Code.ops c).size) (hn2:ord2.length=(Code.ops c).size) (hes:Z.es=[]) (hz:Z.ok S) (h0:Z.z0.Sub S)
    {cs1 cs2:List CO} (hp1:Kt cs ord1=cs1) (hp2:Kt cs ord2=cs2)
    (H1:jQ P (some Z) cs1 (fun σ S=>Reach N b σ S σm Sm) σ S) (H2:jQ P (some Z) cs2 (fun σ S=>Reach N b σ S σm Sm) σ S) (H:VWp P N b c2 Q2 σm Sm):VWp P N b c (JX (VWp P N b c2 Q2) Q) σ S:=by
  subst hp1;subst hp2
  cases c with
  | region id ops d =>
    cases d
    ·simp [Code.kind] at h
    ·refine jbw hm hc hnc hij (of_decide_eq_true hi) (of_decide_eq_true hj) hB1 hB2 hn1 hn2 (by rw [hes]; exact jao _ _) hz h0 ?_ ?_
     ·exact zR (fun τ S=>fun ⟨σ',e,hr⟩=>⟨σ',e,js hr H⟩) (zh _ σ S H1)
     ·exact zR (fun τ S=>fun ⟨σ',e,hr⟩=>⟨σ',e,js hr H⟩) (zh _ σ S H2)
  | _=>simp [Code.kind] at h
end
/-! ### .. behind a part that stands in the order of the text -/
section
variable {P:Program} {Z:ZZ} {ops:Array Oper} {cs:List CO} {Q:Ff→Store→Prop}
def jaa (es ms:List Nat) (ops:Array Oper) (cs:List CO):Nat→Nat→Array Bool→Bool
  | 0,_,_=>true
  | n+1,k,listed=>(Region.ready .any ops listed).contains k &&
      (match cs[k]? with
       | some oi=>(List.range cs.length).all fun j=>j==k||listed.getD j true||Ws ms k j||(match cs[j]? with
          | some oj=>oi.apart oj&&(isRd es oi||isRd es oj)
          | none=>true)
       | none=>false)&&jaa es ms ops cs n (k+1) (listed.setIfInBounds k true)
def zJ:Nat→Nat→Array Bool→Array Bool
  | 0,_,l=>l
  | n+1,k,l=>zJ n (k+1) (l.setIfInBounds k true)
theorem anyZ_pre (hlen:cs.length=ops.size) {fuel:Nat} : ∀ (l:List CO) (k:Nat) (listed:Array Bool) (τ:Ff) (S:Store),(∀ j<l.length,l[j]? = cs[k+j]?)→zb ops listed→jaa Z.es (qU ops) ops cs l.length k listed=true →
    JU P Z (fun τ S=>anyZ P Z ops cs Q fuel (zJ l.length k listed) τ S) l τ S→anyZ P Z ops cs Q (fuel+l.length) listed τ S
  | [],_,_,_,_,_,_,_,h=>h
  | o::l,k,listed,τ,S,hl,hcl,hB,h=>by
    have h0:cs[k]? = some o:=by simpa using (hl 0 (by simp)).symm
    simp only [List.length_cons,jaa,Bool.and_eq_true,h0] at hB;obtain ⟨⟨hr,hf⟩,hB'⟩:=hB;simp only [JU] at h;rw [qA] at h;obtain ⟨v,S1,hy,hK⟩:=h;have hr':k∈Region.ready .any ops listed:=by simpa using hr
    refine KQ h0 hlen (fuel+l.length) listed τ S S1 hcl (fun j oj hj hne hun hno => ?_) hr' hy (anyZ_pre hlen l (k+1) _ _ _ (fun j hj=>by have:=hl (j+1) (by simp; omega); simpa [Nat.add_assoc,Nat.add_comm 1 j] using this) (zB hcl hr') hB' hK);simp only [List.all_eq_true,List.mem_range] at hf;have h1:=hf j (List.getElem?_eq_some_iff.1 hj).1;have hnm:Ws (qU ops) k j=false:=by
      cases hm:Ws (qU ops) k j with
      | false=>rfl
      | true=>obtain ⟨n,hn⟩:=Jr hm; rw [hno n] at hn; cases hn
    simp only [hj,Bool.or_eq_true,beq_iff_eq,hne,false_or,hun,Bool.false_eq_true,hnm,Bool.and_eq_true] at h1;exact h1
theorem YQ (hlen:cs.length=ops.size) {es:List Nat} : ∀ (n k:Nat) (listed:Array Bool),zb ops listed→jaa es (qU ops) ops cs n k listed=true→zb ops (zJ n k listed)
  | 0,_,_,h,_=>h
  | n+1,k,listed,h,hB=>by
    simp only [jaa,Bool.and_eq_true] at hB;exact YQ hlen n (k+1) _ (zB h (by simpa using hB.1.1)) hB.2
theorem WR {listed:Array Bool} {i j:Nat} (h:zb ops listed) (hj:listed.getD j true=false):zb (jA ops j i) listed:=by
  intro k o ho hk
  by_cases e:k=j
  ·subst e; rw [hj] at hk; cases hk
  ·rw [JP ops e] at ho;exact h k o ho hk
theorem anyZ_twoL {i j:Nat} (hij:i≠j) (hlen:cs.length=ops.size) : ∀ (n:Nat) (listed:Array Bool) (τ:Ff) (S:Store),(∀ (k:Nat) o,cs[k]? = some o→k≠i→k≠j→listed.getD k true=false→o.op.isCall=false)→listed.getD i true=false→listed.getD j true=false →
    anyZ P Z (jA ops j i) cs Q n listed τ S→anyZ P Z (jA ops i j) cs Q n listed τ S→anyZ P Z ops cs Q n listed τ S
  | 0,listed,τ,S,_,hi,hj,h1,h2=>⟨List.eq_nil_iff_forall_not_mem.2 fun k hk=>(by
      by_cases e:k=j
      ·have:=qI (i:=j) (j:=i) hk (.inl (by omega)); rw [h2.1] at this; cases this
      ·have:=qI (i:=i) (j:=j) hk (.inl e); rw [h1.1] at this; cases this),h1.2⟩
  | n+1,listed,τ,S,hdet,hi,hj,h1,h2=>by
    have lt : ∀ {k:Nat},listed.getD k true=false→(listed.setIfInBounds k true).getD k false=true:=by
      intro k hk;have:k<listed.size:=by
        rcases Nat.lt_or_ge k listed.size with h' | h'
        ·exact h'
        ·simp [Array.getElem?_eq_none h'] at hk
      simp [this]
    refine ⟨fun h0=>h1.1 (List.eq_nil_iff_forall_not_mem.2 fun k hk=>by have:=ZK hk; rw [h0] at this; cases this),fun k hk => ?_⟩
    by_cases ei:k=i
    ·subst ei;exact KO (fun τ S=>KD n _ τ S (lt hi)) (h1.2 k (qI hk (.inl hij)))
    by_cases ej:k=j
    ·subst ej;exact KO (fun τ S=>KD n _ τ S (lt hj)) (h2.2 k (qI hk (.inl ei)))
    have k1:=h1.2 k (qI hk (.inl ej));have k2:=h2.2 k (qI hk (.inl ei));obtain ⟨hun,o',ho',_⟩:=mem_ready.1 hk;have hlt:k<cs.length:=by rw [hlen]; exact (Array.getElem?_eq_some_iff.1 ho').1
    have hok:cs[k]? = some cs[k]:=List.getElem?_eq_getElem hlt;simp only [atZ,hok] at k1 k2 ⊢;rw [qA] at k1 k2 ⊢;obtain ⟨v,S1,y1,n1⟩:=k1;obtain ⟨v',S1',y2,n2⟩:=k2;obtain ⟨rfl,rfl⟩:=jaO (hdet k _ hok ei ej hun) y1 y2;refine ⟨v,S1,y1,anyZ_twoL hij hlen n _ _ _ (fun k' o hk' h3 h4 h5=>hdet k' o hk' h3 h4 ?_) (by rw [getD_set_ne true ei]; exact hi) (by rw [getD_set_ne true ej]; exact hj) n1 n2⟩
    by_cases e:k=k'
    ·subst e; exact hun
    ·rw [getD_set_ne true e] at h5; exact h5
end
section
variable {P:Program} {N b:Nat} {Q:Exit→Fr→Store→Prop} {σ:Fr} {S:Store}
def callsOk (cs:List CO) (i j n0:Nat):Bool:=(List.range cs.length).all fun k=>decide (k<n0)||k==i||k==j||(match cs[k]? with | some o => !o.op.isCall | none=>true)
theorem vw_drawSplit {c c2:Code} {cs:List CO} {Q2:Exit→Fr→Store→Prop} (Z:ZZ) (n0 i j:Nat) (ord1 ord2:List Nat) (h:Code.kind c=2) (hm:P.follows .mixedOrders=true) (hc:qu P N (Code.ops c)=some cs) (hnc:callsOk cs i j n0=true) (hij:i≠j)
    (hp:jaa Z.es (qU (Code.ops c)) (Code.ops c) cs n0 0 (Array.replicate (Code.ops c).size false)=true)
    (hi:(zJ n0 0 (Array.replicate (Code.ops c).size false)).getD i true=false) (hj:(zJ n0 0 (Array.replicate (Code.ops c).size false)).getD j true=false)
    (hu:(List.range n0).all (fun k=>(zJ n0 0 (Array.replicate (Code.ops c).size false)).getD k true)=true)
    (hB1:lexO Z.es (qU (jA (Code.ops c) j i)) (jA (Code.ops c) j i) cs ord1 (zJ n0 0 (Array.replicate (Code.ops c).size false))=true) (hB2:lexO Z.es (qU (jA (Code.ops c) i j)) (jA (Code.ops c) i j) cs ord2 (zJ n0 0 (Array.replicate (Code.ops c).size false))=true)
    (hn0:decide (n0≤(Code.ops c).size)=true) (hn1:ord1.length+n0=(Code.ops c).size) (hn2:ord2.length+n0=(Code.ops c).size) (hE:zN (qU (Code.ops c)) cs Z.es=true) (hz:Z.ok S) (h0:Z.z0.Sub S)
    {cs0 cs1 cs2:List CO} (hp0:cs.take n0=cs0) (hp1:Kt cs ord1=cs1) (hp2:Kt cs ord2=cs2)
    (H:jQ P (some Z) cs0 (fun σ S => ∃ σm Sm,VWp P N b c2 Q2 σm Sm∧jQ P (some Z) cs1 (fun σ S=>Reach N b σ S σm Sm) σ S∧jQ P (some Z) cs2 (fun σ S=>Reach N b σ S σm Sm) σ S) σ S):VWp P N b c (JX (VWp P N b c2 Q2) Q) σ S:=by
  subst hp0;subst hp1;subst hp2
  cases c with
  | region id ops d =>
    cases d
    ·simp [Code.kind] at h
    ·intro m β w a hS hF;simp only [Code.ops] at *
     obtain ⟨hlen,_⟩:=jaq hc;refine wp_region_any hm ?_;have hcl:zb ops (Array.replicate ops.size false):=by
       intro i o ho hi;have:i<ops.size:=(Array.getElem?_eq_some_iff.1 ho).1;simp [this] at hi
     have hle:n0≤cs.length:=by rw [hlen]; exact of_decide_eq_true hn0
     have hl0:(cs.take n0).length=n0:=by rw [List.length_take,Nat.min_eq_left hle]
     have hcl1:=YQ hlen n0 0 _ hcl hp;have key:JU P Z (fun τ S=>anyZ P Z ops cs (fun τ S => ∃ σ':Fr,σ'.look=τ∧(JX (VWp P N b c2 Q2) Q) .normal σ' S) ord1.length (zJ n0 0 (Array.replicate ops.size false)) τ S) (cs.take n0) σ.look S:=by
       refine zR (fun τ S => ?_) (zh _ σ S H);rintro ⟨σ1,rfl,σm,Sm,hQ,H1,H2⟩;have a1:=WU (P:=P) (Z:=Z) (Q:=fun τ S => ∃ σ':Fr,σ'.look=τ∧(JX (VWp P N b c2 Q2) Q) .normal σ' S) (ops:=jA ops j i) (by rw [zd]; exact hlen) ord1 _ σ1.look S (WR hcl1 hj) hB1 (zR (fun τ S=>fun ⟨σ',e,hr⟩=>⟨σ',e,js hr hQ⟩) (zh _ σ1 S H1));have a2:=WU (P:=P) (Z:=Z) (Q:=fun τ S => ∃ σ':Fr,σ'.look=τ∧(JX (VWp P N b c2 Q2) Q) .normal σ' S) (ops:=jA ops i j) (by rw [zd]; exact hlen) ord2 _ σ1.look S (WR hcl1 hi) hB2 (zR (fun τ S=>fun ⟨σ',e,hr⟩=>⟨σ',e,js hr hQ⟩) (zh _ σ1 S H2));rw [show ord2.length=ord1.length by omega] at a2;refine anyZ_twoL hij hlen ord1.length _ σ1.look S (fun k o hk h3 h4 h5 => ?_) hi hj a1 a2;simp only [callsOk,List.all_eq_true,List.mem_range] at hnc;have hh:=hnc k (List.getElem?_eq_some_iff.1 hk).1
       have h6 : ¬ k<n0:=fun h6=>by
         simp only [List.all_eq_true,List.mem_range] at hu;rw [hu k h6] at h5; cases h5
       simpa [h6,h3,h4,hk] using hh
     have:=anyZ_pre (P:=P) (Z:=Z) hlen (cs.take n0) 0 (Array.replicate ops.size false) σ.look S (fun q hq=>by rw [Nat.zero_add,List.getElem?_take,if_pos (by omega)]) hcl (by rw [hl0]; exact hp) (by rw [hl0]; exact key);rw [hl0,hn1] at this;exact KP hc hE ops.size _ σ S m β _ a this hcl hz (fun _=>h0) hS.drew hF ((Ext.drew m β w).toB b)
  | _=>simp [Code.kind] at h
end
theorem zU {N b:Nat} {σ σ':Fr} {S:Store} (ks:List Nat) (h:σ.only ks=σ'):Reach N b σ S σ' S:=by subst h; exact Reach.only ks
theorem jU {N:Nat} {σ σ1 σ':Fr} {B:Store} {u u':Upds} {l l':List (Option (Nat × List V))} (ks gs:List Nat) (hσ1:σ.only ks=σ1) (hw:B.Wf) (h1:gs.Nodup) (h2:(Kz B.nx gs u&&YV B.nx gs l gs&&idsF (gcP B.nx gs) σ1)=true)
    (hu:gcU B.nx gs u=u') (hl:gcL B.nx gs l gs=l') (hσ:renF (gcTo B.nx gs) σ1=σ'):Reach N B.nx σ (St B u l) σ' (St B u' l') :=
  (zU ks hσ1).trans (Reach.gc gs hw h1 h2 hu hl hσ)
end Go.Vw
