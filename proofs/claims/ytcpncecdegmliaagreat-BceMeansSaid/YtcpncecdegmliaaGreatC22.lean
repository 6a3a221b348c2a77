import Derived.Test.YtcpncecdegmliaaGreatC20
/- Part of the proof. -/
set_option linter.unusedVariables false
set_option linter.unusedSimpArgs false
/-
 What the walk in depth meets; its order.
-/
namespace Go.Vw.G
open Go.Vw
abbrev Met (m:List Bool) (n:Nat):Prop:=m.getD n false=true
inductive From (g:List (List Nat)) (m:List Bool) (n:Nat):Nat→Prop
 | start (h : ¬ Met m n):From g m n n
 | step {a k:Nat} (h:From g m n a) (hk:k∈g.getD a []) (hm : ¬ Met m k):From g m n k
theorem From.not {g:List (List Nat)} {m:List Bool} {n b:Nat} (h:From g m n b) : ¬ Met m b:=by
 cases h<;>assumption
theorem From.less {g:List (List Nat)} {m m':List Bool} {n b:Nat} (hm : ∀ k,Met m k→Met m' k) (h:From g m' n b):From g m n b:=by
 induction h with
 | start h=>exact .start fun hk=>h (hm _ hk)
 | step _ hk hn ih=>exact .step ih hk fun h=>hn (hm _ h)
theorem From.cons {g:List (List Nat)} {m:List Bool} {n k b:Nat} (hn : ¬ Met m n) (hk:k∈g.getD n []) (h:From g m k b):From g m n b:=by
 induction h with
 | start h=>exact .step (.start hn) hk h
 | step _ hk' hm ih=>exact .step ih hk' hm
theorem met_set {m:List Bool} {n:Nat} (h:n<m.length) (k:Nat):Met (m.set n true) k↔k=n∨Met m k:=by
 unfold Met
 by_cases e:n=k
 ·subst e; rw [getD_set_self' h]; simp
 ·rw [getD_set_other e];constructor
  ·exact fun h => .inr h
  ·rintro (h | h)
   ·exact absurd h.symm e
   ·exact h
structure Left (g:List (List Nat)) (roots:List Nat) (s t:WS):Prop where
 len:t.1.length=s.1.length
 mono : ∀ k,Met s.1 k→Met t.1 k
 root : ∀ r∈roots,Met t.1 r
 kids : ∀ b,Met t.1 b → ¬ Met s.1 b → ∀ k∈g.getD b [],Met t.1 k
 way : ∀ b,Met t.1 b → ¬ Met s.1 b → ∃ r∈roots,From g s.1 r b
 done : ∃ d,t.2=s.2++d∧d.Nodup∧(∀ b,b∈d↔Met t.1 b ∧ ¬ Met s.1 b)
 /-- Behind each that is done stand, further back, nodes from which it is reached: but for the roots. -/
 behind : ∀ b,Met t.1 b → ¬ Met s.1 b→b∉roots → ∃ p d1 d2 d3,t.2=s.2++(d1++b::d2++p::d3)∧b∈g.getD p []
theorem Left.nil {g:List (List Nat)} (s:WS):Left g [] s s :=
 ⟨rfl,fun _ h=>h,by simp,fun b h1 h2=>absurd h1 h2,fun b h1 h2=>absurd h1 h2,⟨[],by simp,by simp,fun b=>⟨fun h=>by simp at h,fun h=>absurd h.1 h.2⟩⟩,fun b h1 h2=>absurd h1 h2⟩
theorem Left.met {g:List (List Nat)} {k:Nat} {l:List Nat} {s t:WS} (hk:Met s.1 k) (h:Left g l s t):Left g (k::l) s t:=by
 refine ⟨h.len,h.mono,fun r hr => ?_,h.kids,fun b h1 h2 => ?_,h.done,fun b h1 h2 h3=>h.behind b h1 h2 fun hb=>h3 (List.mem_cons_of_mem _ hb)⟩
 ·rcases List.mem_cons.1 hr with rfl | hr
  ·exact h.mono _ hk
  ·exact h.root r hr
 ·obtain ⟨r,hr,hw⟩:=h.way b h1 h2;exact ⟨r,List.mem_cons_of_mem _ hr,hw⟩
theorem Left.cons {g:List (List Nat)} {k:Nat} {l:List Nat} {s t u:WS} (h:Left g [k] s t) (h':Left g l t u):Left g (k::l) s u:=by
 obtain ⟨d,e1,n1,m1⟩:=h.done;obtain ⟨d',e2,n2,m2⟩:=h'.done;refine ⟨h'.len.trans h.len,fun x hx=>h'.mono x (h.mono x hx),fun r hr => ?_,fun b h1 h2 => ?_,fun b h1 h2 => ?_,⟨d++d', ?_, ?_,fun b => ?_⟩,fun b h1 h2 h3 => ?_⟩
 ·rcases List.mem_cons.1 hr with rfl | hr
  ·exact h'.mono _ (h.root _ (by simp))
  ·exact h'.root r hr
 ·intro c hc
  by_cases hb:Met t.1 b
  ·exact h'.mono _ (h.kids b hb h2 c hc)
  ·exact h'.kids b h1 hb c hc
 ·by_cases hb:Met t.1 b
  ·obtain ⟨r,hr,hw⟩:=h.way b hb h2;simp at hr; subst hr;exact ⟨r,by simp,hw⟩
  ·obtain ⟨r,hr,hw⟩:=h'.way b h1 hb;exact ⟨r,List.mem_cons_of_mem _ hr,hw.less h.mono⟩
 ·rw [e2,e1,List.append_assoc]
 ·rw [List.nodup_append];refine ⟨n1,n2,fun x hx y hy e => ?_⟩;subst e;exact ((m2 x).1 hy).2 ((m1 x).1 hx).1
 ·rw [List.mem_append,m1,m2];constructor
  ·rintro (⟨a,b⟩ | ⟨a,b⟩)
   ·exact ⟨h'.mono _ a,b⟩
   ·exact ⟨a,fun hs=>b (h.mono _ hs)⟩
  ·rintro ⟨a,c⟩
   by_cases hb:Met t.1 b
   ·exact .inl ⟨hb,c⟩
   ·exact .inr ⟨a,hb⟩
 ·by_cases hb:Met t.1 b
  ·obtain ⟨p,d1,d2,d3,e,hp⟩:=h.behind b hb h2 (by simpa using fun e=>h3 (by simp [e]));exact ⟨p,d1,d2,d3++d',by rw [e2,e]; simp,hp⟩
  ·obtain ⟨p,d1,d2,d3,e,hp⟩:=h'.behind b h1 hb fun hm=>h3 (List.mem_cons_of_mem _ hm)
   exact ⟨p,d++d1,d2,d3,by rw [e,e1]; simp,hp⟩
theorem Left.walk {g:List (List Nat)} {n:Nat} {s t:WS} (hn:n<s.1.length) (hm : ¬ Met s.1 n) (h:Left g (g.getD n []) (s.1.set n true,s.2) t):Left g [n] s (t.1,t.2++[n]):=by
 have hset:=met_set hn;have hnt:Met t.1 n:=h.mono n ((hset n).2 (.inl rfl));obtain ⟨d,e1,n1,m1⟩:=h.done;have hnd:n∉d:=fun hd=>((m1 n).1 hd).2 ((hset n).2 (.inl rfl))
 refine ⟨by have:=h.len; simpa using this,fun k hk=>h.mono k ((hset k).2 (.inr hk)),fun r hr=>by simp at hr; subst hr; exact hnt,fun b h1 h2 c hc => ?_,fun b h1 h2=>⟨n,by simp, ?_⟩,⟨d++[n],by simp [e1], ?_,fun b => ?_⟩,fun b h1 h2 h3 => ?_⟩
 ·by_cases e:b=n
  ·subst e; exact h.root c hc
  ·exact h.kids b h1 (fun hs=>by rcases (hset b).1 hs with h | h; exact e h; exact h2 h) c hc
 ·by_cases e:b=n
  ·subst e; exact .start hm
  ·obtain ⟨r,hr,hw⟩:=h.way b h1 (fun hs=>by rcases (hset b).1 hs with h | h; exact e h; exact h2 h);exact From.cons hm hr (hw.less fun k hk=>(hset k).2 (.inr hk))
 ·rw [List.nodup_append];exact ⟨n1,by simp,fun x hx y hy e=>by simp at hy; subst hy; subst e; exact hnd hx⟩
 ·rw [List.mem_append,m1,hset];simp only [List.mem_singleton,not_or];constructor
  ·rintro (⟨a,_,c⟩ | rfl)
   ·exact ⟨a,c⟩
   ·exact ⟨hnt,hm⟩
  ·rintro ⟨a,c⟩
   by_cases e:b=n
   ·exact .inr e
   ·exact .inl ⟨a,e,c⟩
 ·have e:b≠n:=by simpa using h3
  have hb2 : ¬ Met (s.1.set n true) b:=fun hs=>by rcases (hset b).1 hs with h | h; exact e h; exact h2 h
  by_cases hr:b∈g.getD n []
  ·have hbd:b∈d:=(m1 b).2 ⟨h1,hb2⟩;obtain ⟨d1,d2,rfl⟩:=List.append_of_mem hbd;exact ⟨n,d1,d2,[],by simp only [e1]; simp,hr⟩
  ·obtain ⟨p,d1,d2,d3,e2,hp⟩:=h.behind b h1 hb2 hr;exact ⟨p,d1,d2,d3++[n],by simp only [e2]; simp,hp⟩
theorem ZY {g:List (List Nat)} {f:Nat} (ih : ∀ n s t,s.1.length=g.length→n<s.1.length → ¬ Met s.1 n→walk g f n s=some t→Left g [n] s t) : ∀ (l:List Nat) (s t:WS),s.1.length=g.length→(∀ k∈l,k<s.1.length)→kids g f l s=some t→Left g l s t
 | [],s,t,_,_,h=>by cases h; exact Left.nil s
 | k::l,s,t,hs,hl,h=>by
  rw [kids_cons] at h;split at h
  ·rename_i hm;exact Left.met hm (ZY ih l s t hs (fun k hk=>hl k (List.mem_cons_of_mem _ hk)) h)
  ·rename_i hm;obtain ⟨u,h1,h2⟩:=Option.bind_eq_some_iff.1 h;have a:=ih k s u hs (hl k List.mem_cons_self) (by simpa using hm) h1;exact a.cons (ZY ih l u t (a.len.trans hs) (fun k hk=>by rw [a.len]; exact hl k (List.mem_cons_of_mem _ hk)) h2)
theorem Zm {g:List (List Nat)} (hg:Ok g) : ∀ (f n:Nat) (s t:WS),s.1.length=g.length→n<s.1.length → ¬ Met s.1 n→walk g f n s=some t→Left g [n] s t
 | 0,n,s,t,_,_,_,h=>by cases h
 | f+1,n,s,t,hs,hn,hm,h=>by
  rw [walk_succ] at h;obtain ⟨u,h1,rfl⟩:=Option.map_eq_some_iff.1 h;refine Left.walk hn hm (ZY (Zm hg f) _ _ u (by simpa using hs) (fun k hk => ?_) h1);have hng:n<g.length:=by omega
  have e:g.getD n []=g[n]:=by simp [hng]
  rw [e] at hk;have:=hg.elt _ (List.getElem_mem hng) k hk;simp only [List.length_set];omega
theorem JH {g:List (List Nat)} (hg:Ok g) {m:List Bool} (hm:m.length=g.length) (h0 : ¬ Met m 0) (b:Nat):Met (zM g m) b↔Met m b∨From g m 0 b:=by
 obtain ⟨t,h1,h2,h3,h4⟩:=metFrom_ends hg hm (by simpa using h0);have hl:=Zm hg _ 0 (m,[]) t hm (by have:=hg.pos; show 0<m.length; omega) h0 h1;rw [h2];constructor
 ·intro h
  by_cases hb:Met m b
  ·exact .inl hb
  ·obtain ⟨r,hr,hw⟩:=hl.way b h hb;simp at hr; subst hr;exact .inr hw
 ·rintro (h | h)
  ·exact hl.mono b h
  ·induction h with
   | start _=>exact hl.root 0 (by simp)
   | step ha hk _ ih=>exact hl.kids _ ih ha.not _ hk
abbrev R (g:List (List Nat)) (b:Nat):Prop:=From g (List.replicate g.length false) 0 b
theorem jY (n k:Nat) : ¬ Met (List.replicate n false) k:=by unfold Met; rw [rep_getD]; simp
structure qn (g:List (List Nat)) (l:List Nat):Prop where
 nd:l.Nodup
 mem : ∀ b,b∈l↔R g b
 head : ∃ r,l=0::r
 lt : ∀ b∈l,b<g.length
 par : ∀ b∈l,b≠0 → ∃ p d1 d2 d3,l=d1++p::d2++b::d3∧b∈g.getD p []
theorem R.lt {g:List (List Nat)} (hg:Ok g) {b:Nat} (h:R g b):b<g.length:=by
 cases h with
 | start _=>exact hg.pos
 | step ha hk _ =>
  rename_i a _
  by_cases hal:a<g.length
  ·have e:g.getD a []=g[a]:=by simp [hal]
   rw [e] at hk;exact hg.elt _ (List.getElem_mem hal) _ hk
  ·have e:g.getD a []=[]:=by simp [List.getElem?_eq_none (by omega:g.length≤a)]
   rw [e] at hk; simp at hk
theorem order_ok {g:List (List Nat)} (hg:Ok g):qn g (order g):=by
 obtain ⟨t,h1,h2,h3⟩:=order_ends hg;have hl:=Zm hg _ 0 (List.replicate g.length false,[]) t (by simp) (by have:=hg.pos; simp only [List.length_replicate]; omega) (jY _ _) h1;have ho:order g=t.2.reverse:=by simp [order,h1]
 obtain ⟨d,e1,n1,m1⟩:=hl.done;simp only [List.nil_append] at e1;have hmem : ∀ b,b∈order g↔R g b:=by
  intro b;have:=JH hg (m:=List.replicate g.length false) (by simp) (jY _ _) b;have hme:zM g (List.replicate g.length false)=t.1:=by simp [zM,h1]
  rw [hme] at this;rw [ho,List.mem_reverse,e1,m1,this];constructor
  ·rintro ⟨h | h,_⟩
   ·exact absurd h (jY _ _)
   ·exact h
  ·exact fun h=>⟨.inr h,jY _ _⟩
 refine ⟨by rw [ho,e1]; exact List.pairwise_reverse.2 (n1.imp fun h=>Ne.symm h),hmem, ?_,fun b hb=>((hmem b).1 hb).lt hg,fun b hb hb0 => ?_⟩
 ·have hp:=hg.pos;obtain ⟨f,hf⟩ : ∃ f,g.length=f+1:=⟨g.length-1,by omega⟩
  rw [hf,walk_succ] at h1;obtain ⟨u,_,rfl⟩:=Option.map_eq_some_iff.1 h1;exact ⟨u.2.reverse,by rw [ho]; simp⟩
 ·have hbt:Met t.1 b:=by
   have:=(hmem b).1 hb;have hme:zM g (List.replicate g.length false)=t.1:=by simp [zM,h1]
   rw [←hme];exact (JH hg (by simp) (jY _ _) b).2 (.inr this)
  obtain ⟨p,d1,d2,d3,e,hp⟩:=hl.behind b hbt (jY _ _) (by simpa using hb0);simp only [List.nil_append] at e;exact ⟨p,d3.reverse,d2.reverse,d1.reverse,by rw [ho,e]; simp,hp⟩
end Go.Vw.G
/-
 Dominators: what the nearest ones are, and that both ways find them.
-/
namespace Go.Vw.G
open Go.Vw
/-! ### Where nodes stand in the order -/
theorem jbd {n:Nat} {l:List Nat} (hn:l.Nodup) (hl : ∀ x∈l,x<n) : ∀ (k i:Nat),k≤l.length→(hi:i<l.length)→i<k→(rankTo n l k).getD l[i] 0=i
 | 0,i,_,_,h=>by omega
 | k+1,i,hk,hi,h=>by
  have hkl:k<l.length:=by omega
  have e:l.getD k 0=l[k]:=by simp [hkl]
  simp only [rankTo,e]
  by_cases hik:k=i
  ·subst hik;rw [getD_set_self' (by rw [rankTo_len]; exact hl _ (List.getElem_mem hi))]
  ·have hne:l[k]≠l[i]:=fun h=>hik ((List.getElem_inj hn).1 h)
   rw [getD_set_other hne];exact jbd hn hl k i (by omega) hi (by omega)
section
variable {g:List (List Nat)} {l:List Nat}
def rk (g:List (List Nat)) (l:List Nat) (x:Nat):Nat:=(rankTo g.length l l.length).getD x 0
theorem rk_at (h:qn g l) {i:Nat} (hi:i<l.length):rk g l l[i]=i:=jbd h.nd h.lt _ i (Nat.le_refl _) hi hi
theorem rk_inj (h:qn g l) {a b:Nat} (ha:a∈l) (hb:b∈l) (e:rk g l a=rk g l b):a=b:=by
 obtain ⟨i,hi,rfl⟩:=List.getElem_of_mem ha;obtain ⟨j,hj,rfl⟩:=List.getElem_of_mem hb;rw [rk_at h hi,rk_at h hj] at e;subst e; rfl
theorem WM (h:qn g l):rk g l 0=0:=by
 obtain ⟨r,rfl⟩:=h.head;have:=rk_at h (i:=0) (by simp);simpa using this
theorem zero_mem (h:qn g l):0∈l:=by obtain ⟨r,rfl⟩:=h.head; simp
theorem rk_pos (h:qn g l) {a:Nat} (ha:a∈l) (h0:a≠0):0<rk g l a:=by
 rcases Nat.eq_zero_or_pos (rk g l a) with e | e
 ·exact absurd (rk_inj h ha (zero_mem h) (e.trans (WM h).symm)) h0
 ·exact e
theorem rk_lt (h:qn g l) {a:Nat} (ha:a∈l):rk g l a<l.length:=by
 obtain ⟨i,hi,rfl⟩:=List.getElem_of_mem ha;rw [rk_at h hi]; exact hi
theorem par_rk (h:qn g l) {b:Nat} (hb:b∈l) (h0:b≠0) : ∃ p,p∈l∧rk g l p<rk g l b∧b∈g.getD p []:=by
 obtain ⟨p,d1,d2,d3,e,hp⟩:=h.par b hb h0;have hp1:d1.length<l.length:=by rw [e]; simp
 have hb1:d1.length+1+d2.length<l.length:=by rw [e]; simp; omega
 have ep:l[d1.length]=p:=by simp [e]
 have eb:l[d1.length+1+d2.length]=b:=by
  simp only [e];rw [List.getElem_append_right (by simp; omega)];simp [show d1.length+1+d2.length-(d1.length+(d2.length+1))=0 by omega]
 refine ⟨p,by rw [e]; simp, ?_,hp⟩;have a1:=rk_at h hp1;have a2:=rk_at h hb1;rw [ep] at a1; rw [eb] at a2;omega
/-! ### Ways that avoid a node, with so many steps back at most -/
inductive Way (g:List (List Nat)) (l:List Nat) (y:Nat):Nat→Nat→Prop
 | start (k:Nat) (h:0≠y):Way g l y k 0
 | on {k a n:Nat} (h:Way g l y k a) (hn:n∈g.getD a []) (hr:rk g l a<rk g l n) (hy:n≠y):Way g l y k n
 | back {k a n:Nat} (h:Way g l y k a) (hn:n∈g.getD a []) (hy:n≠y):Way g l y (k+1) n
theorem Way.ne {y k n:Nat} (h:Way g l y k n):n≠y:=by cases h<;>assumption
theorem Way.more {y k n:Nat} (h:Way g l y k n):Way g l y (k+1) n:=by
 induction h with
 | start k h=>exact .start _ h
 | on _ hn hr hy ih=>exact .on ih hn hr hy
 | back _ hn hy ih=>exact .back ih hn hy
theorem Way.le {y k k' n:Nat} (h:Way g l y k n) (hk:k≤k'):Way g l y k' n:=by
 induction hk with
 | refl=>exact h
 | step _ ih=>exact ih.more
theorem Way.other {y z k n:Nat} (h:Way g l y k n):Way g l z k n∨(∃ k',k'≤k∧Way g l y k' z):=by
 induction h with
 | start k h =>
  by_cases e:0=z
  ·subst e; exact .inr ⟨k,Nat.le_refl _, .start _ h⟩
  ·exact .inl (.start _ e)
 | @on k a n ha hn hr hy ih =>
  by_cases e:n=z
  ·subst e; exact .inr ⟨k,Nat.le_refl _, .on ha hn hr hy⟩
  ·rcases ih with h | h
   ·exact .inl (.on h hn hr e)
   ·exact .inr h
 | @back k a n ha hn hy ih =>
  by_cases e:n=z
  ·subst e; exact .inr ⟨k+1,Nat.le_refl _, .back ha hn hy⟩
  ·rcases ih with h | ⟨k',h1,h2⟩
   ·exact .inl (.back h hn e)
   ·exact .inr ⟨k',by omega,h2⟩
def DomK (g:List (List Nat)) (l:List Nat) (k y n:Nat):Prop := ¬ Way g l y k n
def Dom (g:List (List Nat)) (l:List Nat) (y n:Nat):Prop := ∀ k, ¬ Way g l y k n
theorem DomK.less {k k' y n:Nat} (h:DomK g l k y n) (hk:k'≤k):DomK g l k' y n:=fun hw=>h (hw.le hk)
theorem DomK.trans {k y z n:Nat} (h:DomK g l k y z) (h':DomK g l k z n):DomK g l k y n:=by
 intro hw;rcases hw.other (z:=z) with h1 | ⟨k',h1,h2⟩
 ·exact h' h1
 ·exact h (h2.le h1)
theorem DomK.self (k n:Nat):DomK g l k n n:=fun hw=>hw.ne rfl
theorem Dom.trans {y z n:Nat} (h:Dom g l y z) (h':Dom g l z n):Dom g l y n:=fun k=>DomK.trans (h k) (h' k)
theorem Dom.self (n:Nat):Dom g l n n:=fun k=>DomK.self k n
theorem Way.reached {y k n:Nat} (h:Way g l y k n):R g n:=by
 induction h with
 | start k h=>exact .start (jY _ _)
 | on _ hn _ _ ih=>exact .step ih hn (jY _ _)
 | back _ hn _ ih=>exact .step ih hn (jY _ _)
theorem From.way {y n:Nat} {m:List Bool} (hm:Met m y) (h:From g m 0 n) : ∃ k,Way g l y k n:=by
 induction h with
 | start h=>exact ⟨0, .start 0 fun e=>h (e▸hm)⟩
 | step _ hk hn ih =>
  obtain ⟨k,ih⟩:=ih;exact ⟨k+1, .back ih hk fun e=>hn (e▸hm)⟩
theorem Way.fromM {y k n:Nat} {m:List Bool} (hm : ∀ b,Met m b→b=y) (h:Way g l y k n):From g m 0 n:=by
 induction h with
 | start k h=>exact .start fun h'=>h (hm _ h')
 | on _ hn _ hy ih=>exact .step ih hn fun h'=>hy (hm _ h')
 | back _ hn hy ih=>exact .step ih hn fun h'=>hy (hm _ h')
theorem straight (h:qn g l) {y:Nat} : ∀ (r n:Nat),rk g l n=r→n∈l→(∀ x∈l,rk g l x≤r→x≠y)→Way g l y 0 n:=by
 intro r
 induction r using Nat.strongRecOn with
 | _ r ih =>
  intro n hr hn hy
  by_cases h0:n=0
  ·subst h0; exact .start _ (hy 0 hn (by omega))
  ·obtain ⟨p,hp,hlt,hk⟩:=par_rk h hn h0;exact .on (ih _ (by omega) p rfl hp fun x hx hle=>hy x hx (by omega)) hk (by omega) (hy n hn (by omega))
theorem Dom.rk (h:qn g l) {y n:Nat} (hd:Dom g l y n) (hy:y∈l) (hn:n∈l) (hne:y≠n):rk g l y<rk g l n:=by
 rcases Nat.lt_or_ge (G.rk g l y) (G.rk g l n) with h1 | h1
 ·exact h1
 ·exfalso
  refine hd 0 (straight h _ n rfl hn fun x hx hle e => ?_);subst e;have:G.rk g l x=G.rk g l n:=by omega
  exact hne (rk_inj h hx hn this)
theorem Dom.anti (h:qn g l) {y n:Nat} (hd:Dom g l y n) (hd':Dom g l n y) (hy:y∈l) (hn:n∈l):y=n:=by
 by_cases e:y=n
 ·exact e
 ·have:=hd.rk h hy hn e;have:=hd'.rk h hn hy (Ne.symm e);omega
theorem Dom.zero (h:qn g l) {n:Nat}:Dom g l 0 n:=by
 intro k hw
 induction hw with
 | start k h=>exact h rfl
 | on _ _ _ _ ih=>exact ih
 | back _ _ _ ih=>exact ih
theorem Dom.pred {d n p:Nat} (hd:Dom g l d n) (hne:d≠n) (hp:n∈g.getD p []):Dom g l d p:=fun k hw=>hd (k+1) (.back hw hp (Ne.symm hne))
theorem Dom.mem (h:qn g l) {y n:Nat} (hd:Dom g l y n) (hn:n∈l):y∈l:=by
 by_cases hy:y∈l
 ·exact hy
 ·exact absurd (straight h _ n rfl hn fun x hx _ e=>hy (by rw [←e]; exact hx)) (hd 0)
end
end Go.Vw.G
/-
 Turn by turn the nearest dominators are found.
-/
namespace Go.Vw.G
open Go.Vw
section
variable {g:List (List Nat)} {l:List Nat}
def nd (near:List Int) (x:Nat):Int:=near.getD x 0
structure Ptr (g:List (List Nat)) (l:List Nat) (near:List Int) (k x p:Nat):Prop where
 mem:p∈l
 rk:rk g l p<rk g l x
 dom : ∀ d,Dom g l d x→d≠x→Dom g l d p
 lev:DomK g l k p x
structure Inv (g:List (List Nat)) (l:List Nat) (lev:Nat→Nat) (near:List Int):Prop where
 len:near.length=g.length
 zero:nd near 0=0
 out : ∀ x,x<g.length→x∉l→nd near x = -1
 ptr : ∀ x∈l,x≠0→0≤nd near x → ∃ p:Nat,nd near x=p∧0≤nd near p∧Ptr g l near (lev x) x p
 neg : ∀ x∈l,nd near x<0→nd near x = -1
inductive Anc (near:List Int) (y:Nat):Nat→Prop
 | refl:Anc near y y
 | up {x p:Nat} (h0:x≠0) (hp:nd near x=p) (h:Anc near y p):Anc near y x
theorem anc_dom {lev:Nat→Nat} {near:List Int} (hI:Inv g l lev near) {k y a:Nat} (h:Anc near y a) (ha:a∈l) (hd:0≤nd near a) (hk : ∀ x∈l,rk g l x≤rk g l a→0≤nd near x→x≠0→k≤lev x):DomK g l k y a:=by
 induction h with
 | refl=>exact DomK.self k y
 | @up x p h0 hp _ ih =>
  obtain ⟨p',e,hdp,hP⟩:=hI.ptr x ha h0 hd;rw [hp] at e;have e:p=p':=by omega
  subst e;have:=ih hP.mem hdp fun z hz hle hdz h0z=>hk z hz (by have:=hP.rk; omega) hdz h0z
  exact this.trans (hP.lev.less (hk x ha (Nat.le_refl _) hd h0))
theorem ZU (ho:qn g l) {lev:Nat→Nat} {near:List Int} (hI:Inv g l lev near) : ∀ (f a b:Nat),rk g l a+rk g l b<f→a∈l→b∈l→0≤nd near a→0≤nd near b →
  ∃ c:Nat,meetF (rankTo g.length l l.length) near f a b=some (c:Int)∧c∈l∧0≤nd near c∧Anc near c a∧Anc near c b∧rk g l c≤rk g l a∧rk g l c≤rk g l b ∧
   ∀ D:Nat→Prop,(∀ d,D d→Dom g l d a)→(∀ d,D d→Dom g l d b) → ∀ d,D d→Dom g l d c
 | 0,a,b,h,_,_,_,_=>by omega
 | f+1,a,b,h,ha,hb,hda,hdb=>by
  by_cases hab:a=b
  ·subst hab;exact ⟨a,by simp [meetF],ha,hda, .refl, .refl,Nat.le_refl _,Nat.le_refl _,fun D h1 _ d hd=>h1 d hd⟩
  ·have hab' : ¬ (a:Int)=(b:Int):=by omega
   have hal:=ho.lt a ha;have hbl:=ho.lt b hb;have hl:=hI.len;have hne:rk g l a≠rk g l b:=fun e=>hab (rk_inj ho ha hb e)
   have hbnd:(0:Int)≤a∧(a:Int)<near.length∧(0:Int)≤b∧(b:Int)<near.length:=⟨by omega,by omega,by omega,by omega⟩
   by_cases hlt:rk g l b<rk g l a
   ·have h0:a≠0:=by intro e; subst e; rw [WM ho] at hlt; omega
    obtain ⟨p,e,hdp,hP⟩:=hI.ptr a ha h0 hda;have e':near.getD a 0=(p:Int):=e;have e1:meetF (rankTo g.length l l.length) near (f+1) a b=meetF (rankTo g.length l l.length) near f (p:Int) b:=by
     rw [meetF,if_neg hab',if_pos hbnd];simp only [Int.toNat_natCast];rw [if_pos (show (rankTo g.length l l.length).getD b 0<(rankTo g.length l l.length).getD a 0 from hlt),e']
    rw [e1];have hrk:=hP.rk;obtain ⟨c,k1,k2,k3,k4,k5,k6,k7,k8⟩:=ZU ho hI f p b (by omega) hP.mem hb hdp hdb;refine ⟨c,k1,k2,k3, .up h0 e k4,k5,by omega,k7,fun D h1 h2=>k8 D (fun d hd => ?_) h2⟩
    by_cases hda':d=a
    ·subst hda';have:=(h2 d hd).rk ho ha hb hab;omega
    ·exact hP.dom d (h1 d hd) hda'
   ·have h0:b≠0:=by intro e; subst e; rw [WM ho] at hlt; have:=rk_pos ho ha (by omega); omega
    obtain ⟨p,e,hdp,hP⟩:=hI.ptr b hb h0 hdb;have e':near.getD b 0=(p:Int):=e;have e1:meetF (rankTo g.length l l.length) near (f+1) a b=meetF (rankTo g.length l l.length) near f a (p:Int):=by
     rw [meetF,if_neg hab',if_pos hbnd];simp only [Int.toNat_natCast];rw [if_neg (show ¬ (rankTo g.length l l.length).getD b 0<(rankTo g.length l l.length).getD a 0 from hlt),e']
    rw [e1];have hrk:=hP.rk;obtain ⟨c,k1,k2,k3,k4,k5,k6,k7,k8⟩:=ZU ho hI f a p (by omega) ha hP.mem hda hdp;refine ⟨c,k1,k2,k3,k4, .up h0 e k5,k6,by omega,fun D h1 h2=>k8 D h1 fun d hd => ?_⟩
    by_cases hda':d=b
    ·subst hda';have:=(h1 d hd).rk ho hb ha (Ne.symm hab);omega
    ·exact hP.dom d (h2 d hd) hda'
structure Best (g:List (List Nat)) (l:List Nat) (near:List Int) (n:Nat) (seen:List Nat) (best:Int):Prop where
 none:best<0→best = -1 ∧ ∀ p∈seen,nd near p<0
 some:0≤best → ∃ c:Nat,best=c∧c∈l∧0≤nd near c∧(∀ p∈seen,0≤nd near p→Anc near c p∧rk g l c≤rk g l p) ∧ ∀ d,Dom g l d n→d≠n→Dom g l d c
theorem Wk (ho:qn g l) {lev:Nat→Nat} {near:List Int} (hI:Inv g l lev near) {F n:Nat} (hF:2*l.length<F) : ∀ (ps seen:List Nat) (best:Int),Best g l near n seen best→(∀ p∈ps,p<g.length∧n∈g.getD p []) →
  ∃ b,pickF (rankTo g.length l l.length) near F ps best=some b∧Best g l near n (seen++ps) b
 | [],seen,best,hB,_=>⟨best,rfl,by simpa using hB⟩
 | p::ps,seen,best,hB,hps=>by
  obtain ⟨hpl,hpn⟩:=hps p List.mem_cons_self;have hps':=fun q hq=>hps q (List.mem_cons_of_mem _ hq)
  have happ:seen++p::ps=(seen++[p])++ps:=by simp
  simp only [pickF];have hnd:near.getD p 0=nd near p:=rfl;rw [hnd,happ]
  by_cases h1:nd near p<0
  ·rw [if_pos h1];refine Wk ho hI hF ps (seen++[p]) best ⟨fun hb=>⟨(hB.none hb).1,fun q hq => ?_⟩,fun hb => ?_⟩ hps'
   ·rcases List.mem_append.1 hq with h | h
    ·exact (hB.none hb).2 q h
    ·simp at h; subst h; exact h1
   ·obtain ⟨c,e,k1,k2,k3,k4⟩:=hB.some hb;refine ⟨c,e,k1,k2,fun q hq hdq => ?_,k4⟩;rcases List.mem_append.1 hq with h | h
    ·exact k3 q h hdq
    ·simp at h; subst h; omega
  ·rw [if_neg h1];have hdp:0≤nd near p:=by omega
   have hpm:p∈l:=by
    by_cases hm:p∈l
    ·exact hm
    ·have:=hI.out p hpl hm; omega
   by_cases h2:best<0
   ·rw [if_pos h2];refine Wk ho hI hF ps (seen++[p]) p ⟨fun hb=>by omega,fun _=>⟨p,rfl,hpm,hdp,fun q hq hdq => ?_,fun d hd hne=>hd.pred hne hpn⟩⟩ hps';rcases List.mem_append.1 hq with h | h
    ·have:=(hB.none h2).2 q h; omega
    ·simp at h; subst h; exact ⟨.refl,Nat.le_refl _⟩
   ·rw [if_neg h2];obtain ⟨c,e,k1,k2,k3,k4⟩:=hB.some (by omega);subst e;obtain ⟨c',m1,m2,m3,m4,m5,m6,m7,m8⟩:=ZU ho hI F c p (by have:=rk_lt ho k1; have:=rk_lt ho hpm; omega) k1 hpm k2 hdp;rw [m1];simp only [Option.bind_some];have trans : ∀ q,Anc near c q→Anc near c' q:=by
     intro q hq
     induction hq with
     | refl=>exact m4
     | up h0 hp _ ih=>exact .up h0 hp ih
    refine Wk ho hI hF ps (seen++[p]) c' ⟨fun hb=>by omega,fun _=>⟨c',rfl,m2,m3,fun q hq hdq => ?_,fun d hd hne=>m8 (fun d=>Dom g l d n∧d≠n) (fun d h=>k4 d h.1 h.2) (fun d h=>h.1.pred h.2 hpn) d ⟨hd,hne⟩⟩⟩ hps';rcases List.mem_append.1 hq with h | h
    ·obtain ⟨a1,a2⟩:=k3 q h hdq;exact ⟨trans q a1,by omega⟩
    ·simp at h; subst h; exact ⟨m5,m7⟩
/-! ### A turn -/
structure PassInv (g:List (List Nat)) (l:List Nat) (j i:Nat) (near:List Int):Prop where
 inv:Inv g l (fun x=>if rk g l x<i then j else j-1) near
 dfd : ∀ x∈l,rk g l x<i→0≤nd near x
 und:j=0 → ∀ x∈l,i≤rk g l x→nd near x<0
 all:0<j → ∀ x∈l,0≤nd near x
theorem nd_set {near:List Int} {n:Nat} (h:n<near.length) (c:Int) (x:Nat):nd (near.set n c) x=if x=n then c else nd near x:=by
 unfold nd
 by_cases e:n=x
 ·subst e; rw [getD_set_self' h,if_pos rfl]
 ·rw [getD_set_other e,if_neg (fun h=>e h.symm)]
theorem node_turn (ho:qn g l) {fr:List (List Nat)} (hfr : ∀ n p,n<g.length→(p∈fr.getD n []↔p<g.length∧n∈g.getD p [])) {F:Nat} (hF:2*l.length<F) {j i:Nat} {near:List Int} (hP:PassInv g l j i near) (hi:i<l.length) (hi1:1≤i) :
  ∃ c:Nat,pickF (rankTo g.length l l.length) near F (fr.getD l[i] []) (-1)=some (c:Int)∧PassInv g l j (i+1) (near.set l[i] (c:Int))∧Ptr g l near j l[i] c:=by
 obtain ⟨n,hn⟩ : ∃ n,l[i]=n:=⟨_,rfl⟩
 have hnl:n∈l:=hn▸List.getElem_mem hi;have hrn:rk g l n=i:=by rw [←hn]; exact rk_at ho hi
 have hn0:n≠0:=by intro e; rw [e,WM ho] at hrn; omega
 have hng:=ho.lt n hnl;rw [hn];obtain ⟨b,h1,h2⟩:=Wk ho hP.inv hF (fr.getD n []) [] (-1) ⟨fun _=>⟨rfl,by simp⟩,fun h=>by omega⟩ (fun p hp=>(hfr n p hng).1 hp);simp only [List.nil_append] at h2;obtain ⟨q,hq,hqr,hqk⟩:=par_rk ho hnl hn0;have hqf:q∈fr.getD n []:=(hfr n q hng).2 ⟨ho.lt q hq,hqk⟩;have hqd:0≤nd near q:=hP.dfd q hq (by omega);have hb:0≤b:=by
  rcases Int.lt_or_le b 0 with h | h
  ·have:=(h2.none h).2 q hqf; omega
  ·exact h
 obtain ⟨c,rfl,k1,k2,k3,k4⟩:=h2.some hb;have hcr:rk g l c<i:=by have:=(k3 q hqf hqd).2; omega
 have hlev:DomK g l j c n:=by
  intro hw;generalize hjj:j=jj at hw
  cases hw with
  | start _ _=>exact hn0 rfl
  | @on _ a _ ha hna hr _ =>
   have haR:a∈l:=(ho.mem a).2 ha.reached;have had:0≤nd near a:=hP.dfd a haR (by omega);have haf:a∈fr.getD n []:=(hfr n a hng).2 ⟨ho.lt a haR,hna⟩;have:=anc_dom hP.inv (k:=j) (k3 a haf had).1 haR had (fun x hx hle _ _=>by rw [if_pos (by omega)]; exact Nat.le_refl _);rw [hjj] at this;exact this ha
  | @back j' a _ ha hna _ =>
   have haR:a∈l:=(ho.mem a).2 ha.reached;have had:0≤nd near a:=hP.all (by omega) a haR;have haf:a∈fr.getD n []:=(hfr n a hng).2 ⟨ho.lt a haR,hna⟩;have:=anc_dom hP.inv (k:=j') (k3 a haf had).1 haR had (fun x hx hle _ _=>by split<;>omega);exact this ha
 have hcn:c≠n:=by intro e; subst e; omega
 have hptr:Ptr g l near j n c:=⟨k1,by omega,k4,hlev⟩
 have hnn:n<near.length:=by rw [hP.inv.len]; exact hng
 have hset:=nd_set hnn (c:Int);refine ⟨c,h1,⟨⟨by simpa using hP.inv.len, ?_,fun x hx hxl => ?_,fun x hx hx0 hdx => ?_,fun x hx hdx => ?_⟩,fun x hx hrx => ?_,fun h0 x hx hrx => ?_,fun h0 x hx => ?_⟩,hptr⟩
 ·rw [hset,if_neg (Ne.symm hn0)]; exact hP.inv.zero
 ·rw [hset,if_neg (fun (e:x=n)=>hxl (by rw [e]; exact hnl))]; exact hP.inv.out x hx hxl
 ·rw [hset] at hdx ⊢
  by_cases e:x=n
  ·subst e;refine ⟨c,by rw [if_pos rfl],by rw [hset,if_neg hcn]; exact k2,⟨k1,hptr.rk,k4, ?_⟩⟩;rw [if_pos (by omega)]; exact hlev
  ·rw [if_neg e] at hdx ⊢;obtain ⟨p,e1,e2,e3⟩:=hP.inv.ptr x hx hx0 hdx;refine ⟨p,e1, ?_,⟨e3.mem,e3.rk,e3.dom, ?_⟩⟩
   ·rw [hset]; split
    ·omega
    ·exact e2
   ·have hne:rk g l x≠i:=fun h=>e (rk_inj ho hx hnl (h.trans hrn.symm))
    have:=e3.lev
    by_cases hlt:rk g l x<i
    ·rw [if_pos hlt] at this; rw [if_pos (by omega)]; exact this
    ·rw [if_neg hlt] at this; rw [if_neg (by omega)]; exact this
 ·rw [hset] at hdx ⊢
  by_cases e:x=n
  ·rw [if_pos e] at hdx; omega
  ·rw [if_neg e] at hdx ⊢; exact hP.inv.neg x hx hdx
 ·rw [hset]
  by_cases e:x=n
  ·rw [if_pos e]; omega
  ·rw [if_neg e];have hne:rk g l x≠i:=fun h=>e (rk_inj ho hx hnl (h.trans hrn.symm))
   exact hP.dfd x hx (by omega)
 ·rw [hset,if_neg (fun e=>by subst e; omega)];exact hP.und h0 x hx (by omega)
 ·rw [hset]; split
  ·omega
  ·exact hP.all h0 x hx
theorem Ptr.unique (ho:qn g l) {K k k' n p q:Nat} {near near':List Int} (hK : ∀ y n,y∈l→n∈l→DomK g l K y n→Dom g l y n) (hn:n∈l) (h:Ptr g l near k n p) (h':Ptr g l near' k' n q) (hk:K≤k) (hk':K≤k'):p=q:=by
 have d1:=hK p n h.mem hn (h.lev.less hk);have d2:=hK q n h'.mem hn (h'.lev.less hk');have n1:p≠n:=fun e=>by have:=h.rk; rw [e] at this; omega
 have n2:q≠n:=fun e=>by have:=h'.rk; rw [e] at this; omega
 exact (h'.dom p d1 n1).anti ho (h.dom q d2 n2) h.mem h'.mem
theorem Kn (ho:qn g l) {fr:List (List Nat)} (hfr : ∀ n p,n<g.length→(p∈fr.getD n []↔p<g.length∧n∈g.getD p [])) {F:Nat} (hF:2*l.length<F) {K j:Nat} (hK : ∀ y n,y∈l→n∈l→DomK g l K y n→Dom g l y n) :
  ∀ (m i:Nat) (near:List Int) (t:Bool),i+m=l.length→1≤i→PassInv g l j i near →
   ∃ near' t',sweepF (rankTo g.length l l.length) fr F (l.drop i) near t=some (near',t')∧PassInv g l j l.length near'∧(K+1≤j→t'=t)∧(t'=false→t=false∧near'=near)
 | 0,i,near,t,hi,_,hP=>by
  have:i=l.length:=by omega
  subst this;exact ⟨near,t,by rw [List.drop_length]; rfl,hP,fun _=>rfl,fun h=>⟨h,rfl⟩⟩
 | m+1,i,near,t,hi,h1,hP=>by
  have hil:i<l.length:=by omega
  obtain ⟨c,e1,e2,e3⟩:=node_turn ho hfr hF hP hil h1;rw [List.drop_eq_getElem_cons hil,sweepF,e1,Option.bind_some];obtain ⟨near',t',k1,k2,k3,k4⟩:=Kn ho hfr hF hK m (i+1) (near.set l[i] (c:Int)) (t||decide (near.getD l[i] 0≠(c:Int))) (by omega) (by omega) e2;have hnl:=List.getElem_mem hil;have hrn:=rk_at ho hil;refine ⟨near',t',k1,k2,fun hj => ?_,fun ht => ?_⟩
  ·rw [k3 hj];have hn0:l[i]≠0:=by intro e; rw [e,WM ho] at hrn; omega
   obtain ⟨p,q1,q2,q3⟩:=hP.inv.ptr l[i] hnl hn0 (hP.all (by omega) _ hnl);have hpc:p=c:=by
    refine Ptr.unique ho hK hnl q3 e3 ?_ (by omega);rw [if_neg (by omega)]; omega
   have:near.getD l[i] 0=(c:Int):=by rw [←hpc]; exact q1
   rw [this]; simp
  ·obtain ⟨a1,a2⟩:=k4 ht;simp only [Bool.or_eq_false_iff,decide_eq_false_iff_not,Decidable.not_not] at a1;refine ⟨a1.1,a2.trans ?_⟩;have hnn:l[i]<near.length:=by rw [hP.inv.len]; exact ho.lt _ hnl
   have e:near.getD l[i] 0=near[l[i]]:=by simp [hnn]
   have:=a1.2;rw [e] at this;rw [←this];exact List.set_getElem_self hnn
structure Idom (g:List (List Nat)) (l:List Nat) (near:List Int):Prop where
 len:near.length=g.length
 zero:nd near 0=0
 out : ∀ x,x<g.length→x∉l→nd near x = -1
 near : ∀ x∈l,x≠0 → ∃ p:Nat,nd near x=p∧p∈l∧p≠x∧Dom g l p x ∧ ∀ d,Dom g l d x→d≠x→Dom g l d p
theorem PassInv.next (ho:qn g l) {j:Nat} {near:List Int} (h:PassInv g l j l.length near):PassInv g l (j+1) 1 near:=by
 refine ⟨⟨h.inv.len,h.inv.zero,h.inv.out,fun x hx hx0 hd => ?_,h.inv.neg⟩,fun x hx _=>h.dfd x hx (rk_lt ho hx),fun h0=>by omega,fun _ x hx=>h.dfd x hx (rk_lt ho hx)⟩;obtain ⟨p,e1,e2,e3⟩:=h.inv.ptr x hx hx0 hd;refine ⟨p,e1,e2,⟨e3.mem,e3.rk,e3.dom, ?_⟩⟩;have:=e3.lev;rw [if_pos (rk_lt ho hx)] at this;have hp:=rk_pos ho hx hx0;rw [if_neg (by omega)];simpa using this
theorem PassInv.idom (ho:qn g l) {K j:Nat} {near:List Int} (hK : ∀ y n,y∈l→n∈l→DomK g l K y n→Dom g l y n) (h:PassInv g l j 1 near) (hj:K+1≤j):Idom g l near:=by
 refine ⟨h.inv.len,h.inv.zero,h.inv.out,fun x hx hx0 => ?_⟩;obtain ⟨p,e1,e2,e3⟩:=h.inv.ptr x hx hx0 (h.all (by omega) x hx);have hp:=rk_pos ho hx hx0;have hl:=e3.lev;rw [if_neg (by omega)] at hl;exact ⟨p,e1,e3.mem,fun e=>by have:=e3.rk; rw [e] at this; omega,hK p x e3.mem hx (hl.less (by omega)),e3.dom⟩
theorem chk_spec (ho:qn g l) {fr:List (List Nat)} (hfr : ∀ n p,n<g.length→(p∈fr.getD n []↔p<g.length∧n∈g.getD p [])) {F:Nat} (hF:2*l.length<F) {K:Nat} (hK : ∀ y n,y∈l→n∈l→DomK g l K y n→Dom g l y n) :
  ∀ (r j:Nat) (near:List Int),j+r=K+1→PassInv g l j 1 near → ∃ nearF,chk (rankTo g.length l l.length) fr F l.tail (r+1) near=some nearF∧Idom g l nearF:=by
 have hl1:1≤l.length:=by obtain ⟨r,rfl⟩:=ho.head; simp
 intro r
 induction r with
 | zero =>
  intro j near hj hP;obtain ⟨near',t',k1,k2,k3,k4⟩:=Kn ho hfr hF hK (l.length-1) 1 near false (by omega) (by omega) hP;have ht:=k3 (by omega);subst ht;obtain ⟨_,rfl⟩:=k4 rfl;rw [List.drop_one] at k1;exact ⟨near',by simp [chk,k1],hP.idom ho hK (by omega)⟩
 | succ r ih =>
  intro j near hj hP;obtain ⟨near',t',k1,k2,k3,k4⟩:=Kn ho hfr hF hK (l.length-1) 1 near false (by omega) (by omega) hP;rw [List.drop_one] at k1
  cases t' with
  | true =>
   obtain ⟨nearF,a1,a2⟩:=ih (j+1) near' (by omega) (k2.next ho);exact ⟨nearF,by rw [chk,k1]; simpa using a1,a2⟩
  | false =>
   obtain ⟨_,rfl⟩:=k4 rfl;refine ⟨near',by simp [chk,k1], ?_⟩;have again : ∀ m,PassInv g l (j+m) 1 near':=by
    intro m
    induction m with
    | zero=>exact hP
    | succ m ihm =>
     obtain ⟨n2,t2,q1,q2,_,_⟩:=Kn ho hfr hF hK (l.length-1) 1 near' false (by omega) (by omega) ihm;rw [List.drop_one,k1] at q1
     cases q1
     exact q2.next ho
   exact (again (K+1)).idom ho hK (by omega)
theorem enough (ho:qn g l) : ∃ K, ∀ y n,y∈l→n∈l→DomK g l K y n→Dom g l y n:=by
 have one : ∀ y n, ∃ k,DomK g l k y n→Dom g l y n:=by
  intro y n
  by_cases h:Dom g l y n
  ·exact ⟨0,fun _=>h⟩
  ·have : ∃ k,Way g l y k n:=Classical.byContradiction fun hc=>h fun k hw=>hc ⟨k,hw⟩
   obtain ⟨k,hk⟩:=this;exact ⟨k,fun hd=>absurd hk hd⟩
 have row : ∀ (y:Nat) (ns:List Nat), ∃ K, ∀ n∈ns,DomK g l K y n→Dom g l y n:=by
  intro y ns
  induction ns with
  | nil=>exact ⟨0,by simp⟩
  | cons n ns ih =>
   obtain ⟨K,hK⟩:=ih;obtain ⟨k,hk⟩:=one y n;refine ⟨max K k,fun m hm hd => ?_⟩;rcases List.mem_cons.1 hm with rfl | hm
   ·exact hk (hd.less (by omega))
   ·exact hK m hm (hd.less (by omega))
 have all : ∀ ys:List Nat, ∃ K, ∀ y∈ys, ∀ n∈l,DomK g l K y n→Dom g l y n:=by
  intro ys
  induction ys with
  | nil=>exact ⟨0,by simp⟩
  | cons y ys ih =>
   obtain ⟨K,hK⟩:=ih;obtain ⟨k,hk⟩:=row y l;refine ⟨max K k,fun z hz n hn hd => ?_⟩;rcases List.mem_cons.1 hz with rfl | hz
   ·exact hk n hn (hd.less (by omega))
   ·exact hK z hz n hn (hd.less (by omega))
 obtain ⟨K,hK⟩:=all l;exact ⟨K,fun y n hy hn=>hK y hy n hn⟩
theorem start_inv (ho:qn g l) (hg:Ok g):PassInv g l 0 1 ((List.replicate g.length (-1)).set 0 0):=by
 have hlen:0<(List.replicate g.length (-1:Int)).length:=by rw [List.length_replicate]; exact hg.pos
 have hset:=nd_set hlen 0;have hrep : ∀ x,x<g.length→nd (List.replicate g.length (-1:Int)) x = -1:=by
  intro x hx; simp [nd,List.getElem?_replicate,hx]
 have z : ∀ x∈l,rk g l x<1→x=0:=by
  intro x hx h
  by_cases e:x=0
  ·exact e
  ·have:=rk_pos ho hx e; omega
 refine ⟨⟨by simp,by rw [hset]; simp,fun x hx hxl => ?_,fun x hx hx0 hd => ?_,fun x hx hd => ?_⟩,fun x hx h => ?_,fun _ x hx h => ?_,fun h=>by omega⟩
 ·rw [hset,if_neg (fun (e:x=0)=>hxl (by rw [e]; exact zero_mem ho))]; exact hrep x hx
 ·rw [hset,if_neg hx0,hrep x (ho.lt x hx)] at hd; omega
 ·rw [hset] at hd ⊢
  by_cases e:x=0
  ·rw [if_pos e] at hd; omega
  ·rw [if_neg e]; exact hrep x (ho.lt x hx)
 ·rw [z x hx h,hset]; simp
 ·have hx0:x≠0:=by intro e; subst e; rw [WM ho] at h; omega
  rw [hset,if_neg hx0,hrep x (ho.lt x hx)]; omega
end
/-! ### What goes to each node -/
theorem push_row {rows:List (List Nat)} {k i:Nat} (n:Nat) (h:k<rows.length):(push rows k i).getD n []=if n=k then rows.getD n []++[i] else rows.getD n []:=by
 unfold push
 by_cases e:k=n
 ·subst e; rw [getD_set_self' h,if_pos rfl]
 ·rw [getD_set_other e,if_neg (fun h=>e h.symm)]
theorem ZS : ∀ (es:List (Nat × Nat)) (rows:List (List Nat)) (n p:Nat),(∀ e∈es,e.1<rows.length)→(p∈(pushAll rows es).getD n []↔p∈rows.getD n []∨(n,p)∈es)
 | [],rows,n,p,_=>by simp [pushAll]
 | e::es,rows,n,p,h=>by
  have h1:=h e List.mem_cons_self;have:=ZS es (push rows e.1 e.2) n p (fun e' he'=>by rw [push_length]; exact h e' (List.mem_cons_of_mem _ he'));show p∈(pushAll (push rows e.1 e.2) es).getD n []↔_;rw [this,push_row n h1];obtain ⟨a,b⟩:=e
  by_cases hn:n=a
  ·subst hn;rw [if_pos rfl,List.mem_append];simp only [List.mem_cons,List.not_mem_nil,or_false,Prod.mk.injEq,true_and];constructor
   ·rintro ((h | h) | h)
    ·exact .inl h
    ·exact .inr (.inl h)
    ·exact .inr (.inr h)
   ·rintro (h | h | h)
    ·exact .inl (.inl h)
    ·exact .inl (.inr h)
    ·exact .inr h
  ·rw [if_neg hn];simp only [List.mem_cons,Prod.mk.injEq,hn,false_and,false_or]
theorem ZT : ∀ (g:List (List Nat)) (j n p:Nat),(n,p)∈edges g j↔j≤p∧n∈g.getD (p-j) []
 | [],j,n,p=>by simp [edges]
 | l::g,j,n,p=>by
  simp only [edges,List.mem_append,List.mem_map,Prod.mk.injEq,ZT g (j+1) n p];constructor
  ·rintro (⟨a,h1,rfl,rfl⟩ | ⟨h1,h2⟩)
   ·simpa using h1
   ·have e:p-j=(p-(j+1))+1:=by omega
    rw [e];exact ⟨by omega,by simpa using h2⟩
  ·rintro ⟨h1,h2⟩
   by_cases e:p=j
   ·subst e;exact .inl ⟨n,by simpa using h2,rfl,rfl⟩
   ·have e':p-j=(p-(j+1))+1:=by omega
    rw [e'] at h2;exact .inr ⟨by omega,by simpa using h2⟩
theorem mem_froms {g:List (List Nat)} (hg:Ok g) (n p:Nat) (hn:n<g.length):p∈(froms g).getD n []↔p<g.length∧n∈g.getD p []:=by
 have he : ∀ e∈edges g 0,e.1<(List.replicate g.length ([]:List Nat)).length:=by
  rintro ⟨a,b⟩ h;have:=((ZT g 0 a b).1 h).2;rw [List.length_replicate];simp only [Nat.sub_zero] at this
  by_cases hb:b<g.length
  ·have e:g.getD b []=g[b]:=by simp [hb]
   rw [e] at this;exact hg.elt _ (List.getElem_mem hb) _ this
  ·have e:g.getD b []=[]:=by simp [List.getElem?_eq_none (by omega:g.length≤b)]
   rw [e] at this; simp at this
 rw [froms,ZS _ _ _ _ he,ZT];have:(List.replicate g.length ([]:List Nat)).getD n []=[]:=by simp [List.getElem?_replicate,hn]
 rw [this];simp only [List.not_mem_nil,false_or,Nat.zero_le,true_and,Nat.sub_zero];constructor
 ·intro h;refine ⟨?_,h⟩;rcases Nat.lt_or_ge p g.length with hp | hp
  ·exact hp
  ·have e:g.getD p []=[]:=by simp [List.getElem?_eq_none hp]
   rw [e] at h; simp at h
 ·exact fun h=>h.2
theorem chk_ends {g:List (List Nat)} (hg:Ok g) : ∃ F K nearF,chk (rankTo g.length (order g) (order g).length) (froms g) F (order g).tail K ((List.replicate g.length (-1)).set 0 0)=some nearF∧Idom g (order g) nearF:=by
 have ho:=order_ok hg;obtain ⟨K,hK⟩:=enough ho;obtain ⟨nearF,h1,h2⟩:=chk_spec ho (fun n p hn=>mem_froms hg n p hn) (F:=2*(order g).length+1) (by omega) hK (K+1) 0 _ (by omega) (start_inv ho hg);exact ⟨_,_,nearF,h1,h2⟩
end Go.Vw.G
