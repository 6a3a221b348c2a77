import Derived.Test.YtcpncecdegmliaaC13
import Derived.Test.YtcpncecdegmliaaC12
/-
  Part of the proof (texts GReach, GFrom, GChk, GDomTh).
-/
set_option linter.unusedVariables false
set_option linter.unusedSimpArgs false
/-
 What the walk in depth meets; its order.
-/
namespace Go.Vw.G
open Go.Vw
abbrev Met (m : List Bool) (n : Nat) : Prop := m.getD n false = true
inductive From (g : List (List Nat)) (m : List Bool) (n : Nat) : Nat → Prop
 | start (h : ¬ Met m n) : From g m n n
 | step {a k : Nat} (h : From g m n a) (hk : k ∈ g.getD a []) (hm : ¬ Met m k) : From g m n k
theorem From.not {g : List (List Nat)} {m : List Bool} {n b : Nat} (h : From g m n b) : ¬ Met m b := by
 cases h <;> assumption
theorem From.less {g : List (List Nat)} {m m' : List Bool} {n b : Nat} (hm : ∀ k, Met m k → Met m' k) (h : From g m' n b) : From g m n b := by
 induction h with
 | start h => exact .start fun hk => h (hm _ hk)
 | step _ hk hn ih => exact .step ih hk fun h => hn (hm _ h)
theorem From.cons {g : List (List Nat)} {m : List Bool} {n k b : Nat} (hn : ¬ Met m n) (hk : k ∈ g.getD n []) (h : From g m k b) : From g m n b := by
 induction h with
 | start h => exact .step (.start hn) hk h
 | step _ hk' hm ih => exact .step ih hk' hm
theorem met_set {m : List Bool} {n : Nat} (h : n < m.length) (k : Nat) : Met (m.set n true) k ↔ k = n ∨ Met m k := by
 unfold Met
 by_cases e : n = k
 ·subst e; rw [getD_set_self' h]; simp
 ·rw [getD_set_other e]
  constructor
  ·exact fun h => .inr h
  ·rintro (h | h)
   ·exact absurd h.symm e
   ·exact h
structure Left (g : List (List Nat)) (roots : List Nat) (s t : WS) : Prop where
 len : t.1.length = s.1.length
 mono : ∀ k, Met s.1 k → Met t.1 k
 root : ∀ r ∈ roots, Met t.1 r
 kids : ∀ b, Met t.1 b → ¬ Met s.1 b → ∀ k ∈ g.getD b [], Met t.1 k
 way : ∀ b, Met t.1 b → ¬ Met s.1 b → ∃ r ∈ roots, From g s.1 r b
 done : ∃ d, t.2 = s.2 ++ d ∧ d.Nodup ∧ (∀ b, b ∈ d ↔ Met t.1 b ∧ ¬ Met s.1 b)
 /-- Behind each that is done stand, further back, nodes from which it is reached: but for the roots. -/
 behind : ∀ b, Met t.1 b → ¬ Met s.1 b → b ∉ roots → ∃ p d1 d2 d3, t.2 = s.2 ++ (d1 ++ b :: d2 ++ p :: d3) ∧ b ∈ g.getD p []
theorem Left.nil {g : List (List Nat)} (s : WS) : Left g [] s s :=
 ⟨rfl, fun _ h => h, by simp, fun b h1 h2 => absurd h1 h2, fun b h1 h2 => absurd h1 h2, ⟨[], by simp, by simp, fun b => ⟨fun h => by simp at h, fun h => absurd h.1 h.2⟩⟩, fun b h1 h2 => absurd h1 h2⟩
theorem Left.met {g : List (List Nat)} {k : Nat} {l : List Nat} {s t : WS} (hk : Met s.1 k) (h : Left g l s t) : Left g (k :: l) s t := by
 refine ⟨h.len, h.mono, fun r hr => ?_, h.kids, fun b h1 h2 => ?_, h.done, fun b h1 h2 h3 => h.behind b h1 h2 fun hb => h3 (List.mem_cons_of_mem _ hb)⟩
 ·rcases List.mem_cons.1 hr with rfl | hr
  ·exact h.mono _ hk
  ·exact h.root r hr
 ·obtain ⟨r, hr, hw⟩ := h.way b h1 h2
  exact ⟨r, List.mem_cons_of_mem _ hr, hw⟩
theorem Left.cons {g : List (List Nat)} {k : Nat} {l : List Nat} {s t u : WS} (h : Left g [k] s t) (h' : Left g l t u) : Left g (k :: l) s u := by
 obtain ⟨d, e1, n1, m1⟩ := h.done
 obtain ⟨d', e2, n2, m2⟩ := h'.done
 refine ⟨h'.len.trans h.len, fun x hx => h'.mono x (h.mono x hx), fun r hr => ?_, fun b h1 h2 => ?_, fun b h1 h2 => ?_, ⟨d ++ d', ?_, ?_, fun b => ?_⟩, fun b h1 h2 h3 => ?_⟩
 ·rcases List.mem_cons.1 hr with rfl | hr
  ·exact h'.mono _ (h.root _ (by simp))
  ·exact h'.root r hr
 ·intro c hc
  by_cases hb : Met t.1 b
  ·exact h'.mono _ (h.kids b hb h2 c hc)
  ·exact h'.kids b h1 hb c hc
 ·by_cases hb : Met t.1 b
  ·obtain ⟨r, hr, hw⟩ := h.way b hb h2
   simp at hr; subst hr
   exact ⟨r, by simp, hw⟩
  ·obtain ⟨r, hr, hw⟩ := h'.way b h1 hb
   exact ⟨r, List.mem_cons_of_mem _ hr, hw.less h.mono⟩
 ·rw [e2, e1, List.append_assoc]
 ·rw [List.nodup_append]
  refine ⟨n1, n2, fun x hx y hy e => ?_⟩
  subst e
  exact ((m2 x).1 hy).2 ((m1 x).1 hx).1
 ·rw [List.mem_append, m1, m2]
  constructor
  ·rintro (⟨a, b⟩ | ⟨a, b⟩)
   ·exact ⟨h'.mono _ a, b⟩
   ·exact ⟨a, fun hs => b (h.mono _ hs)⟩
  ·rintro ⟨a, c⟩
   by_cases hb : Met t.1 b
   ·exact .inl ⟨hb, c⟩
   ·exact .inr ⟨a, hb⟩
 ·by_cases hb : Met t.1 b
  ·obtain ⟨p, d1, d2, d3, e, hp⟩ := h.behind b hb h2 (by simpa using fun e => h3 (by simp [e]))
   exact ⟨p, d1, d2, d3 ++ d', by rw [e2, e]; simp, hp⟩
  ·obtain ⟨p, d1, d2, d3, e, hp⟩ := h'.behind b h1 hb fun hm => h3 (List.mem_cons_of_mem _ hm)
   exact ⟨p, d ++ d1, d2, d3, by rw [e, e1]; simp, hp⟩
theorem Left.walk {g : List (List Nat)} {n : Nat} {s t : WS} (hn : n < s.1.length) (hm : ¬ Met s.1 n) (h : Left g (g.getD n []) (s.1.set n true, s.2) t) : Left g [n] s (t.1, t.2 ++ [n]) := by
 have hset := met_set hn
 have hnt : Met t.1 n := h.mono n ((hset n).2 (.inl rfl))
 obtain ⟨d, e1, n1, m1⟩ := h.done
 have hnd : n ∉ d := fun hd => ((m1 n).1 hd).2 ((hset n).2 (.inl rfl))
 refine ⟨by have := h.len; simpa using this, fun k hk => h.mono k ((hset k).2 (.inr hk)), fun r hr => by simp at hr; subst hr; exact hnt, fun b h1 h2 c hc => ?_, fun b h1 h2 => ⟨n, by simp, ?_⟩, ⟨d ++ [n], by simp [e1], ?_, fun b => ?_⟩, fun b h1 h2 h3 => ?_⟩
 ·by_cases e : b = n
  ·subst e; exact h.root c hc
  ·exact h.kids b h1 (fun hs => by rcases (hset b).1 hs with h | h; exact e h; exact h2 h) c hc
 ·by_cases e : b = n
  ·subst e; exact .start hm
  ·obtain ⟨r, hr, hw⟩ := h.way b h1 (fun hs => by rcases (hset b).1 hs with h | h; exact e h; exact h2 h)
   exact From.cons hm hr (hw.less fun k hk => (hset k).2 (.inr hk))
 ·rw [List.nodup_append]
  exact ⟨n1, by simp, fun x hx y hy e => by simp at hy; subst hy; subst e; exact hnd hx⟩
 ·rw [List.mem_append, m1, hset]
  simp only [List.mem_singleton, not_or]
  constructor
  ·rintro (⟨a, _, c⟩ | rfl)
   ·exact ⟨a, c⟩
   ·exact ⟨hnt, hm⟩
  ·rintro ⟨a, c⟩
   by_cases e : b = n
   ·exact .inr e
   ·exact .inl ⟨a, e, c⟩
 ·have e : b ≠ n := by simpa using h3
  have hb2 : ¬ Met (s.1.set n true) b := fun hs => by rcases (hset b).1 hs with h | h; exact e h; exact h2 h
  by_cases hr : b ∈ g.getD n []
  ·have hbd : b ∈ d := (m1 b).2 ⟨h1, hb2⟩
   obtain ⟨d1, d2, rfl⟩ := List.append_of_mem hbd
   exact ⟨n, d1, d2, [], by simp only [e1]; simp, hr⟩
  ·obtain ⟨p, d1, d2, d3, e2, hp⟩ := h.behind b h1 hb2 hr
   exact ⟨p, d1, d2, d3 ++ [n], by simp only [e2]; simp, hp⟩
theorem kids_left {g : List (List Nat)} {f : Nat} (ih : ∀ n s t, s.1.length = g.length → n < s.1.length → ¬ Met s.1 n → walk g f n s = some t → Left g [n] s t) : ∀ (l : List Nat) (s t : WS), s.1.length = g.length → (∀ k ∈ l, k < s.1.length) → kids g f l s = some t → Left g l s t
 | [], s, t, _, _, h => by cases h; exact Left.nil s
 | k :: l, s, t, hs, hl, h => by
  rw [kids_cons] at h
  split at h
  ·rename_i hm
   exact Left.met hm (kids_left ih l s t hs (fun k hk => hl k (List.mem_cons_of_mem _ hk)) h)
  ·rename_i hm
   obtain ⟨u, h1, h2⟩ := Option.bind_eq_some_iff.1 h
   have a := ih k s u hs (hl k List.mem_cons_self) (by simpa using hm) h1
   exact a.cons (kids_left ih l u t (a.len.trans hs) (fun k hk => by rw [a.len]; exact hl k (List.mem_cons_of_mem _ hk)) h2)
theorem walk_left {g : List (List Nat)} (hg : Ok g) : ∀ (f n : Nat) (s t : WS), s.1.length = g.length → n < s.1.length → ¬ Met s.1 n → walk g f n s = some t → Left g [n] s t
 | 0, n, s, t, _, _, _, h => by cases h
 | f + 1, n, s, t, hs, hn, hm, h => by
  rw [walk_succ] at h
  obtain ⟨u, h1, rfl⟩ := Option.map_eq_some_iff.1 h
  refine Left.walk hn hm (kids_left (walk_left hg f) _ _ u (by simpa using hs) (fun k hk => ?_) h1)
  have hng : n < g.length := by omega
  have e : g.getD n [] = g[n] := by simp [hng]
  rw [e] at hk
  have := hg.elt _ (List.getElem_mem hng) k hk
  simp only [List.length_set]
  omega
theorem metFrom_iff {g : List (List Nat)} (hg : Ok g) {m : List Bool} (hm : m.length = g.length) (h0 : ¬ Met m 0) (b : Nat) : Met (metFrom g m) b ↔ Met m b ∨ From g m 0 b := by
 obtain ⟨t, h1, h2, h3, h4⟩ := metFrom_ends hg hm (by simpa using h0)
 have hl := walk_left hg _ 0 (m, []) t hm (by have := hg.pos; show 0 < m.length; omega) h0 h1
 rw [h2]
 constructor
 ·intro h
  by_cases hb : Met m b
  ·exact .inl hb
  ·obtain ⟨r, hr, hw⟩ := hl.way b h hb
   simp at hr; subst hr
   exact .inr hw
 ·rintro (h | h)
  ·exact hl.mono b h
  ·induction h with
   | start _ => exact hl.root 0 (by simp)
   | step ha hk _ ih => exact hl.kids _ ih ha.not _ hk
abbrev R (g : List (List Nat)) (b : Nat) : Prop := From g (List.replicate g.length false) 0 b
theorem not_met_rep (n k : Nat) : ¬ Met (List.replicate n false) k := by unfold Met; rw [rep_getD]; simp
structure OrderOk (g : List (List Nat)) (l : List Nat) : Prop where
 nd : l.Nodup
 mem : ∀ b, b ∈ l ↔ R g b
 head : ∃ r, l = 0 :: r
 lt : ∀ b ∈ l, b < g.length
 par : ∀ b ∈ l, b ≠ 0 → ∃ p d1 d2 d3, l = d1 ++ p :: d2 ++ b :: d3 ∧ b ∈ g.getD p []
theorem R.lt {g : List (List Nat)} (hg : Ok g) {b : Nat} (h : R g b) : b < g.length := by
 cases h with
 | start _ => exact hg.pos
 | step ha hk _ =>
  rename_i a _
  by_cases hal : a < g.length
  ·have e : g.getD a [] = g[a] := by simp [hal]
   rw [e] at hk
   exact hg.elt _ (List.getElem_mem hal) _ hk
  ·have e : g.getD a [] = [] := by simp [List.getElem?_eq_none (by omega : g.length ≤ a)]
   rw [e] at hk; simp at hk
theorem order_ok {g : List (List Nat)} (hg : Ok g) : OrderOk g (order g) := by
 obtain ⟨t, h1, h2, h3⟩ := order_ends hg
 have hl := walk_left hg _ 0 (List.replicate g.length false, []) t (by simp) (by have := hg.pos; simp only [List.length_replicate]; omega) (not_met_rep _ _) h1
 have ho : order g = t.2.reverse := by simp [order, h1]
 obtain ⟨d, e1, n1, m1⟩ := hl.done
 simp only [List.nil_append] at e1
 have hmem : ∀ b, b ∈ order g ↔ R g b := by
  intro b
  have := metFrom_iff hg (m := List.replicate g.length false) (by simp) (not_met_rep _ _) b
  have hme : metFrom g (List.replicate g.length false) = t.1 := by simp [metFrom, h1]
  rw [hme] at this
  rw [ho, List.mem_reverse, e1, m1, this]
  constructor
  ·rintro ⟨h | h, _⟩
   ·exact absurd h (not_met_rep _ _)
   ·exact h
  ·exact fun h => ⟨.inr h, not_met_rep _ _⟩
 refine ⟨by rw [ho, e1]; exact List.pairwise_reverse.2 (n1.imp fun h => Ne.symm h), hmem, ?_, fun b hb => ((hmem b).1 hb).lt hg, fun b hb hb0 => ?_⟩
 ·have hp := hg.pos
  obtain ⟨f, hf⟩ : ∃ f, g.length = f + 1 := ⟨g.length - 1, by omega⟩
  rw [hf, walk_succ] at h1
  obtain ⟨u, _, rfl⟩ := Option.map_eq_some_iff.1 h1
  exact ⟨u.2.reverse, by rw [ho]; simp⟩
 ·have hbt : Met t.1 b := by
   have := (hmem b).1 hb
   have hme : metFrom g (List.replicate g.length false) = t.1 := by simp [metFrom, h1]
   rw [← hme]
   exact (metFrom_iff hg (by simp) (not_met_rep _ _) b).2 (.inr this)
  obtain ⟨p, d1, d2, d3, e, hp⟩ := hl.behind b hbt (not_met_rep _ _) (by simpa using hb0)
  simp only [List.nil_append] at e
  exact ⟨p, d3.reverse, d2.reverse, d1.reverse, by rw [ho, e]; simp, hp⟩
end Go.Vw.G

/-
 What goes to each node.
-/
namespace Go.Vw.G
open Go.Vw
def push (rows : List (List Nat)) (k i : Nat) : List (List Nat) := rows.set k (rows.getD k [] ++ [i])
def edges : List (List Nat) → Nat → List (Nat × Nat)
 | [], _ => []
 | l :: r, i => l.map (·, i) ++ edges r (i + 1)
def pushAll (rows : List (List Nat)) (es : List (Nat × Nat)) : List (List Nat) := es.foldl (fun rows e => push rows e.1 e.2) rows
def froms (g : List (List Nat)) : List (List Nat) := pushAll (List.replicate g.length []) (edges g 0)
theorem push_length (rows : List (List Nat)) (k i : Nat) : (push rows k i).length = rows.length := by simp [push]
theorem pushAll_length : ∀ (es : List (Nat × Nat)) (rows : List (List Nat)), (pushAll rows es).length = rows.length
 | [], _ => rfl
 | e :: es, rows => by
  have := pushAll_length es (push rows e.1 e.2)
  simpa [pushAll, push_length] using this
theorem pushAll_cons (rows : List (List Nat)) (k i : Nat) (es : List (Nat × Nat)) : pushAll rows ((k, i) :: es) = pushAll (push rows k i) es := rfl
theorem froms_length (g : List (List Nat)) : (froms g).length = g.length := by simp [froms, pushAll_length]
theorem edges_drop (g : List (List Nat)) {i : Nat} (h : i < g.length) : edges (g.drop i) i = g[i].map (·, i) ++ edges (g.drop (i + 1)) (i + 1) := by
 rw [List.drop_eq_getElem_cons h, edges]
theorem map_drop {l : List Nat} {k i : Nat} (h : k < l.length) : (l.drop k).map (fun c => (c, i)) = (l[k], i) :: (l.drop (k + 1)).map (fun c => (c, i)) := by
 rw [List.drop_eq_getElem_cons h]; rfl
def total (rows : List (List Nat)) : Nat := (rows.map List.length).sum
theorem total_set : ∀ (rows : List (List Nat)) (k : Nat) (r : List Nat), k < rows.length → total (rows.set k r) + (rows.getD k []).length = total rows + r.length
 | [], _, _, h => by simp at h
 | x :: xs, 0, r, _ => by simp [total]; omega
 | x :: xs, k + 1, r, h => by
  have := total_set xs k r (by simpa using h)
  simp [total] at this ⊢; omega
theorem total_push {rows : List (List Nat)} {k i : Nat} (h : k < rows.length) : total (push rows k i) = total rows + 1 := by
 have := total_set rows k (rows.getD k [] ++ [i]) h
 simp only [push, List.length_append, List.length_cons, List.length_nil] at this ⊢
 omega
theorem row_le_total : ∀ (rows : List (List Nat)) (k : Nat), (rows.getD k []).length ≤ total rows
 | [], _ => by simp
 | x :: xs, 0 => by simp [total]
 | x :: xs, k + 1 => by
  have := row_le_total xs k
  simp [total] at this ⊢; omega
theorem total_rep (n : Nat) : total (List.replicate n []) = 0 := by
 induction n with
 | zero => rfl
 | succ n ih => simp [total, List.replicate_succ]
theorem edges_len {g : List (List Nat)} (h : ∀ l ∈ g, l.length ≤ 128) : ∀ i, (edges g i).length ≤ 128 * g.length := by
 induction g with
 | nil => simp [edges]
 | cons l g ih =>
  intro i
  have h1 := h l List.mem_cons_self
  have h2 := ih (fun l hl => h l (List.mem_cons_of_mem _ hl)) (i + 1)
  simp [edges] at h2 ⊢; omega
end Go.Vw.G

/-
 The nearest dominators, turn by turn.
-/
namespace Go.Vw.G
open Go.Vw
def rankTo (n : Nat) (l : List Nat) : Nat → List Nat
 | 0 => List.replicate n 0
 | k + 1 => (rankTo n l k).set (l.getD k 0) k
theorem rankTo_len (n : Nat) (l : List Nat) : ∀ k, (rankTo n l k).length = n
 | 0 => by simp [rankTo]
 | k + 1 => by simp [rankTo, rankTo_len n l k]
def meetF (rank : List Nat) (near : List Int) : Nat → Int → Int → Option Int
 | 0, _, _ => none
 | f + 1, a, b => if a = b then some a else if 0 ≤ a ∧ a < near.length ∧ 0 ≤ b ∧ b < near.length then
   (if rank.getD b.toNat 0 < rank.getD a.toNat 0 then meetF rank near f (near.getD a.toNat 0) b else meetF rank near f a (near.getD b.toNat 0))
  else none
def pickF (rank : List Nat) (near : List Int) (F : Nat) : List Nat → Int → Option Int
 | [], best => some best
 | p :: ps, best => if near.getD p 0 < 0 then pickF rank near F ps best else if best < 0 then pickF rank near F ps p else (meetF rank near F best p).bind (pickF rank near F ps)
def sweepF (rank : List Nat) (fr : List (List Nat)) (F : Nat) : List Nat → List Int → Bool → Option (List Int × Bool)
 | [], near, t => some (near, t)
 | n :: ns, near, t => (pickF rank near F (fr.getD n []) (-1)).bind fun b => sweepF rank fr F ns (near.set n b) (t || decide (near.getD n 0 ≠ b))
def chk (rank : List Nat) (fr : List (List Nat)) (F : Nat) (l : List Nat) : Nat → List Int → Option (List Int)
 | 0, _ => none
 | f + 1, near => (sweepF rank fr F l near false).bind fun s => if s.2 then chk rank fr F l f s.1 else some s.1
end Go.Vw.G

/-
 Dominators: what the nearest ones are, and that both ways find them.
-/
namespace Go.Vw.G
open Go.Vw
/-! ### Where nodes stand in the order -/
theorem rankTo_get {n : Nat} {l : List Nat} (hn : l.Nodup) (hl : ∀ x ∈ l, x < n) : ∀ (k i : Nat), k ≤ l.length → (hi : i < l.length) → i < k → (rankTo n l k).getD l[i] 0 = i
 | 0, i, _, _, h => by omega
 | k + 1, i, hk, hi, h => by
  have hkl : k < l.length := by omega
  have e : l.getD k 0 = l[k] := by simp [hkl]
  simp only [rankTo, e]
  by_cases hik : k = i
  ·subst hik
   rw [getD_set_self' (by rw [rankTo_len]; exact hl _ (List.getElem_mem hi))]
  ·have hne : l[k] ≠ l[i] := fun h => hik ((List.getElem_inj hn).1 h)
   rw [getD_set_other hne]
   exact rankTo_get hn hl k i (by omega) hi (by omega)
section
variable {g : List (List Nat)} {l : List Nat}
def rk (g : List (List Nat)) (l : List Nat) (x : Nat) : Nat := (rankTo g.length l l.length).getD x 0
theorem rk_at (h : OrderOk g l) {i : Nat} (hi : i < l.length) : rk g l l[i] = i := rankTo_get h.nd h.lt _ i (Nat.le_refl _) hi hi
theorem rk_inj (h : OrderOk g l) {a b : Nat} (ha : a ∈ l) (hb : b ∈ l) (e : rk g l a = rk g l b) : a = b := by
 obtain ⟨i, hi, rfl⟩ := List.getElem_of_mem ha
 obtain ⟨j, hj, rfl⟩ := List.getElem_of_mem hb
 rw [rk_at h hi, rk_at h hj] at e
 subst e; rfl
theorem rk_zero (h : OrderOk g l) : rk g l 0 = 0 := by
 obtain ⟨r, rfl⟩ := h.head
 have := rk_at h (i := 0) (by simp)
 simpa using this
theorem zero_mem (h : OrderOk g l) : 0 ∈ l := by obtain ⟨r, rfl⟩ := h.head; simp
theorem rk_pos (h : OrderOk g l) {a : Nat} (ha : a ∈ l) (h0 : a ≠ 0) : 0 < rk g l a := by
 rcases Nat.eq_zero_or_pos (rk g l a) with e | e
 ·exact absurd (rk_inj h ha (zero_mem h) (e.trans (rk_zero h).symm)) h0
 ·exact e
theorem rk_lt (h : OrderOk g l) {a : Nat} (ha : a ∈ l) : rk g l a < l.length := by
 obtain ⟨i, hi, rfl⟩ := List.getElem_of_mem ha
 rw [rk_at h hi]; exact hi
theorem par_rk (h : OrderOk g l) {b : Nat} (hb : b ∈ l) (h0 : b ≠ 0) : ∃ p, p ∈ l ∧ rk g l p < rk g l b ∧ b ∈ g.getD p [] := by
 obtain ⟨p, d1, d2, d3, e, hp⟩ := h.par b hb h0
 have hp1 : d1.length < l.length := by rw [e]; simp
 have hb1 : d1.length + 1 + d2.length < l.length := by rw [e]; simp; omega
 have ep : l[d1.length] = p := by simp [e]
 have eb : l[d1.length + 1 + d2.length] = b := by
  simp only [e]
  rw [List.getElem_append_right (by simp; omega)]
  simp [show d1.length + 1 + d2.length - (d1.length + (d2.length + 1)) = 0 by omega]
 refine ⟨p, by rw [e]; simp, ?_, hp⟩
 have a1 := rk_at h hp1
 have a2 := rk_at h hb1
 rw [ep] at a1; rw [eb] at a2
 omega
/-! ### Ways that avoid a node, with so many steps back at most -/
inductive Way (g : List (List Nat)) (l : List Nat) (y : Nat) : Nat → Nat → Prop
 | start (k : Nat) (h : 0 ≠ y) : Way g l y k 0
 | on {k a n : Nat} (h : Way g l y k a) (hn : n ∈ g.getD a []) (hr : rk g l a < rk g l n) (hy : n ≠ y) : Way g l y k n
 | back {k a n : Nat} (h : Way g l y k a) (hn : n ∈ g.getD a []) (hy : n ≠ y) : Way g l y (k + 1) n
theorem Way.ne {y k n : Nat} (h : Way g l y k n) : n ≠ y := by cases h <;> assumption
theorem Way.more {y k n : Nat} (h : Way g l y k n) : Way g l y (k + 1) n := by
 induction h with
 | start k h => exact .start _ h
 | on _ hn hr hy ih => exact .on ih hn hr hy
 | back _ hn hy ih => exact .back ih hn hy
theorem Way.le {y k k' n : Nat} (h : Way g l y k n) (hk : k ≤ k') : Way g l y k' n := by
 induction hk with
 | refl => exact h
 | step _ ih => exact ih.more
theorem Way.other {y z k n : Nat} (h : Way g l y k n) : Way g l z k n ∨ (∃ k', k' ≤ k ∧ Way g l y k' z) := by
 induction h with
 | start k h =>
  by_cases e : 0 = z
  ·subst e; exact .inr ⟨k, Nat.le_refl _, .start _ h⟩
  ·exact .inl (.start _ e)
 | @on k a n ha hn hr hy ih =>
  by_cases e : n = z
  ·subst e; exact .inr ⟨k, Nat.le_refl _, .on ha hn hr hy⟩
  ·rcases ih with h | h
   ·exact .inl (.on h hn hr e)
   ·exact .inr h
 | @back k a n ha hn hy ih =>
  by_cases e : n = z
  ·subst e; exact .inr ⟨k + 1, Nat.le_refl _, .back ha hn hy⟩
  ·rcases ih with h | ⟨k', h1, h2⟩
   ·exact .inl (.back h hn e)
   ·exact .inr ⟨k', by omega, h2⟩
def DomK (g : List (List Nat)) (l : List Nat) (k y n : Nat) : Prop := ¬ Way g l y k n
def Dom (g : List (List Nat)) (l : List Nat) (y n : Nat) : Prop := ∀ k, ¬ Way g l y k n
theorem DomK.less {k k' y n : Nat} (h : DomK g l k y n) (hk : k' ≤ k) : DomK g l k' y n := fun hw => h (hw.le hk)
theorem DomK.trans {k y z n : Nat} (h : DomK g l k y z) (h' : DomK g l k z n) : DomK g l k y n := by
 intro hw
 rcases hw.other (z := z) with h1 | ⟨k', h1, h2⟩
 ·exact h' h1
 ·exact h (h2.le h1)
theorem DomK.self (k n : Nat) : DomK g l k n n := fun hw => hw.ne rfl
theorem Dom.trans {y z n : Nat} (h : Dom g l y z) (h' : Dom g l z n) : Dom g l y n := fun k => DomK.trans (h k) (h' k)
theorem Dom.self (n : Nat) : Dom g l n n := fun k => DomK.self k n
theorem Way.reached {y k n : Nat} (h : Way g l y k n) : R g n := by
 induction h with
 | start k h => exact .start (not_met_rep _ _)
 | on _ hn _ _ ih => exact .step ih hn (not_met_rep _ _)
 | back _ hn _ ih => exact .step ih hn (not_met_rep _ _)
theorem From.way {y n : Nat} {m : List Bool} (hm : Met m y) (h : From g m 0 n) : ∃ k, Way g l y k n := by
 induction h with
 | start h => exact ⟨0, .start 0 fun e => h (e ▸ hm)⟩
 | step _ hk hn ih =>
  obtain ⟨k, ih⟩ := ih
  exact ⟨k + 1, .back ih hk fun e => hn (e ▸ hm)⟩
theorem Way.fromM {y k n : Nat} {m : List Bool} (hm : ∀ b, Met m b → b = y) (h : Way g l y k n) : From g m 0 n := by
 induction h with
 | start k h => exact .start fun h' => h (hm _ h')
 | on _ hn _ hy ih => exact .step ih hn fun h' => hy (hm _ h')
 | back _ hn hy ih => exact .step ih hn fun h' => hy (hm _ h')
theorem straight (h : OrderOk g l) {y : Nat} : ∀ (r n : Nat), rk g l n = r → n ∈ l → (∀ x ∈ l, rk g l x ≤ r → x ≠ y) → Way g l y 0 n := by
 intro r
 induction r using Nat.strongRecOn with
 | _ r ih =>
  intro n hr hn hy
  by_cases h0 : n = 0
  ·subst h0; exact .start _ (hy 0 hn (by omega))
  ·obtain ⟨p, hp, hlt, hk⟩ := par_rk h hn h0
   exact .on (ih _ (by omega) p rfl hp fun x hx hle => hy x hx (by omega)) hk (by omega) (hy n hn (by omega))
theorem Dom.rk (h : OrderOk g l) {y n : Nat} (hd : Dom g l y n) (hy : y ∈ l) (hn : n ∈ l) (hne : y ≠ n) : rk g l y < rk g l n := by
 rcases Nat.lt_or_ge (G.rk g l y) (G.rk g l n) with h1 | h1
 ·exact h1
 ·exfalso
  refine hd 0 (straight h _ n rfl hn fun x hx hle e => ?_)
  subst e
  have : G.rk g l x = G.rk g l n := by omega
  exact hne (rk_inj h hx hn this)
theorem Dom.anti (h : OrderOk g l) {y n : Nat} (hd : Dom g l y n) (hd' : Dom g l n y) (hy : y ∈ l) (hn : n ∈ l) : y = n := by
 by_cases e : y = n
 ·exact e
 ·have := hd.rk h hy hn e
  have := hd'.rk h hn hy (Ne.symm e)
  omega
theorem Dom.zero (h : OrderOk g l) {n : Nat} : Dom g l 0 n := by
 intro k hw
 induction hw with
 | start k h => exact h rfl
 | on _ _ _ _ ih => exact ih
 | back _ _ _ ih => exact ih
theorem Dom.pred {d n p : Nat} (hd : Dom g l d n) (hne : d ≠ n) (hp : n ∈ g.getD p []) : Dom g l d p := fun k hw => hd (k + 1) (.back hw hp (Ne.symm hne))
theorem Dom.mem (h : OrderOk g l) {y n : Nat} (hd : Dom g l y n) (hn : n ∈ l) : y ∈ l := by
 by_cases hy : y ∈ l
 ·exact hy
 ·exact absurd (straight h _ n rfl hn fun x hx _ e => hy (by rw [← e]; exact hx)) (hd 0)
end
end Go.Vw.G
