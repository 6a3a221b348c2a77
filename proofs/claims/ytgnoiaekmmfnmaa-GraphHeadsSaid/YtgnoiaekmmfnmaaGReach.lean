import Derived.Test.YtgnoiaekmmfnmaaGOrd
/-
  What the walk in depth meets; its order.
-/
set_option linter.unusedVariables false
set_option linter.unusedSimpArgs false
namespace Go.Vw.G
open Go.Vw

abbrev Met (m : List Bool) (n : Nat) : Prop := m.getD n false = true

/-- Reached from n by nodes that are not met. -/
inductive From (g : List (List Nat)) (m : List Bool) (n : Nat) : Nat → Prop
  | start (h : ¬ Met m n) : From g m n n
  | step {a k : Nat} (h : From g m n a) (hk : k ∈ g.getD a []) (hm : ¬ Met m k) : From g m n k

theorem From.not {g : List (List Nat)} {m : List Bool} {n b : Nat} (h : From g m n b) : ¬ Met m b := by
  cases h <;> assumption

theorem From.less {g : List (List Nat)} {m m' : List Bool} {n b : Nat} (hm : ∀ k, Met m k → Met m' k) (h : From g m' n b) : From g m n b := by
  induction h with
  | start h => exact .start fun hk => h (hm _ hk)
  | step _ hk hn ih => exact .step ih hk fun h => hn (hm _ h)

theorem From.cons {g : List (List Nat)} {m : List Bool} {n k b : Nat} (hn : ¬ Met m n) (hk : k ∈ g.getD n []) (h : From g m k b) : From g m n b := by
  induction h with
  | start h => exact .step (.start hn) hk h
  | step _ hk' hm ih => exact .step ih hk' hm

theorem met_set {m : List Bool} {n : Nat} (h : n < m.length) (k : Nat) : Met (m.set n true) k ↔ k = n ∨ Met m k := by
  unfold Met
  by_cases e : n = k
  · subst e; rw [getD_set_self' h]; simp
  · rw [getD_set_other e]
    constructor
    · exact fun h => .inr h
    · rintro (h | h)
      · exact absurd h.symm e
      · exact h

/-- What a walk leaves. -/
structure Left (g : List (List Nat)) (roots : List Nat) (s t : WS) : Prop where
  len : t.1.length = s.1.length
  mono : ∀ k, Met s.1 k → Met t.1 k
  root : ∀ r ∈ roots, Met t.1 r
  kids : ∀ b, Met t.1 b → ¬ Met s.1 b → ∀ k ∈ g.getD b [], Met t.1 k
  way : ∀ b, Met t.1 b → ¬ Met s.1 b → ∃ r ∈ roots, From g s.1 r b
  done : ∃ d, t.2 = s.2 ++ d ∧ d.Nodup ∧ (∀ b, b ∈ d ↔ Met t.1 b ∧ ¬ Met s.1 b)
  /-- Behind each that is done stand, further back, nodes from which it is reached: but for the roots. -/
  behind : ∀ b, Met t.1 b → ¬ Met s.1 b → b ∉ roots → ∃ p d1 d2 d3, t.2 = s.2 ++ (d1 ++ b :: d2 ++ p :: d3) ∧ b ∈ g.getD p []

theorem Left.nil {g : List (List Nat)} (s : WS) : Left g [] s s :=
  ⟨rfl, fun _ h => h, by simp, fun b h1 h2 => absurd h1 h2, fun b h1 h2 => absurd h1 h2, ⟨[], by simp, by simp, fun b => ⟨fun h => by simp at h, fun h => absurd h.1 h.2⟩⟩, fun b h1 h2 => absurd h1 h2⟩

theorem Left.met {g : List (List Nat)} {k : Nat} {l : List Nat} {s t : WS} (hk : Met s.1 k) (h : Left g l s t) : Left g (k :: l) s t := by
  refine ⟨h.len, h.mono, fun r hr => ?_, h.kids, fun b h1 h2 => ?_, h.done, fun b h1 h2 h3 => h.behind b h1 h2 fun hb => h3 (List.mem_cons_of_mem _ hb)⟩
  · rcases List.mem_cons.1 hr with rfl | hr
    · exact h.mono _ hk
    · exact h.root r hr
  · obtain ⟨r, hr, hw⟩ := h.way b h1 h2
    exact ⟨r, List.mem_cons_of_mem _ hr, hw⟩

theorem Left.cons {g : List (List Nat)} {k : Nat} {l : List Nat} {s t u : WS} (h : Left g [k] s t) (h' : Left g l t u) : Left g (k :: l) s u := by
  obtain ⟨d, e1, n1, m1⟩ := h.done
  obtain ⟨d', e2, n2, m2⟩ := h'.done
  refine ⟨h'.len.trans h.len, fun x hx => h'.mono x (h.mono x hx), fun r hr => ?_, fun b h1 h2 => ?_, fun b h1 h2 => ?_, ⟨d ++ d', ?_, ?_, fun b => ?_⟩, fun b h1 h2 h3 => ?_⟩
  · rcases List.mem_cons.1 hr with rfl | hr
    · exact h'.mono _ (h.root _ (by simp))
    · exact h'.root r hr
  · intro c hc
    by_cases hb : Met t.1 b
    · exact h'.mono _ (h.kids b hb h2 c hc)
    · exact h'.kids b h1 hb c hc
  · by_cases hb : Met t.1 b
    · obtain ⟨r, hr, hw⟩ := h.way b hb h2
      simp at hr; subst hr
      exact ⟨r, by simp, hw⟩
    · obtain ⟨r, hr, hw⟩ := h'.way b h1 hb
      exact ⟨r, List.mem_cons_of_mem _ hr, hw.less h.mono⟩
  · rw [e2, e1, List.append_assoc]
  · rw [List.nodup_append]
    refine ⟨n1, n2, fun x hx y hy e => ?_⟩
    subst e
    exact ((m2 x).1 hy).2 ((m1 x).1 hx).1
  · rw [List.mem_append, m1, m2]
    constructor
    · rintro (⟨a, b⟩ | ⟨a, b⟩)
      · exact ⟨h'.mono _ a, b⟩
      · exact ⟨a, fun hs => b (h.mono _ hs)⟩
    · rintro ⟨a, c⟩
      by_cases hb : Met t.1 b
      · exact .inl ⟨hb, c⟩
      · exact .inr ⟨a, hb⟩
  · by_cases hb : Met t.1 b
    · obtain ⟨p, d1, d2, d3, e, hp⟩ := h.behind b hb h2 (by simpa using fun e => h3 (by simp [e]))
      exact ⟨p, d1, d2, d3 ++ d', by rw [e2, e]; simp, hp⟩
    · obtain ⟨p, d1, d2, d3, e, hp⟩ := h'.behind b h1 hb fun hm => h3 (List.mem_cons_of_mem _ hm)
      exact ⟨p, d ++ d1, d2, d3, by rw [e, e1]; simp, hp⟩

theorem Left.walk {g : List (List Nat)} {n : Nat} {s t : WS} (hn : n < s.1.length) (hm : ¬ Met s.1 n) (h : Left g (g.getD n []) (s.1.set n true, s.2) t) : Left g [n] s (t.1, t.2 ++ [n]) := by
  have hset := met_set hn
  have hnt : Met t.1 n := h.mono n ((hset n).2 (.inl rfl))
  obtain ⟨d, e1, n1, m1⟩ := h.done
  have hnd : n ∉ d := fun hd => ((m1 n).1 hd).2 ((hset n).2 (.inl rfl))
  refine ⟨by have := h.len; simpa using this, fun k hk => h.mono k ((hset k).2 (.inr hk)), fun r hr => by simp at hr; subst hr; exact hnt, fun b h1 h2 c hc => ?_, fun b h1 h2 => ⟨n, by simp, ?_⟩, ⟨d ++ [n], by simp [e1], ?_, fun b => ?_⟩, fun b h1 h2 h3 => ?_⟩
  · by_cases e : b = n
    · subst e; exact h.root c hc
    · exact h.kids b h1 (fun hs => by rcases (hset b).1 hs with h | h; exact e h; exact h2 h) c hc
  · by_cases e : b = n
    · subst e; exact .start hm
    · obtain ⟨r, hr, hw⟩ := h.way b h1 (fun hs => by rcases (hset b).1 hs with h | h; exact e h; exact h2 h)
      exact From.cons hm hr (hw.less fun k hk => (hset k).2 (.inr hk))
  · rw [List.nodup_append]
    exact ⟨n1, by simp, fun x hx y hy e => by simp at hy; subst hy; subst e; exact hnd hx⟩
  · rw [List.mem_append, m1, hset]
    simp only [List.mem_singleton, not_or]
    constructor
    · rintro (⟨a, _, c⟩ | rfl)
      · exact ⟨a, c⟩
      · exact ⟨hnt, hm⟩
    · rintro ⟨a, c⟩
      by_cases e : b = n
      · exact .inr e
      · exact .inl ⟨a, e, c⟩
  · have e : b ≠ n := by simpa using h3
    have hb2 : ¬ Met (s.1.set n true) b := fun hs => by rcases (hset b).1 hs with h | h; exact e h; exact h2 h
    by_cases hr : b ∈ g.getD n []
    · have hbd : b ∈ d := (m1 b).2 ⟨h1, hb2⟩
      obtain ⟨d1, d2, rfl⟩ := List.append_of_mem hbd
      exact ⟨n, d1, d2, [], by simp only [e1]; simp, hr⟩
    · obtain ⟨p, d1, d2, d3, e2, hp⟩ := h.behind b h1 hb2 hr
      exact ⟨p, d1, d2, d3 ++ [n], by simp only [e2]; simp, hp⟩

theorem kids_left {g : List (List Nat)} {f : Nat} (ih : ∀ n s t, s.1.length = g.length → n < s.1.length → ¬ Met s.1 n → walk g f n s = some t → Left g [n] s t) : ∀ (l : List Nat) (s t : WS), s.1.length = g.length → (∀ k ∈ l, k < s.1.length) → kids g f l s = some t → Left g l s t
  | [], s, t, _, _, h => by cases h; exact Left.nil s
  | k :: l, s, t, hs, hl, h => by
    rw [kids_cons] at h
    split at h
    · rename_i hm
      exact Left.met hm (kids_left ih l s t hs (fun k hk => hl k (List.mem_cons_of_mem _ hk)) h)
    · rename_i hm
      obtain ⟨u, h1, h2⟩ := Option.bind_eq_some_iff.1 h
      have a := ih k s u hs (hl k List.mem_cons_self) (by simpa using hm) h1
      exact a.cons (kids_left ih l u t (a.len.trans hs) (fun k hk => by rw [a.len]; exact hl k (List.mem_cons_of_mem _ hk)) h2)

theorem walk_left {g : List (List Nat)} (hg : Ok g) : ∀ (f n : Nat) (s t : WS), s.1.length = g.length → n < s.1.length → ¬ Met s.1 n → walk g f n s = some t → Left g [n] s t
  | 0, n, s, t, _, _, _, h => by cases h
  | f + 1, n, s, t, hs, hn, hm, h => by
    rw [walk_succ] at h
    obtain ⟨u, h1, rfl⟩ := Option.map_eq_some_iff.1 h
    refine Left.walk hn hm (kids_left (walk_left hg f) _ _ u (by simpa using hs) (fun k hk => ?_) h1)
    have hng : n < g.length := by omega
    have e : g.getD n [] = g[n] := by simp [hng]
    rw [e] at hk
    have := hg.elt _ (List.getElem_mem hng) k hk
    simp only [List.length_set]
    omega

/-- All that is met from node 0 on. -/
theorem metFrom_iff {g : List (List Nat)} (hg : Ok g) {m : List Bool} (hm : m.length = g.length) (h0 : ¬ Met m 0) (b : Nat) : Met (metFrom g m) b ↔ Met m b ∨ From g m 0 b := by
  obtain ⟨t, h1, h2, h3, h4⟩ := metFrom_ends hg hm (by simpa using h0)
  have hl := walk_left hg _ 0 (m, []) t hm (by have := hg.pos; show 0 < m.length; omega) h0 h1
  rw [h2]
  constructor
  · intro h
    by_cases hb : Met m b
    · exact .inl hb
    · obtain ⟨r, hr, hw⟩ := hl.way b h hb
      simp at hr; subst hr
      exact .inr hw
  · rintro (h | h)
    · exact hl.mono b h
    · induction h with
      | start _ => exact hl.root 0 (by simp)
      | step ha hk _ ih => exact hl.kids _ ih ha.not _ hk

/-- Reached from node 0. -/
abbrev R (g : List (List Nat)) (b : Nat) : Prop := From g (List.replicate g.length false) 0 b

theorem not_met_rep (n k : Nat) : ¬ Met (List.replicate n false) k := by unfold Met; rw [rep_getD]; simp

structure OrderOk (g : List (List Nat)) (l : List Nat) : Prop where
  nd : l.Nodup
  mem : ∀ b, b ∈ l ↔ R g b
  head : ∃ r, l = 0 :: r
  lt : ∀ b ∈ l, b < g.length
  par : ∀ b ∈ l, b ≠ 0 → ∃ p d1 d2 d3, l = d1 ++ p :: d2 ++ b :: d3 ∧ b ∈ g.getD p []

theorem R.lt {g : List (List Nat)} (hg : Ok g) {b : Nat} (h : R g b) : b < g.length := by
  cases h with
  | start _ => exact hg.pos
  | step ha hk _ =>
    rename_i a _
    by_cases hal : a < g.length
    · have e : g.getD a [] = g[a] := by simp [hal]
      rw [e] at hk
      exact hg.elt _ (List.getElem_mem hal) _ hk
    · have e : g.getD a [] = [] := by simp [List.getElem?_eq_none (by omega : g.length ≤ a)]
      rw [e] at hk; simp at hk

theorem order_ok {g : List (List Nat)} (hg : Ok g) : OrderOk g (order g) := by
  obtain ⟨t, h1, h2, h3⟩ := order_ends hg
  have hl := walk_left hg _ 0 (List.replicate g.length false, []) t (by simp) (by have := hg.pos; simp only [List.length_replicate]; omega) (not_met_rep _ _) h1
  have ho : order g = t.2.reverse := by simp [order, h1]
  obtain ⟨d, e1, n1, m1⟩ := hl.done
  simp only [List.nil_append] at e1
  have hmem : ∀ b, b ∈ order g ↔ R g b := by
    intro b
    have := metFrom_iff hg (m := List.replicate g.length false) (by simp) (not_met_rep _ _) b
    have hme : metFrom g (List.replicate g.length false) = t.1 := by simp [metFrom, h1]
    rw [hme] at this
    rw [ho, List.mem_reverse, e1, m1, this]
    constructor
    · rintro ⟨h | h, _⟩
      · exact absurd h (not_met_rep _ _)
      · exact h
    · exact fun h => ⟨.inr h, not_met_rep _ _⟩
  refine ⟨by rw [ho, e1]; exact List.pairwise_reverse.2 (n1.imp fun h => Ne.symm h), hmem, ?_, fun b hb => ((hmem b).1 hb).lt hg, fun b hb hb0 => ?_⟩
  · have hp := hg.pos
    obtain ⟨f, hf⟩ : ∃ f, g.length = f + 1 := ⟨g.length - 1, by omega⟩
    rw [hf, walk_succ] at h1
    obtain ⟨u, _, rfl⟩ := Option.map_eq_some_iff.1 h1
    exact ⟨u.2.reverse, by rw [ho]; simp⟩
  · have hbt : Met t.1 b := by
      have := (hmem b).1 hb
      have hme : metFrom g (List.replicate g.length false) = t.1 := by simp [metFrom, h1]
      rw [← hme]
      exact (metFrom_iff hg (by simp) (not_met_rep _ _) b).2 (.inr this)
    obtain ⟨p, d1, d2, d3, e, hp⟩ := hl.behind b hbt (not_met_rep _ _) (by simpa using hb0)
    simp only [List.nil_append] at e
    exact ⟨p, d3.reverse, d2.reverse, d1.reverse, by rw [ho, e]; simp, hp⟩
end Go.Vw.G
