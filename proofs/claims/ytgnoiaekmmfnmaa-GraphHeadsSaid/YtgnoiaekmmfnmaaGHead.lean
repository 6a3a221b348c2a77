import Derived.Test.YtgnoiaekmmfnmaaGLoop
/-
  What is so of each loop: its head dominates its nodes that are reached, and they come from its nodes alone.
-/
set_option linter.unusedVariables false
set_option linter.unusedSimpArgs false
namespace Go.Vw.G
open Go.Vw

theorem mem_picked (inn : List Bool) (n : Nat) : ∀ k, n ∈ picked inn k ↔ n < k ∧ inn.getD n false = true
  | 0 => by simp [picked]
  | k + 1 => by
    have ih := mem_picked inn n k
    simp only [picked]
    split
    · rename_i h
      rw [List.mem_append, ih]
      simp only [List.mem_singleton]
      constructor
      · rintro (⟨h1, h2⟩ | h1)
        · exact ⟨by omega, h2⟩
        · subst h1; exact ⟨by omega, h⟩
      · rintro ⟨h1, h2⟩
        by_cases e : n = k
        · exact .inr e
        · exact .inl ⟨by omega, h2⟩
    · rename_i h
      rw [ih]
      constructor
      · rintro ⟨h1, h2⟩; exact ⟨by omega, h2⟩
      · rintro ⟨h1, h2⟩
        refine ⟨?_, h2⟩
        by_cases e : n = k
        · subst e; exact absurd h2 h
        · omega
theorem loopIn_iff {fr : List (List Nat)} {h : Nat} {ts : List Nat} {N n : Nat} (hn : n < N) : (loopIn fr h ts N).getD n false = true ↔ n = h ∨ Bk fr h ts n := by
  classical
  have e : (loopIn fr h ts N).getD n false = true ↔ (n = h ∨ Bk fr h ts n) := by simp [loopIn, hn]
  exact e

theorem Bk.lt {g : List (List Nat)} (hg : Ok g) {h : Nat} {ts : List Nat} (hts : ∀ t ∈ ts, t < g.length) {n : Nat} (hb : Bk (froms g) h ts n) : n < g.length := by
  induction hb with
  | start hn => exact hts _ hn
  | step hb hne hp ih => exact ((mem_froms hg _ _ ih).1 hp).1

theorem Bk.dom {g : List (List Nat)} (hg : Ok g) {h : Nat} {ts : List Nat} (hts : ∀ t ∈ ts, t < g.length) (htd : ∀ t ∈ ts, Dom g (order g) h t) {n : Nat} (hb : Bk (froms g) h ts n) (hn : n ∈ order g) : Dom g (order g) h n := by
  induction hb with
  | start ht => exact htd _ ht
  | @step n p hb hne hp ih =>
    have hl := Bk.lt hg hts hb
    have hp' := (mem_froms hg n p hl).1 hp
    have ho := order_ok hg
    have hno : n ∈ order g := (ho.mem n).2 (From.step ((ho.mem p).1 hn) hp'.2 (not_met_rep _ _))
    exact (ih hno).pred (Ne.symm hne) hp'.2

/-- What is so of a loop. -/
structure HeadOk (g : List (List Nat)) (x : Nat × List Nat) : Prop where
  lt : x.1 < g.length
  head : x.1 ∈ x.2
  nodes : ∀ n ∈ x.2, n < g.length
  dom : ∀ n ∈ x.2, (without g none).getD n false = true → dominates (rNear g) (x.1 : Int) (n : Int) = true
  pred : ∀ n ∈ x.2, n ≠ x.1 → ∀ p ∈ (froms g).getD n [], p ∈ x.2

theorem heads {g : List (List Nat)} (hg : Ok g) : ∀ k, k ≤ g.length → ∀ x ∈ loopsTo (rNear g) (froms g) g.length k, HeadOk g x
  | 0, _, x, hx => by simp [loopsTo] at hx
  | h + 1, hk, x, hx => by
    have ih := heads hg h (by omega)
    simp only [loopsTo] at hx
    split at hx
    · exact ih x hx
    · rename_i hc
      rcases List.mem_append.1 hx with hx | hx
      · exact ih x hx
      · have hN := rNear_ok hg
        have ho := order_ok hg
        have hh : h ∈ order g := by
          by_cases hh : h ∈ order g
          · exact hh
          · refine absurd (.inl ⟨?_, ?_⟩) hc
            · rcases Nat.eq_zero_or_pos h with e | e
              · subst e; exact absurd (zero_mem ho) hh
              · exact e
            · have := hN.out h (by omega) hh
              have e : (rNear g).getD h 0 = nd (rNear g) h := rfl
              omega
        have hrow : ∀ p ∈ (froms g).getD h [], p < g.length := fun p hp => ((mem_froms hg h p (by omega)).1 hp).1
        have hts : ∀ t ∈ backs (rNear g) h ((froms g).getD h []), t < g.length := fun t ht => hrow t (List.mem_filter.1 ht).1
        have htd : ∀ t ∈ backs (rNear g) h ((froms g).getD h []), Dom g (order g) h t := by
          intro t ht
          have h1 := (List.mem_filter.1 ht).2
          rcases (dominates_iff hg hN (by omega) (hts t ht)).1 h1 with h2 | h2
          · exact h2.2.2
          · subst h2; exact Dom.self _
        rw [List.mem_singleton] at hx
        subst hx
        generalize backs (rNear g) h ((froms g).getD h []) = ts at *
        have hmem : ∀ n, n ∈ picked (loopIn (froms g) h ts g.length) g.length ↔ n < g.length ∧ (n = h ∨ Bk (froms g) h ts n) := by
          intro n
          rw [mem_picked]
          constructor
          · rintro ⟨h1, h2⟩; exact ⟨h1, (loopIn_iff h1).1 h2⟩
          · rintro ⟨h1, h2⟩; exact ⟨h1, (loopIn_iff h1).2 h2⟩
        refine ⟨by show h < g.length; omega, (hmem h).2 ⟨by omega, .inl rfl⟩, fun n hn => ((hmem n).1 hn).1, ?_, ?_⟩
        · intro n hn hm
          obtain ⟨h1, h2⟩ := (hmem n).1 hn
          have hno := (without_none hg n).1 hm
          refine (dominates_iff hg hN (by show h < g.length; omega) h1).2 ?_
          rcases h2 with e | hb
          · exact .inr e.symm
          · exact .inl ⟨hh, hno, Bk.dom hg hts htd hb hno⟩
        · intro n hn hne p hp
          obtain ⟨h1, h2⟩ := (hmem n).1 hn
          rcases h2 with e | hb
          · exact absurd e hne
          · exact (hmem p).2 ⟨((mem_froms hg n p h1).1 hp).1, .inr (.step hb hne hp)⟩
end Go.Vw.G
