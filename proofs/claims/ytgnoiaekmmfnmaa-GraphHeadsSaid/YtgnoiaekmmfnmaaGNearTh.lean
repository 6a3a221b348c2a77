import Derived.Test.YtgnoiaekmmfnmaaGChkTh
/-
  The document's nearest dominators are those that the turns find.
-/
set_option linter.unusedVariables false
set_option linter.unusedSimpArgs false
namespace Go.Vw.G
open Go.Vw

section
variable {g : List (List Nat)}

theorem without_none (hg : Ok g) (b : Nat) : Met (without g none) b ↔ b ∈ order g := by
  rw [(order_ok hg).mem]
  have := metFrom_iff hg (m := List.replicate g.length false) (by simp) (not_met_rep _ _) b
  show Met (metFrom g (List.replicate g.length false)) b ↔ _
  rw [this]
  constructor
  · rintro (h | h)
    · exact absurd h (not_met_rep _ _)
    · exact h
  · exact .inr

theorem without_some (hg : Ok g) {a b : Nat} (ha : a < g.length) : Met (without g (some a)) b ↔ b ≠ a ∧ ∃ k, Way g (order g) a k b := by
  simp only [without]
  by_cases h0 : a = 0
  · rw [if_pos h0]
    subst h0
    constructor
    · exact fun h => absurd h (not_met_rep _ _)
    · rintro ⟨_, k, hw⟩
      exact absurd hw (Dom.zero (order_ok hg) k)
  · rw [if_neg h0]
    have hset := met_set (m := List.replicate g.length false) (n := a) (by simpa using ha)
    have hm : ∀ b, Met ((List.replicate g.length false).set a true) b ↔ b = a := by
      intro b; rw [hset]
      constructor
      · rintro (h | h)
        · exact h
        · exact absurd h (not_met_rep _ _)
      · exact .inl
    have hmf := metFrom_iff hg (m := (List.replicate g.length false).set a true) (by simp) (fun h => h0 ((hm 0).1 h).symm) b
    have hlen := metFrom_length hg (m := (List.replicate g.length false).set a true) (by simp) (by rw [getD_set_other h0]; exact rep_getD _ _)
    unfold Met
    by_cases hb : a = b
    · subst hb
      rw [getD_set_self' (by omega)]
      simp
    · rw [getD_set_other hb]
      show Met (metFrom g ((List.replicate g.length false).set a true)) b ↔ _
      rw [hmf, hm]
      constructor
      · rintro (h | h)
        · exact absurd h.symm hb
        · exact ⟨Ne.symm hb, h.way ((hm a).2 rfl)⟩
      · rintro ⟨_, k, hw⟩
        exact .inr (hw.fromM fun x hx => (hm x).1 hx)

theorem tab_iff (hg : Ok g) (a b : Nat) : tabAt (table g) a b = true ↔ a ∈ order g ∧ b ∈ order g ∧ Dom g (order g) a b := by
  have ho := order_ok hg
  by_cases ha : a < g.length
  · have e1 : (table g).getD a [] = tableRow g a := by simp [table, ha]
    simp only [tabAt, e1, tableRow]
    by_cases hr : a ∈ order g
    · have h1 : (without g none).getD a false = true := (without_none hg a).2 hr
      rw [if_pos h1]
      by_cases hb : b < g.length
      · have e2 : ((List.range g.length).map fun b => (without g none).getD b false && !((without g (some a)).getD b false)).getD b false = ((without g none).getD b false && !((without g (some a)).getD b false)) := by
          simp [hb]
        rw [e2, Bool.and_eq_true, Bool.not_eq_true']
        have w1 := without_none hg b
        have w2 := without_some hg (b := b) ha
        unfold Met at w1 w2
        rw [w1]
        constructor
        · rintro ⟨k1, k2⟩
          refine ⟨hr, k1, fun k hw => ?_⟩
          by_cases e : b = a
          · subst e; exact hw.ne rfl
          · have := w2.2 ⟨e, k, hw⟩
            rw [k2] at this; cases this
        · rintro ⟨_, k1, k2⟩
          refine ⟨k1, ?_⟩
          cases hx : (without g (some a)).getD b false with
          | false => rfl
          | true =>
            obtain ⟨_, k, hw⟩ := w2.1 hx
            exact absurd hw (k2 k)
      · constructor
        · intro h
          rw [List.getD_eq_getElem?_getD, List.getElem?_eq_none (by simp; omega)] at h
          simp at h
        · rintro ⟨_, h, _⟩
          exact absurd (ho.lt b h) hb
    · have h1 : ¬ (without g none).getD a false = true := fun h => hr ((without_none hg a).1 h)
      rw [if_neg h1, rep_getD]
      constructor
      · intro h; cases h
      · rintro ⟨h, _⟩; exact absurd h hr
  · constructor
    · intro h
      have e : (table g).getD a [] = [] := by
        rw [List.getD_eq_getElem?_getD, List.getElem?_eq_none (by simp [table]; omega)]; rfl
      rw [tabAt, e] at h
      simp at h
    · rintro ⟨h, _⟩
      exact absurd (ho.lt a h) ha

theorem cntTo_mono {t : List (List Bool)} {a p : Nat} (h : ∀ c, tabAt t c a = true → tabAt t c p = true) : ∀ n, cntTo t a n ≤ cntTo t p n
  | 0 => Nat.le_refl _
  | n + 1 => by
    have := cntTo_mono h n
    simp only [cntTo]
    by_cases h1 : tabAt t n a = true
    · rw [if_pos h1, if_pos (h n h1)]; omega
    · rw [if_neg h1]; split <;> omega
theorem cntTo_lt {t : List (List Bool)} {a p : Nat} (h : ∀ c, tabAt t c a = true → tabAt t c p = true) {x : Nat} (h1 : tabAt t x p = true) (h2 : ¬ tabAt t x a = true) : ∀ n, x < n → cntTo t a n < cntTo t p n
  | 0, hx => by omega
  | n + 1, hx => by
    have hm := cntTo_mono h n
    simp only [cntTo]
    by_cases e : x = n
    · subst e; rw [if_neg h2, if_pos h1]; omega
    · have := cntTo_lt h h1 h2 n (by omega)
      by_cases k1 : tabAt t n a = true
      · rw [if_pos k1, if_pos (h n k1)]; omega
      · rw [if_neg k1]; split <;> omega
theorem cntTo_pos {t : List (List Bool)} {p : Nat} {x : Nat} (h1 : tabAt t x p = true) : ∀ n, x < n → 0 < cntTo t p n
  | 0, hx => by omega
  | n + 1, hx => by
    simp only [cntTo]
    by_cases e : x = n
    · subst e; rw [if_pos h1]; omega
    · have := cntTo_pos h1 n (by omega)
      split <;> omega

/-- None dominates it, but itself. -/
theorem best_none {t : List (List Bool)} {n b : Nat} (h : ∀ a, a ≠ b → ¬ tabAt t a b = true) : ∀ a, bestTo t n b a = (-1, 0)
  | 0 => rfl
  | a + 1 => by
    simp only [bestTo]
    rw [if_neg (fun hh => h a hh.1 hh.2.1)]
    exact best_none h a

theorem best_idom {t : List (List Bool)} {n b p : Nat} (hpb : p ≠ b) (hp : tabAt t p b = true) (hc : ∀ a, a ≠ b → a ≠ p → tabAt t a b = true → cntTo t a n < cntTo t p n) (h0 : 0 < cntTo t p n) :
    ∀ a, (p < a → bestTo t n b a = ((p : Int), cntTo t p n)) ∧ (¬ p < a → (bestTo t n b a).2 < cntTo t p n)
  | 0 => ⟨fun h => by omega, fun _ => h0⟩
  | a + 1 => by
    obtain ⟨h1, h2⟩ := best_idom hpb hp hc h0 a
    simp only [bestTo]
    by_cases e : a = p
    · subst e
      rw [if_pos ⟨hpb, hp, h2 (by omega)⟩]
      exact ⟨fun _ => rfl, fun h => by omega⟩
    · refine ⟨fun h => ?_, fun h => ?_⟩
      · have := h1 (by omega)
        rw [this]
        rw [if_neg (fun hh => by have := hc a hh.1 e hh.2.1; have := hh.2.2; simp only at this; omega)]
      · have k := h2 (by omega)
        split
        · rename_i hh; exact hc a hh.1 e hh.2.1
        · exact k

theorem near_eq (hg : Ok g) {nearF : List Int} (h : Idom g (order g) nearF) : rNear g = nearF.set 0 (-1) := by
  have ho := order_ok hg
  refine List.ext_getElem (by simp [rNear, h.len]) fun b h1 h2 => ?_
  have hb : b < g.length := by simpa [rNear] using h1
  have hbn : b < nearF.length := by rw [h.len]; exact hb
  have e1 : (rNear g)[b] = (bestTo (table g) g.length b g.length).1 := by simp [rNear]
  rw [e1, List.getElem_set]
  have hnd : nearF[b] = nd nearF b := by simp [nd, hbn]
  by_cases hb0 : 0 = b
  · rw [if_pos hb0]
    subst hb0
    rw [best_none (fun a ha ht => ((tab_iff hg a 0).1 ht).2.2 0 (.start 0 (Ne.symm ha)))]
  · rw [if_neg hb0, hnd]
    by_cases hbl : b ∈ order g
    · obtain ⟨p, q1, q2, q3, q4, q5⟩ := h.near b hbl (Ne.symm hb0)
      rw [q1]
      have hpt : tabAt (table g) p b = true := (tab_iff hg p b).2 ⟨q2, hbl, q4⟩
      have hpp : tabAt (table g) p p = true := (tab_iff hg p p).2 ⟨q2, q2, Dom.self p⟩
      have hpn := ho.lt p q2
      have hc : ∀ a, a ≠ b → a ≠ p → tabAt (table g) a b = true → cntTo (table g) a g.length < cntTo (table g) p g.length := by
        intro a hab hap hat
        obtain ⟨a1, _, a3⟩ := (tab_iff hg a b).1 hat
        have hdp := q5 a a3 hab
        refine cntTo_lt (x := p) (fun c hcc => ?_) hpp (fun hx => ?_) _ hpn
        · obtain ⟨c1, _, c3⟩ := (tab_iff hg c a).1 hcc
          exact (tab_iff hg c p).2 ⟨c1, q2, c3.trans hdp⟩
        · exact hap (hdp.anti ho ((tab_iff hg p a).1 hx).2.2 a1 q2)
      rw [(best_idom q3 hpt hc (cntTo_pos hpp _ hpn) g.length).1 hpn]
    · rw [best_none (fun a _ ht => hbl ((tab_iff hg a b).1 ht).2.1)]
      exact (h.out b hb hbl).symm
end
end Go.Vw.G
