import Derived.Test.YtgnoiaekmmfnmaaGNearTh
/-
  What the nearest ones tell.
-/
set_option linter.unusedVariables false
set_option linter.unusedSimpArgs false
namespace Go.Vw.G
open Go.Vw

/-- The nearest dominators. -/
structure NearOk (g : List (List Nat)) (near : List Int) : Prop where
  len : near.length = g.length
  zero : nd near 0 = -1
  out : ∀ x, x < g.length → x ∉ order g → nd near x = -1
  near : ∀ x ∈ order g, x ≠ 0 → ∃ p : Nat, nd near x = p ∧ p ∈ order g ∧ p ≠ x ∧ Dom g (order g) p x ∧ ∀ d, Dom g (order g) d x → d ≠ x → Dom g (order g) d p

section
variable {g : List (List Nat)}

theorem rNear_ok (hg : Ok g) : NearOk g (rNear g) := by
  obtain ⟨F, K, nearF, h1, h2⟩ := chk_ends hg
  rw [near_eq hg h2]
  have h0 : 0 < nearF.length := by rw [h2.len]; exact hg.pos
  have hset := nd_set h0 (-1)
  refine ⟨by simpa using h2.len, by rw [hset, if_pos rfl], fun x hx hxl => ?_, fun x hx hx0 => ?_⟩
  · rw [hset]; split
    · rfl
    · exact h2.out x hx hxl
  · rw [hset, if_neg hx0]; exact h2.near x hx hx0

theorem dom1_out {near : List Int} {a x : Nat} (hx : x < near.length) (h : nd near x = -1) : ∀ n, dom1 near a (n + 1) x = decide (a = x) := by
  intro n
  have hok : okIx near (x : Int) := ⟨by omega, by omega⟩
  rw [dom1, if_pos hok]
  by_cases e : a = x
  · subst e; simp
  · have e' : ¬ (a : Int) = (x : Int) := by omega
    rw [if_neg e']
    have : near.getD x 0 = -1 := h
    simp only [Int.toNat_natCast, this]
    have hno : ¬ okIx near (-1) := fun h => by have := h.1; omega
    cases n with
    | zero => simp [dom1, e]
    | succ n => rw [dom1, if_neg hno]; simp [e]

theorem dom1_iff (hg : Ok g) {near : List Int} (hN : NearOk g near) (a : Nat) : ∀ (n b : Nat), b ∈ order g → rk g (order g) b < n → (dom1 near a n b = true ↔ Dom g (order g) a b)
  | 0, b, _, h => by omega
  | n + 1, b, hb, h => by
    have ho := order_ok hg
    have hbl := ho.lt b hb
    by_cases hb0 : b = 0
    · subst hb0
      rw [dom1_out (by rw [hN.len]; exact hbl) hN.zero]
      simp only [decide_eq_true_eq]
      constructor
      · intro e; subst e; exact Dom.self 0
      · intro hd
        by_cases e : a = 0
        · exact e
        · exact absurd (Way.start 0 (Ne.symm e)) (hd 0)
    · obtain ⟨p, q1, q2, q3, q4, q5⟩ := hN.near b hb hb0
      have hok : okIx near (b : Int) := ⟨by omega, by rw [hN.len]; omega⟩
      rw [dom1, if_pos hok]
      by_cases e : a = b
      · subst e
        simp only [if_true, true_iff]
        exact Dom.self a
      · have e' : ¬ (a : Int) = (b : Int) := by omega
        have hnd : near.getD b 0 = (p : Int) := q1
        rw [if_neg e']
        simp only [Int.toNat_natCast, hnd]
        have hr := q4.rk ho q2 hb q3
        rw [dom1_iff hg hN a n p q2 (by omega)]
        exact ⟨fun hd => hd.trans q4, fun hd => q5 a hd e⟩

theorem dominates_iff (hg : Ok g) {near : List Int} (hN : NearOk g near) {a b : Nat} (ha : a < g.length) (hb : b < g.length) : dominates near a b = true ↔ (a ∈ order g ∧ b ∈ order g ∧ Dom g (order g) a b) ∨ a = b := by
  have ho := order_ok hg
  have hoka : okIx near (a : Int) := ⟨by omega, by rw [hN.len]; omega⟩
  rw [dominates, if_pos hoka]
  have hm := hg.max
  by_cases hbl : b ∈ order g
  · have hr : rk g (order g) b < 257 := by
      have h1 := rk_lt ho hbl
      obtain ⟨t, k1, k2, k3⟩ := order_ends hg
      have : (order g).length ≤ g.length := by simp [order, k1]; exact k2
      omega
    rw [dom1_iff hg hN a 257 b hbl hr]
    constructor
    · exact fun h => .inl ⟨h.mem ho hbl, hbl, h⟩
    · rintro (h | h)
      · exact h.2.2
      · subst h; exact Dom.self a
  · rw [dom1_out (n := 256) (by rw [hN.len]; exact hb) (hN.out b hb hbl)]
    simp only [decide_eq_true_eq]
    constructor
    · exact .inr
    · rintro (h | h)
      · exact absurd h.2.1 hbl
      · exact h

/-- A node dominates another one just if without it that is not reached. -/
theorem ways (hg : Ok g) {near : List Int} (hN : NearOk g near) {a b : Nat} (ha : a < g.length) (hb : b < g.length) :
    dominates near a b = (((without g none).getD a false && (without g none).getD b false && !((without g (some a)).getD b false)) || decide (a = b)) := by
  have h1 := dominates_iff hg hN ha hb
  have w1 := without_none hg a
  have w2 := without_none hg b
  have w3 := without_some hg (b := b) ha
  unfold Met at w1 w2 w3
  rw [Bool.eq_iff_iff, h1]
  simp only [Bool.or_eq_true, Bool.and_eq_true, Bool.not_eq_true', decide_eq_true_eq, w1, w2]
  constructor
  · rintro (⟨k1, k2, k3⟩ | h)
    · refine .inl ⟨⟨k1, k2⟩, ?_⟩
      cases hx : (without g (some a)).getD b false with
      | false => rfl
      | true => obtain ⟨_, k, hw⟩ := w3.1 hx; exact absurd hw (k3 k)
    · exact .inr h
  · rintro (⟨⟨k1, k2⟩, k3⟩ | h)
    · by_cases e : b = a
      · exact .inr e.symm
      · refine .inl ⟨k1, k2, fun k hw => ?_⟩
        have := w3.2 ⟨e, k, hw⟩
        rw [k3] at this; cases this
    · exact .inr h

/-- Where each node stands, and one more; 0: nowhere. -/
def atTo (n : Nat) (l : List Nat) : Nat → List Nat
  | 0 => List.replicate n 0
  | k + 1 => (atTo n l k).set (l.getD k 0) (k + 1)
theorem atTo_len (n : Nat) (l : List Nat) : ∀ k, (atTo n l k).length = n
  | 0 => by simp [atTo]
  | k + 1 => by simp [atTo, atTo_len n l k]
theorem atTo_in {n : Nat} {l : List Nat} (hn : l.Nodup) (hl : ∀ x ∈ l, x < n) : ∀ (k i : Nat), k ≤ l.length → (hi : i < l.length) → i < k → (atTo n l k).getD l[i] 0 = i + 1
  | 0, i, _, _, h => by omega
  | k + 1, i, hk, hi, h => by
    have hkl : k < l.length := by omega
    have e : l.getD k 0 = l[k] := by simp [hkl]
    simp only [atTo, e]
    by_cases hik : k = i
    · subst hik
      rw [getD_set_self' (by rw [atTo_len]; exact hl _ (List.getElem_mem hi))]
    · have hne : l[k] ≠ l[i] := fun h => hik ((List.getElem_inj hn).1 h)
      rw [getD_set_other hne]
      exact atTo_in hn hl k i (by omega) hi (by omega)
theorem atTo_out {n : Nat} {l : List Nat} : ∀ (k x : Nat), k ≤ l.length → (∀ i, i < k → l.getD i 0 ≠ x) → (atTo n l k).getD x 0 = 0
  | 0, x, _, _ => by simp [atTo, List.getElem?_replicate]; split <;> rfl
  | k + 1, x, hk, h => by
    simp only [atTo]
    rw [getD_set_other (h k (by omega))]
    exact atTo_out k x (by omega) fun i hi => h i (by omega)

theorem at_rk (hg : Ok g) {x : Nat} (hx : x ∈ order g) : (atTo g.length (order g) (order g).length).getD x 0 = rk g (order g) x + 1 := by
  have ho := order_ok hg
  obtain ⟨i, hi, rfl⟩ := List.getElem_of_mem hx
  rw [atTo_in ho.nd ho.lt _ i (Nat.le_refl _) hi hi, rk_at ho hi]
theorem at_none (hg : Ok g) {x : Nat} (hx : x ∉ order g) : (atTo g.length (order g) (order g).length).getD x 0 = 0 := by
  refine atTo_out _ x (Nat.le_refl _) fun i hi e => hx ?_
  have : (order g).getD i 0 = (order g)[i] := by simp [hi]
  rw [← e, this]; exact List.getElem_mem hi
end
end Go.Vw.G
