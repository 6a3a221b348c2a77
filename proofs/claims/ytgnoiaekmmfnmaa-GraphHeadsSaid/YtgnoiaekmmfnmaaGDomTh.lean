import Derived.Test.YtgnoiaekmmfnmaaGReach
import Derived.Test.YtgnoiaekmmfnmaaGChk
/-
  Dominators: what the nearest ones are, and that both ways find them.
-/
set_option linter.unusedVariables false
set_option linter.unusedSimpArgs false
namespace Go.Vw.G
open Go.Vw

/-! ### Where nodes stand in the order -/
theorem rankTo_get {n : Nat} {l : List Nat} (hn : l.Nodup) (hl : ∀ x ∈ l, x < n) : ∀ (k i : Nat), k ≤ l.length → (hi : i < l.length) → i < k → (rankTo n l k).getD l[i] 0 = i
  | 0, i, _, _, h => by omega
  | k + 1, i, hk, hi, h => by
    have hkl : k < l.length := by omega
    have e : l.getD k 0 = l[k] := by simp [hkl]
    simp only [rankTo, e]
    by_cases hik : k = i
    · subst hik
      rw [getD_set_self' (by rw [rankTo_len]; exact hl _ (List.getElem_mem hi))]
    · have hne : l[k] ≠ l[i] := fun h => hik ((List.getElem_inj hn).1 h)
      rw [getD_set_other hne]
      exact rankTo_get hn hl k i (by omega) hi (by omega)

section
variable {g : List (List Nat)} {l : List Nat}

/-- A node's place in the order. -/
def rk (g : List (List Nat)) (l : List Nat) (x : Nat) : Nat := (rankTo g.length l l.length).getD x 0

theorem rk_at (h : OrderOk g l) {i : Nat} (hi : i < l.length) : rk g l l[i] = i := rankTo_get h.nd h.lt _ i (Nat.le_refl _) hi hi
theorem rk_inj (h : OrderOk g l) {a b : Nat} (ha : a ∈ l) (hb : b ∈ l) (e : rk g l a = rk g l b) : a = b := by
  obtain ⟨i, hi, rfl⟩ := List.getElem_of_mem ha
  obtain ⟨j, hj, rfl⟩ := List.getElem_of_mem hb
  rw [rk_at h hi, rk_at h hj] at e
  subst e; rfl
theorem rk_zero (h : OrderOk g l) : rk g l 0 = 0 := by
  obtain ⟨r, rfl⟩ := h.head
  have := rk_at h (i := 0) (by simp)
  simpa using this
theorem zero_mem (h : OrderOk g l) : 0 ∈ l := by obtain ⟨r, rfl⟩ := h.head; simp
theorem rk_pos (h : OrderOk g l) {a : Nat} (ha : a ∈ l) (h0 : a ≠ 0) : 0 < rk g l a := by
  rcases Nat.eq_zero_or_pos (rk g l a) with e | e
  · exact absurd (rk_inj h ha (zero_mem h) (e.trans (rk_zero h).symm)) h0
  · exact e
theorem rk_lt (h : OrderOk g l) {a : Nat} (ha : a ∈ l) : rk g l a < l.length := by
  obtain ⟨i, hi, rfl⟩ := List.getElem_of_mem ha
  rw [rk_at h hi]; exact hi
theorem par_rk (h : OrderOk g l) {b : Nat} (hb : b ∈ l) (h0 : b ≠ 0) : ∃ p, p ∈ l ∧ rk g l p < rk g l b ∧ b ∈ g.getD p [] := by
  obtain ⟨p, d1, d2, d3, e, hp⟩ := h.par b hb h0
  have hp1 : d1.length < l.length := by rw [e]; simp
  have hb1 : d1.length + 1 + d2.length < l.length := by rw [e]; simp; omega
  have ep : l[d1.length] = p := by simp [e]
  have eb : l[d1.length + 1 + d2.length] = b := by
    simp only [e]
    rw [List.getElem_append_right (by simp; omega)]
    simp [show d1.length + 1 + d2.length - (d1.length + (d2.length + 1)) = 0 by omega]
  refine ⟨p, by rw [e]; simp, ?_, hp⟩
  have a1 := rk_at h hp1
  have a2 := rk_at h hb1
  rw [ep] at a1; rw [eb] at a2
  omega

/-! ### Ways that avoid a node, with so many steps back at most -/
inductive Way (g : List (List Nat)) (l : List Nat) (y : Nat) : Nat → Nat → Prop
  | start (k : Nat) (h : 0 ≠ y) : Way g l y k 0
  | on {k a n : Nat} (h : Way g l y k a) (hn : n ∈ g.getD a []) (hr : rk g l a < rk g l n) (hy : n ≠ y) : Way g l y k n
  | back {k a n : Nat} (h : Way g l y k a) (hn : n ∈ g.getD a []) (hy : n ≠ y) : Way g l y (k + 1) n

theorem Way.ne {y k n : Nat} (h : Way g l y k n) : n ≠ y := by cases h <;> assumption
theorem Way.more {y k n : Nat} (h : Way g l y k n) : Way g l y (k + 1) n := by
  induction h with
  | start k h => exact .start _ h
  | on _ hn hr hy ih => exact .on ih hn hr hy
  | back _ hn hy ih => exact .back ih hn hy
theorem Way.le {y k k' n : Nat} (h : Way g l y k n) (hk : k ≤ k') : Way g l y k' n := by
  induction hk with
  | refl => exact h
  | step _ ih => exact ih.more
theorem Way.other {y z k n : Nat} (h : Way g l y k n) : Way g l z k n ∨ (∃ k', k' ≤ k ∧ Way g l y k' z) := by
  induction h with
  | start k h =>
    by_cases e : 0 = z
    · subst e; exact .inr ⟨k, Nat.le_refl _, .start _ h⟩
    · exact .inl (.start _ e)
  | @on k a n ha hn hr hy ih =>
    by_cases e : n = z
    · subst e; exact .inr ⟨k, Nat.le_refl _, .on ha hn hr hy⟩
    · rcases ih with h | h
      · exact .inl (.on h hn hr e)
      · exact .inr h
  | @back k a n ha hn hy ih =>
    by_cases e : n = z
    · subst e; exact .inr ⟨k + 1, Nat.le_refl _, .back ha hn hy⟩
    · rcases ih with h | ⟨k', h1, h2⟩
      · exact .inl (.back h hn e)
      · exact .inr ⟨k', by omega, h2⟩

/-- y lies on all ways to n with so many steps back. -/
def DomK (g : List (List Nat)) (l : List Nat) (k y n : Nat) : Prop := ¬ Way g l y k n
/-- y dominates n. -/
def Dom (g : List (List Nat)) (l : List Nat) (y n : Nat) : Prop := ∀ k, ¬ Way g l y k n

theorem DomK.less {k k' y n : Nat} (h : DomK g l k y n) (hk : k' ≤ k) : DomK g l k' y n := fun hw => h (hw.le hk)
theorem DomK.trans {k y z n : Nat} (h : DomK g l k y z) (h' : DomK g l k z n) : DomK g l k y n := by
  intro hw
  rcases hw.other (z := z) with h1 | ⟨k', h1, h2⟩
  · exact h' h1
  · exact h (h2.le h1)
theorem DomK.self (k n : Nat) : DomK g l k n n := fun hw => hw.ne rfl
theorem Dom.trans {y z n : Nat} (h : Dom g l y z) (h' : Dom g l z n) : Dom g l y n := fun k => DomK.trans (h k) (h' k)
theorem Dom.self (n : Nat) : Dom g l n n := fun k => DomK.self k n

theorem Way.reached {y k n : Nat} (h : Way g l y k n) : R g n := by
  induction h with
  | start k h => exact .start (not_met_rep _ _)
  | on _ hn _ _ ih => exact .step ih hn (not_met_rep _ _)
  | back _ hn _ ih => exact .step ih hn (not_met_rep _ _)
theorem From.way {y n : Nat} {m : List Bool} (hm : Met m y) (h : From g m 0 n) : ∃ k, Way g l y k n := by
  induction h with
  | start h => exact ⟨0, .start 0 fun e => h (e ▸ hm)⟩
  | step _ hk hn ih =>
    obtain ⟨k, ih⟩ := ih
    exact ⟨k + 1, .back ih hk fun e => hn (e ▸ hm)⟩
theorem Way.fromM {y k n : Nat} {m : List Bool} (hm : ∀ b, Met m b → b = y) (h : Way g l y k n) : From g m 0 n := by
  induction h with
  | start k h => exact .start fun h' => h (hm _ h')
  | on _ hn _ hy ih => exact .step ih hn fun h' => hy (hm _ h')
  | back _ hn hy ih => exact .step ih hn fun h' => hy (hm _ h')

/-- A way that only goes on, to each that is reached. -/
theorem straight (h : OrderOk g l) {y : Nat} : ∀ (r n : Nat), rk g l n = r → n ∈ l → (∀ x ∈ l, rk g l x ≤ r → x ≠ y) → Way g l y 0 n := by
  intro r
  induction r using Nat.strongRecOn with
  | _ r ih =>
    intro n hr hn hy
    by_cases h0 : n = 0
    · subst h0; exact .start _ (hy 0 hn (by omega))
    · obtain ⟨p, hp, hlt, hk⟩ := par_rk h hn h0
      exact .on (ih _ (by omega) p rfl hp fun x hx hle => hy x hx (by omega)) hk (by omega) (hy n hn (by omega))

/-- What dominates another node stands ahead of it. -/
theorem Dom.rk (h : OrderOk g l) {y n : Nat} (hd : Dom g l y n) (hy : y ∈ l) (hn : n ∈ l) (hne : y ≠ n) : rk g l y < rk g l n := by
  rcases Nat.lt_or_ge (G.rk g l y) (G.rk g l n) with h1 | h1
  · exact h1
  · exfalso
    refine hd 0 (straight h _ n rfl hn fun x hx hle e => ?_)
    subst e
    have : G.rk g l x = G.rk g l n := by omega
    exact hne (rk_inj h hx hn this)
theorem Dom.anti (h : OrderOk g l) {y n : Nat} (hd : Dom g l y n) (hd' : Dom g l n y) (hy : y ∈ l) (hn : n ∈ l) : y = n := by
  by_cases e : y = n
  · exact e
  · have := hd.rk h hy hn e
    have := hd'.rk h hn hy (Ne.symm e)
    omega
theorem Dom.zero (h : OrderOk g l) {n : Nat} : Dom g l 0 n := by
  intro k hw
  induction hw with
  | start k h => exact h rfl
  | on _ _ _ _ ih => exact ih
  | back _ _ _ ih => exact ih
/-- What dominates a node, and is another one, dominates what goes to it. -/
theorem Dom.pred {d n p : Nat} (hd : Dom g l d n) (hne : d ≠ n) (hp : n ∈ g.getD p []) : Dom g l d p := fun k hw => hd (k + 1) (.back hw hp (Ne.symm hne))
theorem Dom.mem (h : OrderOk g l) {y n : Nat} (hd : Dom g l y n) (hn : n ∈ l) : y ∈ l := by
  by_cases hy : y ∈ l
  · exact hy
  · exact absurd (straight h _ n rfl hn fun x hx _ e => hy (by rw [← e]; exact hx)) (hd 0)
end
end Go.Vw.G
