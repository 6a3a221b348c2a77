import Derived.Test.YtgnoiaekmmfnmaaVSimp
/-
  More rules for walks.
-/
set_option linter.unusedVariables false
namespace Go.Vw
open Go.RowKit

/-- A region run in two ways, to one end. -/
theorem vw_regionSplit {P : Program} {N b : Nat} {Q Q2 : Exit → Fr → Store → Prop} {σ σ' : Fr} {S S' : Store} {c c2 : Code} {cs : List CO} (p : Prop) (ks : List Nat) (h : Code.kind c = 1) (hc : compOps P N (Code.ops c) = some cs)
    (hA : p → ∃ σ1, runV none cs σ S = some ([], σ1, S') ∧ σ1.only ks = σ') (hB : ¬ p → ∃ σ1, runV none cs σ S = some ([], σ1, S') ∧ σ1.only ks = σ') (H : VWp P N b c2 Q2 σ' S') : VWp P N b c (thenV (VWp P N b c2 Q2) Q) σ S := by
  have fin : (∃ σ1, runV none cs σ S = some ([], σ1, S') ∧ σ1.only ks = σ') → VWp P N b c (thenV (VWp P N b c2 Q2) Q) σ S := by
    rintro ⟨σ1, h1, h2⟩
    exact vw_regionRun h hc h1 (vseg_done (vw_only ks (by rw [h2]; exact H)))
  by_cases hp : p
  · exact fin (hA hp)
  · exact fin (hB hp)

/-- A set of whole numbers, kept as a map's entries. -/
def mapS (ns : List Nat) : List V := ns.map fun n => .tuple [vnat n, .bool true]
/-- One more. -/
def addS (ns : List Nat) (n : Nat) : List Nat := if n ∈ ns then ns else ns ++ [n]
theorem mem_addS {ns : List Nat} {n x : Nat} : x ∈ addS ns n ↔ x ∈ ns ∨ x = n := by
  unfold addS
  split
  · rename_i h
    constructor
    · exact .inl
    · rintro (h1 | rfl)
      · exact h1
      · exact h
  · simp
theorem lookV_mapS (n : Nat) : ∀ (ns : List Nat) (i : Nat), (n ∉ ns ∧ lookV (.int .i64 (n : Int)) (mapS ns) i = some none) ∨ ∃ j, n ∈ ns ∧ ns[j]? = some n ∧ lookV (.int .i64 (n : Int)) (mapS ns) i = some (some (i + j, .bool true))
  | [], i => .inl ⟨by simp, rfl⟩
  | x :: ns, i => by
    by_cases e : n = x
    · subst e
      exact .inr ⟨0, by simp, rfl, by simp [mapS, lookV, keySame, vnat]⟩
    · have e' : ((n : Int) == (x : Int)) = false := by simp; omega
      have h0 : lookV (.int .i64 (n : Int)) (mapS (x :: ns)) i = lookV (.int .i64 (n : Int)) (mapS ns) (i + 1) := by
        show (match keySame (.int .i64 (n : Int)) (vnat x) with | some true => _ | some false => _ | none => _) = _
        simp only [keySame, vnat, if_true, e']
        rfl
      rcases lookV_mapS n ns (i + 1) with ⟨h1, h2⟩ | ⟨j, h1, h2, h3⟩
      · exact .inl ⟨by simp [e, h1], by rw [h0, h2]⟩
      · exact .inr ⟨j + 1, by simp [h1], by simpa using h2, by rw [h0, h3]; simp; omega⟩
theorem opLookup_set {S : Store} {o : Nat} {ns : List Nat} {n : Nat} (h : S.get o = some (0, mapS ns)) : opLookup (.bool false) false S (.map o) (.int .i64 (n : Int)) = some (.bool (decide (n ∈ ns))) := by
  simp only [opLookup, h]
  rcases lookV_mapS n ns 0 with ⟨h1, h2⟩ | ⟨j, h1, h2, h3⟩
  · simp [h2, h1]
  · simp [h3, h1]
theorem opMapUpdate_set {S : Store} {o : Nat} {ns : List Nat} {n : Nat} (h : S.get o = some (0, mapS ns)) : opMapUpdate S (.map o) (.int .i64 (n : Int)) (.bool true) = some (S.upd o (0, mapS (addS ns n))) := by
  have h1 : (V.bool true).one = true := rfl
  simp only [opMapUpdate, h, h1, if_true]
  rcases lookV_mapS n ns 0 with ⟨h1, h2⟩ | ⟨j, h1, h2, h3⟩
  · simp only [h2, addS, if_neg h1]
    simp [mapS, vnat]
  · simp only [h3, addS, h1, if_true, Nat.zero_add]
    have e : (mapS ns).set j (.tuple [.int .i64 (n : Int), .bool true]) = mapS ns := by
      refine List.ext_getElem? fun i => ?_
      by_cases hij : j = i
      · subst hij
        have hj : j < ns.length := (List.getElem?_eq_some_iff.1 h2).1
        have hv : ns[j] = n := (List.getElem?_eq_some_iff.1 h2).2
        simp [mapS, hj, hv, vnat]
      · rw [List.getElem?_set_ne hij]
    rw [e]
theorem renL_mapS (f : Nat → Nat) (ns : List Nat) : V.renL f (mapS ns) = mapS ns := by
  unfold mapS
  rw [renL_eq, List.map_map]
  exact List.map_congr_left fun x _ => by simp [V.ren, V.renL, vnat]
theorem idsL_mapS (p : Nat → Bool) (ns : List Nat) : V.idsL p (mapS ns) = true := by
  unfold mapS
  rw [idsL_eq, List.all_map]
  simp [V.ids, V.idsL, vnat]
theorem mapS_nil : ([] : List V) = mapS [] := rfl
attribute [simp] opLookup_set opMapUpdate_set renL_mapS idsL_mapS
end Go.Vw
