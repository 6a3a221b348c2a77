/-
  More rules for walks.
-/
import Derived.Test.YtgnoiaekmmfnmaaVSimp
set_option linter.unusedVariables false
namespace Go.Vw
open Go.RowKit

/-- A region run in two ways, to one end. -/
theorem vw_regionSplit {P : Program} {N b : Nat} {Q Q2 : Exit → Fr → Store → Prop} {σ σ' : Fr} {S S' : Store} {c c2 : Code} {cs : List CO} (p : Prop) (ks : List Nat) (h : Code.kind c = 1) (hc : compOps P N (Code.ops c) = some cs)
    (hA : p → ∃ σ1, runV none cs σ S = some ([], σ1, S') ∧ σ1.only ks = σ') (hB : ¬ p → ∃ σ1, runV none cs σ S = some ([], σ1, S') ∧ σ1.only ks = σ') (H : VWp P N b c2 Q2 σ' S') : VWp P N b c (thenV (VWp P N b c2 Q2) Q) σ S := by
  have fin : (∃ σ1, runV none cs σ S = some ([], σ1, S') ∧ σ1.only ks = σ') → VWp P N b c (thenV (VWp P N b c2 Q2) Q) σ S := by
    rintro ⟨σ1, h1, h2⟩
    exact vw_regionRun h hc h1 (vseg_done (vw_only ks (by rw [h2]; exact H)))
  by_cases hp : p
  · exact fin (hA hp)
  · exact fin (hB hp)
end Go.Vw
