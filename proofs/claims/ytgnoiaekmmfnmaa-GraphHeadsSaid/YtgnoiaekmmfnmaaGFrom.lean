import Derived.Test.YtgnoiaekmmfnmaaGOrd
import Derived.Test.YtgnoiaekmmfnmaaVSimp
/-
  What goes to each node.
-/
set_option linter.unusedVariables false
namespace Go.Vw.G
open Go.Vw

def push (rows : List (List Nat)) (k i : Nat) : List (List Nat) := rows.set k (rows.getD k [] ++ [i])
/-- The edges of row i, and of those behind. -/
def edges : List (List Nat) → Nat → List (Nat × Nat)
  | [], _ => []
  | l :: r, i => l.map (·, i) ++ edges r (i + 1)
def pushAll (rows : List (List Nat)) (es : List (Nat × Nat)) : List (List Nat) := es.foldl (fun rows e => push rows e.1 e.2) rows
def froms (g : List (List Nat)) : List (List Nat) := pushAll (List.replicate g.length []) (edges g 0)

theorem push_length (rows : List (List Nat)) (k i : Nat) : (push rows k i).length = rows.length := by simp [push]
theorem pushAll_length : ∀ (es : List (Nat × Nat)) (rows : List (List Nat)), (pushAll rows es).length = rows.length
  | [], _ => rfl
  | e :: es, rows => by
    have := pushAll_length es (push rows e.1 e.2)
    simpa [pushAll, push_length] using this
theorem pushAll_cons (rows : List (List Nat)) (k i : Nat) (es : List (Nat × Nat)) : pushAll rows ((k, i) :: es) = pushAll (push rows k i) es := rfl
theorem froms_length (g : List (List Nat)) : (froms g).length = g.length := by simp [froms, pushAll_length]

theorem edges_drop (g : List (List Nat)) {i : Nat} (h : i < g.length) : edges (g.drop i) i = g[i].map (·, i) ++ edges (g.drop (i + 1)) (i + 1) := by
  rw [List.drop_eq_getElem_cons h, edges]

theorem map_drop {l : List Nat} {k i : Nat} (h : k < l.length) : (l.drop k).map (fun c => (c, i)) = (l[k], i) :: (l.drop (k + 1)).map (fun c => (c, i)) := by
  rw [List.drop_eq_getElem_cons h]; rfl

/-- How many edges a row may get in all. -/
def total (rows : List (List Nat)) : Nat := (rows.map List.length).sum
theorem total_set : ∀ (rows : List (List Nat)) (k : Nat) (r : List Nat), k < rows.length → total (rows.set k r) + (rows.getD k []).length = total rows + r.length
  | [], _, _, h => by simp at h
  | x :: xs, 0, r, _ => by simp [total]; omega
  | x :: xs, k + 1, r, h => by
    have := total_set xs k r (by simpa using h)
    simp [total] at this ⊢; omega
theorem total_push {rows : List (List Nat)} {k i : Nat} (h : k < rows.length) : total (push rows k i) = total rows + 1 := by
  have := total_set rows k (rows.getD k [] ++ [i]) h
  simp only [push, List.length_append, List.length_cons, List.length_nil] at this ⊢
  omega
theorem row_le_total : ∀ (rows : List (List Nat)) (k : Nat), (rows.getD k []).length ≤ total rows
  | [], _ => by simp
  | x :: xs, 0 => by simp [total]
  | x :: xs, k + 1 => by
    have := row_le_total xs k
    simp [total] at this ⊢; omega
theorem total_rep (n : Nat) : total (List.replicate n []) = 0 := by
  induction n with
  | zero => rfl
  | succ n ih => simp [total, List.replicate_succ]
theorem edges_len {g : List (List Nat)} (h : ∀ l ∈ g, l.length ≤ 128) : ∀ i, (edges g i).length ≤ 128 * g.length := by
  induction g with
  | nil => simp [edges]
  | cons l g ih =>
    intro i
    have h1 := h l List.mem_cons_self
    have h2 := ih (fun l hl => h l (List.mem_cons_of_mem _ hl)) (i + 1)
    simp [edges] at h2 ⊢; omega
end Go.Vw.G
