import Derived.Test.YtgnoiaekmmfnmaaVFin
import Derived.Test.YtgnoiaekmmfnmaaGSpec
/-
  Graphs that may be: lists of lists of numbers of nodes.
-/
set_option linter.unusedVariables false
namespace Go.Vw.G
open Go.Vw

structure Ok (g : List (List Nat)) : Prop where
  pos : 1 ≤ g.length
  max : g.length ≤ 256
  row : ∀ l ∈ g, l.length ≤ 128
  elt : ∀ l ∈ g, ∀ n ∈ l, n < g.length

def nats (g : List (List Int)) : List (List Nat) := g.map (·.map Int.toNat)

theorem nats_length (g : List (List Int)) : (nats g).length = g.length := by simp [nats]

theorem rowOk_iff {n : Nat} {l : List Int} : rowOk n l = true ↔ l.length ≤ 128 ∧ ∀ x ∈ l, 0 ≤ x ∧ x < n := by
  simp only [rowOk, Bool.and_eq_true, decide_eq_true_eq, Bool.not_eq_true', List.any_eq_false, wild, Bool.or_eq_true, not_or, decide_eq_true_eq]
  constructor
  · rintro ⟨h1, h2⟩; exact ⟨h1, fun x hx => by have := h2 x hx; omega⟩
  · rintro ⟨h1, h2⟩; exact ⟨h1, fun x hx => by have := h2 x hx; omega⟩

theorem right_ok {g : List (List Int)} (h : right g = true) : Ok (nats g) := by
  simp only [right, Bool.and_eq_true, decide_eq_true_eq, List.all_eq_true, rowOk_iff] at h
  obtain ⟨⟨h1, h2⟩, h3⟩ := h
  refine ⟨by rw [nats_length]; exact h1, by rw [nats_length]; exact h2, ?_, ?_⟩
  · intro l hl
    obtain ⟨r, hr, rfl⟩ := List.mem_map.1 hl
    rw [List.length_map]; exact (h3 r hr).1
  · intro l hl n hn
    obtain ⟨r, hr, rfl⟩ := List.mem_map.1 hl
    obtain ⟨x, hx, rfl⟩ := List.mem_map.1 hn
    have := (h3 r hr).2 x hx
    rw [nats_length]; omega

theorem right_enc {g : List (List Int)} (h : right g = true) : vl (vl vint) g = vl (vl vnat) (nats g) := by
  simp only [right, Bool.and_eq_true, decide_eq_true_eq, List.all_eq_true, rowOk_iff] at h
  obtain ⟨_, h3⟩ := h
  unfold vl nats
  simp only [V.list.injEq, List.map_map]
  refine List.map_congr_left fun r hr => ?_
  simp only [Function.comp, List.map_map, V.list.injEq]
  refine List.map_congr_left fun x hx => ?_
  have := (h3 r hr).2 x hx
  simp only [Function.comp, vint, vnat, V.int.injEq, true_and]
  omega

abbrev WS := List Bool × List Nat

/-- The walk in depth: what is met, and what is done. So deep at most. -/
def walk (g : List (List Nat)) : Nat → Nat → WS → Option WS
  | 0, _, _ => none
  | f + 1, n, s => ((g.getD n []).foldlM (fun (s : WS) k => if s.1.getD k false then some s else walk g f k s) ((s.1.set n true, s.2) : WS)).map fun (s : WS) => ((s.1, s.2 ++ [n]) : WS)

def kids (g : List (List Nat)) (f : Nat) (l : List Nat) (s : WS) : Option WS := l.foldlM (fun (s : WS) k => if s.1.getD k false then some s else walk g f k s) s

theorem walk_succ (g : List (List Nat)) (f n : Nat) (s : WS) : walk g (f + 1) n s = (kids g f (g.getD n []) (s.1.set n true, s.2)).map fun s => (s.1, s.2 ++ [n]) := rfl
theorem kids_nil (g : List (List Nat)) (f : Nat) (s : WS) : kids g f [] s = some s := rfl
theorem kids_cons (g : List (List Nat)) (f k : Nat) (l : List Nat) (s : WS) : kids g f (k :: l) s = if s.1.getD k false then kids g f l s else (walk g f k s).bind (kids g f l) := by
  simp only [kids, List.foldlM_cons]
  cases s.1.getD k false
  · simp; rfl
  · simp

theorem kids_len {g : List (List Nat)} {f : Nat} (ih : ∀ n s s', walk g f n s = some s' → s.2.length ≤ s'.2.length ∧ s'.1.length = s.1.length) : ∀ (l : List Nat) (s s' : WS), kids g f l s = some s' → s.2.length ≤ s'.2.length ∧ s'.1.length = s.1.length
  | [], s, s', h => by cases h; exact ⟨Nat.le_refl _, rfl⟩
  | k :: l, s, s', h => by
    rw [kids_cons] at h
    split at h
    · exact kids_len ih l s s' h
    · obtain ⟨t, h1, h2⟩ := Option.bind_eq_some_iff.1 h
      have a := ih _ _ _ h1
      have b := kids_len ih l t s' h2
      omega

theorem walk_len (g : List (List Nat)) : ∀ (f n : Nat) (s s' : WS), walk g f n s = some s' → s.2.length ≤ s'.2.length ∧ s'.1.length = s.1.length
  | 0, n, s, s', h => by cases h
  | f + 1, n, s, s', h => by
    rw [walk_succ] at h
    obtain ⟨t, h1, rfl⟩ := Option.map_eq_some_iff.1 h
    have := kids_len (walk_len g f) _ _ _ h1
    simp at this ⊢
    omega

end Go.Vw.G
