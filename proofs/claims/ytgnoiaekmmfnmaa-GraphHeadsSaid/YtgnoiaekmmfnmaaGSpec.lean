/-
  What the functions of layer 7 compute, in plain Lean.
-/
namespace Go.Vw.G

def okIx (l : List Int) (n : Int) : Prop := 0 ≤ n ∧ n < l.length
instance (l : List Int) (n : Int) : Decidable (okIx l n) := inferInstanceAs (Decidable (_ ∧ _))

/-- Up the list of nearest ones, so many steps at most. -/
def dom1 (l : List Int) (a : Int) : Nat → Int → Bool
  | 0, _ => false
  | n + 1, b => if okIx l b then (if a = b then true else dom1 l a n (l.getD b.toNat 0)) else false

def dominates (l : List Int) (a b : Int) : Bool := if okIx l a then dom1 l a 257 b else false

/-- Not the number of a node. -/
def wild (len : Nat) (n : Int) : Bool := decide (n < 0) || decide ((len : Int) ≤ n)

/-- The first place of one that is told true, from place k on. -/
def find (p : Int → Bool) : List Int → Nat → Int
  | [], _ => -1
  | x :: xs, k => if p x then k else find p xs (k + 1)

theorem find_any (p : Int → Bool) : ∀ (l : List Int) (k : Nat), decide (0 ≤ find p l k) = l.any p
  | [], k => by simp [find]
  | x :: xs, k => by
      cases h : p x
      · simp [find, h, find_any p xs (k + 1)]
      · simp [find, h]

def rowOk (len : Nat) (l : List Int) : Bool := decide (l.length ≤ 128) && !(l.any (wild len))

def right (g : List (List Int)) : Bool := decide (1 ≤ g.length) && decide (g.length ≤ 256) && g.all (rowOk g.length)

end Go.Vw.G
