import Derived.Test.YtgnoiaekmmfnmaaGFrom
import Derived.Test.YtgnoiaekmmfnmaaGSpec
/-
  The nearest dominators, turn by turn.
-/
set_option linter.unusedVariables false
namespace Go.Vw.G
open Go.Vw

def rankTo (n : Nat) (l : List Nat) : Nat → List Nat
  | 0 => List.replicate n 0
  | k + 1 => (rankTo n l k).set (l.getD k 0) k
theorem rankTo_len (n : Nat) (l : List Nat) : ∀ k, (rankTo n l k).length = n
  | 0 => by simp [rankTo]
  | k + 1 => by simp [rankTo, rankTo_len n l k]

/-- Where two ways up meet. -/
def meetF (rank : List Nat) (near : List Int) : Nat → Int → Int → Option Int
  | 0, _, _ => none
  | f + 1, a, b => if a = b then some a else if 0 ≤ a ∧ a < near.length ∧ 0 ≤ b ∧ b < near.length then
      (if rank.getD b.toNat 0 < rank.getD a.toNat 0 then meetF rank near f (near.getD a.toNat 0) b else meetF rank near f a (near.getD b.toNat 0))
    else none

def pickF (rank : List Nat) (near : List Int) (F : Nat) : List Nat → Int → Option Int
  | [], best => some best
  | p :: ps, best => if near.getD p 0 < 0 then pickF rank near F ps best else if best < 0 then pickF rank near F ps p else (meetF rank near F best p).bind (pickF rank near F ps)

def sweepF (rank : List Nat) (fr : List (List Nat)) (F : Nat) : List Nat → List Int → Bool → Option (List Int × Bool)
  | [], near, t => some (near, t)
  | n :: ns, near, t => (pickF rank near F (fr.getD n []) (-1)).bind fun b => sweepF rank fr F ns (near.set n b) (t || decide (near.getD n 0 ≠ b))

def chk (rank : List Nat) (fr : List (List Nat)) (F : Nat) (l : List Nat) : Nat → List Int → Option (List Int)
  | 0, _ => none
  | f + 1, near => (sweepF rank fr F l near false).bind fun s => if s.2 then chk rank fr F l f s.1 else some s.1

theorem sweepF_len {rank : List Nat} {fr : List (List Nat)} {F : Nat} : ∀ (ns : List Nat) (near : List Int) (t : Bool) s, sweepF rank fr F ns near t = some s → s.1.length = near.length
  | [], near, t, s, h => by cases h; rfl
  | n :: ns, near, t, s, h => by
    simp only [sweepF] at h
    obtain ⟨b, _, h2⟩ := Option.bind_eq_some_iff.1 h
    have := sweepF_len ns _ _ s h2
    simpa using this
end Go.Vw.G
