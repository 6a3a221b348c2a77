/-
  No cell of these rows narrows 'for every input' (looked for: loops, veiled, ifaces, maps, wideKeys, modest, calm, conditions, laid).
  DERIVED. THE GIVEN ROWS OF THIS SEAT. 6 by the template 'for every input the law returns true; each argument reads behind the call as it read before'; 0 by the template 'total and deterministic' (their statements: YtkfllaokjaldnaaGreatTotals.lean).
  GIVEN WITH THE SEED: the statements are not yours to turn. If you find one false, say at which input.
  Laid BY PROGRAM, IN A SANDBOX (cutbox-rows.mjs): the forced cells as the released guide's own fill.sh prints them over the translation ed77f4391e455013… (all of the seat's roots in one cut). By AI agents, Wed Nov 11 2026. No macro, syntax, notation, axiom, sorry.
-/
import Derived.Test.YtkfllaokjaldnaaGreatChecked
import GoSem.Claim
import GoSem.ClaimJoined
import GoSem.ClaimMapViews
import Derived.JoinedTies
import Derived.KernelRfl
namespace Go.Proofs.YtkfllaokjaldnaaGreat
/- THE CELL 'sum', in the pinned program and in every row, IS THE sha256 OF THE DUMP (.gsa) THAT YtkfllaokjaldnaaGreatProg.lean LOADS. Nothing in Lean hashes anything: it is a label: what it is worth is what the hold of that sum in a sandbox is worth. -/
noncomputable def Tryz.pinned : Pinned := { name := "ytkfllaokjaldnaagreat", sum := "ed77f4391e4550139f4947b52e0ba058583f458ebaab5b08fea1de1b8aa4719a", checked := Tryz.checked }
namespace Rows
def none {H : Type} : Left H := { results := [], args := [] }

/-- 'bellcranklaw14.LicmTurns': WHATEVER THE INPUT: true; the input reads as it did. -/
def licmTurnsSpec : ChangeSpec := { name := "licmTurns", fn := fun _ => fun
  | [d1, d2] => { results := [.lit (.bool true)], args := [d1, d2] }
  | _ => none }
def licmTurnsRow : OpenClaim := { program := "ytkfllaokjaldnaagreat", sum := "ed77f4391e4550139f4947b52e0ba058583f458ebaab5b08fea1de1b8aa4719a", func := "bellcrank/bellcranklaw14.LicmTurns", spec := "licmTurns", unfollowed := true, recurses := true, apart := false }
def LicmTurnsSaid : Prop := licmTurnsRow.holds Tryz.pinned (OpenSpec.ofChange licmTurnsSpec)

/-- ITS FALSE NEIGHBOUR: 'it returns false'. Refute it at one input. -/
def licmTurnsWrong : ChangeSpec := { name := "licmTurns", fn := fun _ => fun
  | [d1, d2] => { results := [.lit (.bool false)], args := [d1, d2] }
  | _ => none }
def LicmTurnsWrongFalsely : Prop := licmTurnsRow.holds Tryz.pinned (OpenSpec.ofChange licmTurnsWrong)

/-- 'bellcranklaw14.LicmRight': WHATEVER THE INPUT: true; the input reads as it did. -/
def licmRightSpec : ChangeSpec := { name := "licmRight", fn := fun _ => fun
  | [d1, d2] => { results := [.lit (.bool true)], args := [d1, d2] }
  | _ => none }
def licmRightRow : OpenClaim := { program := "ytkfllaokjaldnaagreat", sum := "ed77f4391e4550139f4947b52e0ba058583f458ebaab5b08fea1de1b8aa4719a", func := "bellcrank/bellcranklaw14.LicmRight", spec := "licmRight", unfollowed := true, recurses := true, apart := false }
def LicmRightSaid : Prop := licmRightRow.holds Tryz.pinned (OpenSpec.ofChange licmRightSpec)

/-- ITS FALSE NEIGHBOUR: 'it returns false'. Refute it at one input. -/
def licmRightWrong : ChangeSpec := { name := "licmRight", fn := fun _ => fun
  | [d1, d2] => { results := [.lit (.bool false)], args := [d1, d2] }
  | _ => none }
def LicmRightWrongFalsely : Prop := licmRightRow.holds Tryz.pinned (OpenSpec.ofChange licmRightWrong)

/-- 'bellcranklaw14.LicmMeans': WHATEVER THE INPUT: true; the input reads as it did. -/
def licmMeansSpec : ChangeSpec := { name := "licmMeans", fn := fun _ => fun
  | [d1, d2] => { results := [.lit (.bool true)], args := [d1, d2] }
  | _ => none }
def licmMeansRow : OpenClaim := { program := "ytkfllaokjaldnaagreat", sum := "ed77f4391e4550139f4947b52e0ba058583f458ebaab5b08fea1de1b8aa4719a", func := "bellcrank/bellcranklaw14.LicmMeans", spec := "licmMeans", unfollowed := true, recurses := true, apart := false }
def LicmMeansSaid : Prop := licmMeansRow.holds Tryz.pinned (OpenSpec.ofChange licmMeansSpec)

/-- ITS FALSE NEIGHBOUR: 'it returns false'. Refute it at one input. -/
def licmMeansWrong : ChangeSpec := { name := "licmMeans", fn := fun _ => fun
  | [d1, d2] => { results := [.lit (.bool false)], args := [d1, d2] }
  | _ => none }
def LicmMeansWrongFalsely : Prop := licmMeansRow.holds Tryz.pinned (OpenSpec.ofChange licmMeansWrong)

/-- 'bellcranklaw14.LicmOwn': WHATEVER THE INPUT: true; the input reads as it did. -/
def licmOwnSpec : ChangeSpec := { name := "licmOwn", fn := fun _ => fun
  | [d1, d2] => { results := [.lit (.bool true)], args := [d1, d2] }
  | _ => none }
def licmOwnRow : OpenClaim := { program := "ytkfllaokjaldnaagreat", sum := "ed77f4391e4550139f4947b52e0ba058583f458ebaab5b08fea1de1b8aa4719a", func := "bellcrank/bellcranklaw14.LicmOwn", spec := "licmOwn", unfollowed := true, recurses := true, apart := false }
def LicmOwnSaid : Prop := licmOwnRow.holds Tryz.pinned (OpenSpec.ofChange licmOwnSpec)

/-- ITS FALSE NEIGHBOUR: 'it returns false'. Refute it at one input. -/
def licmOwnWrong : ChangeSpec := { name := "licmOwn", fn := fun _ => fun
  | [d1, d2] => { results := [.lit (.bool false)], args := [d1, d2] }
  | _ => none }
def LicmOwnWrongFalsely : Prop := licmOwnRow.holds Tryz.pinned (OpenSpec.ofChange licmOwnWrong)

/-- 'bellcranklaw14.LicmNone': WHATEVER THE INPUT: true; the input reads as it did. -/
def licmNoneSpec : ChangeSpec := { name := "licmNone", fn := fun _ => fun
  | [d1, d2] => { results := [.lit (.bool true)], args := [d1, d2] }
  | _ => none }
def licmNoneRow : OpenClaim := { program := "ytkfllaokjaldnaagreat", sum := "ed77f4391e4550139f4947b52e0ba058583f458ebaab5b08fea1de1b8aa4719a", func := "bellcrank/bellcranklaw14.LicmNone", spec := "licmNone", unfollowed := true, recurses := true, apart := false }
def LicmNoneSaid : Prop := licmNoneRow.holds Tryz.pinned (OpenSpec.ofChange licmNoneSpec)

/-- ITS FALSE NEIGHBOUR: 'it returns false'. Refute it at one input. -/
def licmNoneWrong : ChangeSpec := { name := "licmNone", fn := fun _ => fun
  | [d1, d2] => { results := [.lit (.bool false)], args := [d1, d2] }
  | _ => none }
def LicmNoneWrongFalsely : Prop := licmNoneRow.holds Tryz.pinned (OpenSpec.ofChange licmNoneWrong)

/-- 'bellcranklaw14.LicmKeeps': WHATEVER THE INPUT: true; the input reads as it did. -/
def licmKeepsSpec : ChangeSpec := { name := "licmKeeps", fn := fun _ => fun
  | [d1, d2] => { results := [.lit (.bool true)], args := [d1, d2] }
  | _ => none }
def licmKeepsRow : OpenClaim := { program := "ytkfllaokjaldnaagreat", sum := "ed77f4391e4550139f4947b52e0ba058583f458ebaab5b08fea1de1b8aa4719a", func := "bellcrank/bellcranklaw14.LicmKeeps", spec := "licmKeeps", unfollowed := true, recurses := true, apart := false }
def LicmKeepsSaid : Prop := licmKeepsRow.holds Tryz.pinned (OpenSpec.ofChange licmKeepsSpec)

/-- ITS FALSE NEIGHBOUR: 'it returns false'. Refute it at one input. -/
def licmKeepsWrong : ChangeSpec := { name := "licmKeeps", fn := fun _ => fun
  | [d1, d2] => { results := [.lit (.bool false)], args := [d1, d2] }
  | _ => none }
def LicmKeepsWrongFalsely : Prop := licmKeepsRow.holds Tryz.pinned (OpenSpec.ofChange licmKeepsWrong)

/- THE SECOND FORM. 'bulk': how many values and letters a reading holds, each counted each time it is reached (what is shared counts as often as it is met; a slice's spare places count too). A statement '..UptoSaid' is the law's where the arguments, and the package variables that the reading takes, are together of bulk at most 1048576: NARROWER than '..Said'. Prove '..Said' where nothing that the law and all that it calls make is longer than what came in: it says more and counts as full. Else prove '..UptoSaid'. A law counts once. -/
mutual
def uptoBulk {H : Type} : DataW H → Nat
  | .lit (.string bytes) => bytes.length + 1
  | .lit _ => 1
  | .nil => 1
  | .ptr d => uptoBulk d + 1
  | .slice elems spare => uptoBulkAll elems + uptoBulkAll spare + 1
  | .agg parts => uptoBulkAll parts + 1
  | .iface _ d => uptoBulk d + 1
  | .map entries => uptoBulkEntries entries + 1
  | .held _ => 1
def uptoBulkAll {H : Type} : List (DataW H) → Nat
  | [] => 0
  | d :: r => uptoBulk d + uptoBulkAll r
def uptoBulkEntries {H : Type} : List (Lit × DataW H) → Nat
  | [] => 0
  | x :: r => uptoBulkEntry x + uptoBulkEntries r
def uptoBulkEntry {H : Type} : Lit × DataW H → Nat
  | (.string bytes, d) => bytes.length + uptoBulk d + 1
  | (_, d) => uptoBulk d + 1
 end
def uptoSmall : (H : Type) → List (DataW H) → Bool := fun _ ds => decide (uptoBulkAll ds ≤ 1048576)
def OpenSpec.upto (s : _root_.Go.ChangeSpec) : _root_.Go.OpenSpec := { _root_.Go.OpenSpec.ofChange s with cond := some uptoSmall }

/-- 'bellcranklaw14.LicmTurns', WHERE WHAT IT READS IS OF BULK AT MOST 1048576: true; the input reads as it did. -/
def licmTurnsUptoRow : OpenClaim := { program := "ytkfllaokjaldnaagreat", sum := "ed77f4391e4550139f4947b52e0ba058583f458ebaab5b08fea1de1b8aa4719a", func := "bellcrank/bellcranklaw14.LicmTurns", spec := "licmTurns", unfollowed := true, recurses := true, apart := false, narrowed := true }
def LicmTurnsUptoSaid : Prop := licmTurnsUptoRow.holds Tryz.pinned (OpenSpec.upto licmTurnsSpec)

/-- 'bellcranklaw14.LicmRight', WHERE WHAT IT READS IS OF BULK AT MOST 1048576: true; the input reads as it did. -/
def licmRightUptoRow : OpenClaim := { program := "ytkfllaokjaldnaagreat", sum := "ed77f4391e4550139f4947b52e0ba058583f458ebaab5b08fea1de1b8aa4719a", func := "bellcrank/bellcranklaw14.LicmRight", spec := "licmRight", unfollowed := true, recurses := true, apart := false, narrowed := true }
def LicmRightUptoSaid : Prop := licmRightUptoRow.holds Tryz.pinned (OpenSpec.upto licmRightSpec)

/-- 'bellcranklaw14.LicmMeans', WHERE WHAT IT READS IS OF BULK AT MOST 1048576: true; the input reads as it did. -/
def licmMeansUptoRow : OpenClaim := { program := "ytkfllaokjaldnaagreat", sum := "ed77f4391e4550139f4947b52e0ba058583f458ebaab5b08fea1de1b8aa4719a", func := "bellcrank/bellcranklaw14.LicmMeans", spec := "licmMeans", unfollowed := true, recurses := true, apart := false, narrowed := true }
def LicmMeansUptoSaid : Prop := licmMeansUptoRow.holds Tryz.pinned (OpenSpec.upto licmMeansSpec)

/-- 'bellcranklaw14.LicmOwn', WHERE WHAT IT READS IS OF BULK AT MOST 1048576: true; the input reads as it did. -/
def licmOwnUptoRow : OpenClaim := { program := "ytkfllaokjaldnaagreat", sum := "ed77f4391e4550139f4947b52e0ba058583f458ebaab5b08fea1de1b8aa4719a", func := "bellcrank/bellcranklaw14.LicmOwn", spec := "licmOwn", unfollowed := true, recurses := true, apart := false, narrowed := true }
def LicmOwnUptoSaid : Prop := licmOwnUptoRow.holds Tryz.pinned (OpenSpec.upto licmOwnSpec)

/-- 'bellcranklaw14.LicmNone', WHERE WHAT IT READS IS OF BULK AT MOST 1048576: true; the input reads as it did. -/
def licmNoneUptoRow : OpenClaim := { program := "ytkfllaokjaldnaagreat", sum := "ed77f4391e4550139f4947b52e0ba058583f458ebaab5b08fea1de1b8aa4719a", func := "bellcrank/bellcranklaw14.LicmNone", spec := "licmNone", unfollowed := true, recurses := true, apart := false, narrowed := true }
def LicmNoneUptoSaid : Prop := licmNoneUptoRow.holds Tryz.pinned (OpenSpec.upto licmNoneSpec)

/-- 'bellcranklaw14.LicmKeeps', WHERE WHAT IT READS IS OF BULK AT MOST 1048576: true; the input reads as it did. -/
def licmKeepsUptoRow : OpenClaim := { program := "ytkfllaokjaldnaagreat", sum := "ed77f4391e4550139f4947b52e0ba058583f458ebaab5b08fea1de1b8aa4719a", func := "bellcrank/bellcranklaw14.LicmKeeps", spec := "licmKeeps", unfollowed := true, recurses := true, apart := false, narrowed := true }
def LicmKeepsUptoSaid : Prop := licmKeepsUptoRow.holds Tryz.pinned (OpenSpec.upto licmKeepsSpec)

end Rows
end Go.Proofs.YtkfllaokjaldnaaGreat
