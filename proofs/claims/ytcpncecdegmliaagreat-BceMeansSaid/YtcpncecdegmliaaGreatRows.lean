/-
  No cell of these rows narrows 'for every input' (looked for: loops, veiled, ifaces, maps, wideKeys, modest, calm, conditions, laid).
  DERIVED. THE GIVEN ROWS OF THIS SEAT. 3 by the template 'for every input the law returns true; each argument reads behind the call as it read before'; 0 by the template 'total and deterministic' (their statements: YtcpncecdegmliaaGreatTotals.lean).
  GIVEN WITH THE SEED: the statements are not yours to turn. If you find one false, say at which input.
  Laid BY PROGRAM, IN A SANDBOX (cutbox-rows.mjs): the forced cells as the released guide's own fill.sh prints them over the translation 0d85a8bd03204deb… (all of the seat's roots in one cut). By AI agents, Wed Nov 11 2026. No macro, syntax, notation, axiom, sorry.
-/
import Derived.Test.YtcpncecdegmliaaGreatChecked
import GoSem.Claim
import GoSem.ClaimJoined
import GoSem.ClaimMapViews
import Derived.JoinedTies
import Derived.KernelRfl
namespace Go.Proofs.YtcpncecdegmliaaGreat
/- THE CELL 'sum', in the pinned program and in every row, IS THE sha256 OF THE DUMP (.gsa) THAT YtcpncecdegmliaaGreatProg.lean LOADS. Nothing in Lean hashes anything: it is a label: what it is worth is what the hold of that sum in a sandbox is worth. -/
noncomputable def Tryz.pinned : Pinned := { name := "ytcpncecdegmliaagreat", sum := "0d85a8bd03204deb2b298c5ec2a051f16311f99ebe15b37c0c01eac7a80843b5", checked := Tryz.checked }
namespace Rows
def none {H : Type} : Left H := { results := [], args := [] }

/-- 'bellcranklaw13.BceTurns': WHATEVER THE INPUT: true; the input reads as it did. -/
def bceTurnsSpec : ChangeSpec := { name := "bceTurns", fn := fun _ => fun
  | [d1, d2] => { results := [.lit (.bool true)], args := [d1, d2] }
  | _ => none }
def bceTurnsRow : OpenClaim := { program := "ytcpncecdegmliaagreat", sum := "0d85a8bd03204deb2b298c5ec2a051f16311f99ebe15b37c0c01eac7a80843b5", func := "bellcrank/bellcranklaw13.BceTurns", spec := "bceTurns", unfollowed := true, recurses := true, plainKeys := false, apart := false }
def BceTurnsSaid : Prop := bceTurnsRow.holds Tryz.pinned (OpenSpec.ofChange bceTurnsSpec)

/-- ITS FALSE NEIGHBOUR: 'it returns false'. Refute it at one input. -/
def bceTurnsWrong : ChangeSpec := { name := "bceTurns", fn := fun _ => fun
  | [d1, d2] => { results := [.lit (.bool false)], args := [d1, d2] }
  | _ => none }
def BceTurnsWrongFalsely : Prop := bceTurnsRow.holds Tryz.pinned (OpenSpec.ofChange bceTurnsWrong)

/-- 'bellcranklaw13.BceMeans': WHATEVER THE INPUT: true; the input reads as it did. -/
def bceMeansSpec : ChangeSpec := { name := "bceMeans", fn := fun _ => fun
  | [d1, d2] => { results := [.lit (.bool true)], args := [d1, d2] }
  | _ => none }
def bceMeansRow : OpenClaim := { program := "ytcpncecdegmliaagreat", sum := "0d85a8bd03204deb2b298c5ec2a051f16311f99ebe15b37c0c01eac7a80843b5", func := "bellcrank/bellcranklaw13.BceMeans", spec := "bceMeans", unfollowed := true, recurses := true, plainKeys := false, apart := false }
def BceMeansSaid : Prop := bceMeansRow.holds Tryz.pinned (OpenSpec.ofChange bceMeansSpec)

/-- ITS FALSE NEIGHBOUR: 'it returns false'. Refute it at one input. -/
def bceMeansWrong : ChangeSpec := { name := "bceMeans", fn := fun _ => fun
  | [d1, d2] => { results := [.lit (.bool false)], args := [d1, d2] }
  | _ => none }
def BceMeansWrongFalsely : Prop := bceMeansRow.holds Tryz.pinned (OpenSpec.ofChange bceMeansWrong)

/-- 'bellcranklaw13.BceOwn': WHATEVER THE INPUT: true; the input reads as it did. -/
def bceOwnSpec : ChangeSpec := { name := "bceOwn", fn := fun _ => fun
  | [d1, d2] => { results := [.lit (.bool true)], args := [d1, d2] }
  | _ => none }
def bceOwnRow : OpenClaim := { program := "ytcpncecdegmliaagreat", sum := "0d85a8bd03204deb2b298c5ec2a051f16311f99ebe15b37c0c01eac7a80843b5", func := "bellcrank/bellcranklaw13.BceOwn", spec := "bceOwn", unfollowed := true, recurses := true, plainKeys := false, apart := false }
def BceOwnSaid : Prop := bceOwnRow.holds Tryz.pinned (OpenSpec.ofChange bceOwnSpec)

/-- ITS FALSE NEIGHBOUR: 'it returns false'. Refute it at one input. -/
def bceOwnWrong : ChangeSpec := { name := "bceOwn", fn := fun _ => fun
  | [d1, d2] => { results := [.lit (.bool false)], args := [d1, d2] }
  | _ => none }
def BceOwnWrongFalsely : Prop := bceOwnRow.holds Tryz.pinned (OpenSpec.ofChange bceOwnWrong)

/- THE SECOND FORM. 'bulk': how many values and letters a reading holds, each counted each time it is reached (what is shared counts as often as it is met; a slice's spare places count too). A statement '..UptoSaid' is the law's where the arguments, and the package variables that the reading takes, are together of bulk at most 1048576: NARROWER than '..Said'. Prove '..Said' where nothing that the law and all that it calls make is longer than what came in: it says more and counts as full. Else prove '..UptoSaid'. A law counts once. -/
mutual
def uptoBulk {H : Type} : DataW H → Nat
  | .lit (.string bytes) => bytes.length + 1
  | .lit _ => 1
  | .nil => 1
  | .ptr d => uptoBulk d + 1
  | .slice elems spare => uptoBulkAll elems + uptoBulkAll spare + 1
  | .agg parts => uptoBulkAll parts + 1
  | .iface _ d => uptoBulk d + 1
  | .map entries => uptoBulkEntries entries + 1
  | .held _ => 1
def uptoBulkAll {H : Type} : List (DataW H) → Nat
  | [] => 0
  | d :: r => uptoBulk d + uptoBulkAll r
def uptoBulkEntries {H : Type} : List (Lit × DataW H) → Nat
  | [] => 0
  | x :: r => uptoBulkEntry x + uptoBulkEntries r
def uptoBulkEntry {H : Type} : Lit × DataW H → Nat
  | (.string bytes, d) => bytes.length + uptoBulk d + 1
  | (_, d) => uptoBulk d + 1
 end
def uptoSmall : (H : Type) → List (DataW H) → Bool := fun _ ds => decide (uptoBulkAll ds ≤ 1048576)
def OpenSpec.upto (s : _root_.Go.ChangeSpec) : _root_.Go.OpenSpec := { _root_.Go.OpenSpec.ofChange s with cond := some uptoSmall }

/-- 'bellcranklaw13.BceTurns', WHERE WHAT IT READS IS OF BULK AT MOST 1048576: true; the input reads as it did. -/
def bceTurnsUptoRow : OpenClaim := { program := "ytcpncecdegmliaagreat", sum := "0d85a8bd03204deb2b298c5ec2a051f16311f99ebe15b37c0c01eac7a80843b5", func := "bellcrank/bellcranklaw13.BceTurns", spec := "bceTurns", unfollowed := true, recurses := true, plainKeys := false, apart := false, narrowed := true }
def BceTurnsUptoSaid : Prop := bceTurnsUptoRow.holds Tryz.pinned (OpenSpec.upto bceTurnsSpec)

/-- 'bellcranklaw13.BceMeans', WHERE WHAT IT READS IS OF BULK AT MOST 1048576: true; the input reads as it did. -/
def bceMeansUptoRow : OpenClaim := { program := "ytcpncecdegmliaagreat", sum := "0d85a8bd03204deb2b298c5ec2a051f16311f99ebe15b37c0c01eac7a80843b5", func := "bellcrank/bellcranklaw13.BceMeans", spec := "bceMeans", unfollowed := true, recurses := true, plainKeys := false, apart := false, narrowed := true }
def BceMeansUptoSaid : Prop := bceMeansUptoRow.holds Tryz.pinned (OpenSpec.upto bceMeansSpec)

/-- 'bellcranklaw13.BceOwn', WHERE WHAT IT READS IS OF BULK AT MOST 1048576: true; the input reads as it did. -/
def bceOwnUptoRow : OpenClaim := { program := "ytcpncecdegmliaagreat", sum := "0d85a8bd03204deb2b298c5ec2a051f16311f99ebe15b37c0c01eac7a80843b5", func := "bellcrank/bellcranklaw13.BceOwn", spec := "bceOwn", unfollowed := true, recurses := true, plainKeys := false, apart := false, narrowed := true }
def BceOwnUptoSaid : Prop := bceOwnUptoRow.holds Tryz.pinned (OpenSpec.upto bceOwnSpec)

end Rows
end Go.Proofs.YtcpncecdegmliaaGreat
