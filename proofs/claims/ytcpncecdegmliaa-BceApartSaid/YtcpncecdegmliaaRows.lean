/-
  No cell of these rows narrows 'for every input' (looked for: loops, veiled, ifaces, maps, wideKeys, modest, calm, conditions, laid).
  DERIVED. THE GIVEN ROWS OF THIS SEAT. 3 by the template 'for every input the law returns true; each argument reads behind the call as it read before'; 0 by the template 'total and deterministic' (their statements: YtcpncecdegmliaaTotals.lean).
  GIVEN WITH THE SEED: the statements are not yours to turn. If you find one false, say at which input.
  Laid BY PROGRAM, IN A SANDBOX (cutbox-rows.mjs): the forced cells as the released guide's own fill.sh prints them over the translation 5a64d213f0f66814… (all of the seat's roots in one cut). By AI agents, Wed Nov 11 2026. No macro, syntax, notation, axiom, sorry.
-/
import Derived.Test.YtcpncecdegmliaaChecked
import GoSem.Claim
import GoSem.ClaimJoined
import GoSem.ClaimMapViews
import Derived.JoinedTies
import Derived.KernelRfl
namespace Go.Proofs.Ytcpncecdegmliaa
/- THE CELL 'sum', in the pinned program and in every row, IS THE sha256 OF THE DUMP (.gsa) THAT YtcpncecdegmliaaProg.lean LOADS. Nothing in Lean hashes anything: it is a label: what it is worth is what the hold of that sum in a sandbox is worth. -/
noncomputable def Try.pinned : Pinned := { name := "ytcpncecdegmliaa", sum := "5a64d213f0f668140ae4460a89989efdb804172df0a434f45d5795ce32db9ff1", checked := Try.checked }
namespace Rows
def none {H : Type} : Left H := { results := [], args := [] }

/-- 'bellcranklaw13.BceRight': WHATEVER THE INPUT: true; the input reads as it did. -/
def bceRightSpec : ChangeSpec := { name := "bceRight", fn := fun _ => fun
  | [d1, d2] => { results := [.lit (.bool true)], args := [d1, d2] }
  | _ => none }
def bceRightRow : OpenClaim := { program := "ytcpncecdegmliaa", sum := "5a64d213f0f668140ae4460a89989efdb804172df0a434f45d5795ce32db9ff1", func := "bellcrank/bellcranklaw13.BceRight", spec := "bceRight", unfollowed := true, recurses := true, plainKeys := false, apart := false }
def BceRightSaid : Prop := bceRightRow.holds Try.pinned (OpenSpec.ofChange bceRightSpec)

/-- ITS FALSE NEIGHBOUR: 'it returns false'. Refute it at one input. -/
def bceRightWrong : ChangeSpec := { name := "bceRight", fn := fun _ => fun
  | [d1, d2] => { results := [.lit (.bool false)], args := [d1, d2] }
  | _ => none }
def BceRightWrongFalsely : Prop := bceRightRow.holds Try.pinned (OpenSpec.ofChange bceRightWrong)

/-- 'bellcranklaw13.BceApart': WHATEVER THE INPUT: true; the input reads as it did. -/
def bceApartSpec : ChangeSpec := { name := "bceApart", fn := fun _ => fun
  | [d1, d2] => { results := [.lit (.bool true)], args := [d1, d2] }
  | _ => none }
def bceApartRow : OpenClaim := { program := "ytcpncecdegmliaa", sum := "5a64d213f0f668140ae4460a89989efdb804172df0a434f45d5795ce32db9ff1", func := "bellcrank/bellcranklaw13.BceApart", spec := "bceApart", unfollowed := true, recurses := true, plainKeys := false, apart := false }
def BceApartSaid : Prop := bceApartRow.holds Try.pinned (OpenSpec.ofChange bceApartSpec)

/-- ITS FALSE NEIGHBOUR: 'it returns false'. Refute it at one input. -/
def bceApartWrong : ChangeSpec := { name := "bceApart", fn := fun _ => fun
  | [d1, d2] => { results := [.lit (.bool false)], args := [d1, d2] }
  | _ => none }
def BceApartWrongFalsely : Prop := bceApartRow.holds Try.pinned (OpenSpec.ofChange bceApartWrong)

/-- 'bellcranklaw13.BceKeeps': WHATEVER THE INPUT: true; the input reads as it did. -/
def bceKeepsSpec : ChangeSpec := { name := "bceKeeps", fn := fun _ => fun
  | [d1, d2] => { results := [.lit (.bool true)], args := [d1, d2] }
  | _ => none }
def bceKeepsRow : OpenClaim := { program := "ytcpncecdegmliaa", sum := "5a64d213f0f668140ae4460a89989efdb804172df0a434f45d5795ce32db9ff1", func := "bellcrank/bellcranklaw13.BceKeeps", spec := "bceKeeps", unfollowed := true, recurses := true, plainKeys := false, apart := false }
def BceKeepsSaid : Prop := bceKeepsRow.holds Try.pinned (OpenSpec.ofChange bceKeepsSpec)

/-- ITS FALSE NEIGHBOUR: 'it returns false'. Refute it at one input. -/
def bceKeepsWrong : ChangeSpec := { name := "bceKeeps", fn := fun _ => fun
  | [d1, d2] => { results := [.lit (.bool false)], args := [d1, d2] }
  | _ => none }
def BceKeepsWrongFalsely : Prop := bceKeepsRow.holds Try.pinned (OpenSpec.ofChange bceKeepsWrong)

/- THE SECOND FORM. 'bulk': how many values and letters a reading holds, each counted each time it is reached (what is shared counts as often as it is met; a slice's spare places count too). A statement '..UptoSaid' is the law's where the arguments, and the package variables that the reading takes, are together of bulk at most 1048576: NARROWER than '..Said'. Prove '..Said' where nothing that the law and all that it calls make is longer than what came in: it says more and counts as full. Else prove '..UptoSaid'. A law counts once. -/
mutual
def uptoBulk {H : Type} : DataW H → Nat
  | .lit (.string bytes) => bytes.length + 1
  | .lit _ => 1
  | .nil => 1
  | .ptr d => uptoBulk d + 1
  | .slice elems spare => uptoBulkAll elems + uptoBulkAll spare + 1
  | .agg parts => uptoBulkAll parts + 1
  | .iface _ d => uptoBulk d + 1
  | .map entries => uptoBulkEntries entries + 1
  | .held _ => 1
def uptoBulkAll {H : Type} : List (DataW H) → Nat
  | [] => 0
  | d :: r => uptoBulk d + uptoBulkAll r
def uptoBulkEntries {H : Type} : List (Lit × DataW H) → Nat
  | [] => 0
  | x :: r => uptoBulkEntry x + uptoBulkEntries r
def uptoBulkEntry {H : Type} : Lit × DataW H → Nat
  | (.string bytes, d) => bytes.length + uptoBulk d + 1
  | (_, d) => uptoBulk d + 1
 end
def uptoSmall : (H : Type) → List (DataW H) → Bool := fun _ ds => decide (uptoBulkAll ds ≤ 1048576)
def OpenSpec.upto (s : _root_.Go.ChangeSpec) : _root_.Go.OpenSpec := { _root_.Go.OpenSpec.ofChange s with cond := some uptoSmall }

/-- 'bellcranklaw13.BceRight', WHERE WHAT IT READS IS OF BULK AT MOST 1048576: true; the input reads as it did. -/
def bceRightUptoRow : OpenClaim := { program := "ytcpncecdegmliaa", sum := "5a64d213f0f668140ae4460a89989efdb804172df0a434f45d5795ce32db9ff1", func := "bellcrank/bellcranklaw13.BceRight", spec := "bceRight", unfollowed := true, recurses := true, plainKeys := false, apart := false, narrowed := true }
def BceRightUptoSaid : Prop := bceRightUptoRow.holds Try.pinned (OpenSpec.upto bceRightSpec)

/-- 'bellcranklaw13.BceApart', WHERE WHAT IT READS IS OF BULK AT MOST 1048576: true; the input reads as it did. -/
def bceApartUptoRow : OpenClaim := { program := "ytcpncecdegmliaa", sum := "5a64d213f0f668140ae4460a89989efdb804172df0a434f45d5795ce32db9ff1", func := "bellcrank/bellcranklaw13.BceApart", spec := "bceApart", unfollowed := true, recurses := true, plainKeys := false, apart := false, narrowed := true }
def BceApartUptoSaid : Prop := bceApartUptoRow.holds Try.pinned (OpenSpec.upto bceApartSpec)

/-- 'bellcranklaw13.BceKeeps', WHERE WHAT IT READS IS OF BULK AT MOST 1048576: true; the input reads as it did. -/
def bceKeepsUptoRow : OpenClaim := { program := "ytcpncecdegmliaa", sum := "5a64d213f0f668140ae4460a89989efdb804172df0a434f45d5795ce32db9ff1", func := "bellcrank/bellcranklaw13.BceKeeps", spec := "bceKeeps", unfollowed := true, recurses := true, plainKeys := false, apart := false, narrowed := true }
def BceKeepsUptoSaid : Prop := bceKeepsUptoRow.holds Try.pinned (OpenSpec.upto bceKeepsSpec)

end Rows
end Go.Proofs.Ytcpncecdegmliaa
