/-
  No cell of these rows narrows 'for every input' (looked for: loops, veiled, ifaces, maps, wideKeys, modest, calm, conditions, laid).
  DERIVED. THE GIVEN ROWS OF THIS SEAT. 4 by the template 'for every input the law returns true; each argument reads behind the call as it read before'; 0 by the template 'total and deterministic' (their statements: YtmfpoangempgaaaTotals.lean).
  GIVEN WITH THE SEED: the statements are not yours to turn. If you find one false, say at which input.
  Laid BY PROGRAM, IN A SANDBOX (cutbox-rows.mjs): the forced cells as the released guide's own fill.sh prints them over the translation 1e664ecbbc6b2f71… (all of the seat's roots in one cut). By AI agents, Wed Nov 11 2026. No macro, syntax, notation, axiom, sorry.
-/
import Derived.Test.YtmfpoangempgaaaChecked
import GoSem.Claim
import GoSem.ClaimJoined
import GoSem.ClaimMapViews
import Derived.JoinedTies
import Derived.KernelRfl
namespace Go.Proofs.Ytmfpoangempgaaa
/- THE CELL 'sum', in the pinned program and in every row, IS THE sha256 OF THE DUMP (.gsa) THAT YtmfpoangempgaaaProg.lean LOADS. Nothing in Lean hashes anything: it is a label: what it is worth is what the hold of that sum in a sandbox is worth. -/
noncomputable def Try.pinned : Pinned := { name := "ytmfpoangempgaaa", sum := "1e664ecbbc6b2f71b530e3b1aa661067a9bc89a7d6e361e501a6339cdfa6248a", checked := Try.checked }
namespace Rows
def none {H : Type} : Left H := { results := [], args := [] }

/-- 'bellcranklaw08.SsaSames': WHATEVER THE INPUT: true; the input reads as it did. -/
def ssaSamesSpec : ChangeSpec := { name := "ssaSames", fn := fun _ => fun
  | [d1, d2] => { results := [.lit (.bool true)], args := [d1, d2] }
  | _ => none }
def ssaSamesRow : OpenClaim := { program := "ytmfpoangempgaaa", sum := "1e664ecbbc6b2f71b530e3b1aa661067a9bc89a7d6e361e501a6339cdfa6248a", func := "bellcrank/bellcranklaw08.SsaSames", spec := "ssaSames", unfollowed := true, recurses := true, apart := false }
def SsaSamesSaid : Prop := ssaSamesRow.holds Try.pinned (OpenSpec.ofChange ssaSamesSpec)

/-- ITS FALSE NEIGHBOUR: 'it returns false'. Refute it at one input. -/
def ssaSamesWrong : ChangeSpec := { name := "ssaSames", fn := fun _ => fun
  | [d1, d2] => { results := [.lit (.bool false)], args := [d1, d2] }
  | _ => none }
def SsaSamesWrongFalsely : Prop := ssaSamesRow.holds Try.pinned (OpenSpec.ofChange ssaSamesWrong)

/-- 'bellcranklaw08.SsaMore': WHATEVER THE INPUT: true; the input reads as it did. -/
def ssaMoreSpec : ChangeSpec := { name := "ssaMore", fn := fun _ => fun
  | [d1, d2, d3] => { results := [.lit (.bool true)], args := [d1, d2, d3] }
  | _ => none }
def ssaMoreRow : OpenClaim := { program := "ytmfpoangempgaaa", sum := "1e664ecbbc6b2f71b530e3b1aa661067a9bc89a7d6e361e501a6339cdfa6248a", func := "bellcrank/bellcranklaw08.SsaMore", spec := "ssaMore", unfollowed := true, recurses := true, apart := false }
def SsaMoreSaid : Prop := ssaMoreRow.holds Try.pinned (OpenSpec.ofChange ssaMoreSpec)

/-- ITS FALSE NEIGHBOUR: 'it returns false'. Refute it at one input. -/
def ssaMoreWrong : ChangeSpec := { name := "ssaMore", fn := fun _ => fun
  | [d1, d2, d3] => { results := [.lit (.bool false)], args := [d1, d2, d3] }
  | _ => none }
def SsaMoreWrongFalsely : Prop := ssaMoreRow.holds Try.pinned (OpenSpec.ofChange ssaMoreWrong)

/-- 'bellcranklaw08.SsaLess': WHATEVER THE INPUT: true; the input reads as it did. -/
def ssaLessSpec : ChangeSpec := { name := "ssaLess", fn := fun _ => fun
  | [d1, d2, d3] => { results := [.lit (.bool true)], args := [d1, d2, d3] }
  | _ => none }
def ssaLessRow : OpenClaim := { program := "ytmfpoangempgaaa", sum := "1e664ecbbc6b2f71b530e3b1aa661067a9bc89a7d6e361e501a6339cdfa6248a", func := "bellcrank/bellcranklaw08.SsaLess", spec := "ssaLess", unfollowed := true, recurses := true, apart := false }
def SsaLessSaid : Prop := ssaLessRow.holds Try.pinned (OpenSpec.ofChange ssaLessSpec)

/-- ITS FALSE NEIGHBOUR: 'it returns false'. Refute it at one input. -/
def ssaLessWrong : ChangeSpec := { name := "ssaLess", fn := fun _ => fun
  | [d1, d2, d3] => { results := [.lit (.bool false)], args := [d1, d2, d3] }
  | _ => none }
def SsaLessWrongFalsely : Prop := ssaLessRow.holds Try.pinned (OpenSpec.ofChange ssaLessWrong)

/-- 'bellcranklaw08.SsaItself': WHATEVER THE INPUT: true; the input reads as it did. -/
def ssaItselfSpec : ChangeSpec := { name := "ssaItself", fn := fun _ => fun
  | [d] => { results := [.lit (.bool true)], args := [d] }
  | _ => none }
def ssaItselfRow : OpenClaim := { program := "ytmfpoangempgaaa", sum := "1e664ecbbc6b2f71b530e3b1aa661067a9bc89a7d6e361e501a6339cdfa6248a", func := "bellcrank/bellcranklaw08.SsaItself", spec := "ssaItself", unfollowed := true, recurses := true, apart := false }
def SsaItselfSaid : Prop := ssaItselfRow.holds Try.pinned (OpenSpec.ofChange ssaItselfSpec)

/-- ITS FALSE NEIGHBOUR: 'it returns false'. Refute it at one input. -/
def ssaItselfWrong : ChangeSpec := { name := "ssaItself", fn := fun _ => fun
  | [d] => { results := [.lit (.bool false)], args := [d] }
  | _ => none }
def SsaItselfWrongFalsely : Prop := ssaItselfRow.holds Try.pinned (OpenSpec.ofChange ssaItselfWrong)

/- THE SECOND FORM. 'bulk': how many values and letters a reading holds, each counted each time it is reached (what is shared counts as often as it is met; a slice's spare places count too). A statement '..UptoSaid' is the law's where the arguments, and the package variables that the reading takes, are together of bulk at most 1048576: NARROWER than '..Said'. Prove '..Said' where nothing that the law and all that it calls make is longer than what came in: it says more and counts as full. Else prove '..UptoSaid'. A law counts once. -/
mutual
def uptoBulk {H : Type} : DataW H → Nat
  | .lit (.string bytes) => bytes.length + 1
  | .lit _ => 1
  | .nil => 1
  | .ptr d => uptoBulk d + 1
  | .slice elems spare => uptoBulkAll elems + uptoBulkAll spare + 1
  | .agg parts => uptoBulkAll parts + 1
  | .iface _ d => uptoBulk d + 1
  | .map entries => uptoBulkEntries entries + 1
  | .held _ => 1
def uptoBulkAll {H : Type} : List (DataW H) → Nat
  | [] => 0
  | d :: r => uptoBulk d + uptoBulkAll r
def uptoBulkEntries {H : Type} : List (Lit × DataW H) → Nat
  | [] => 0
  | x :: r => uptoBulkEntry x + uptoBulkEntries r
def uptoBulkEntry {H : Type} : Lit × DataW H → Nat
  | (.string bytes, d) => bytes.length + uptoBulk d + 1
  | (_, d) => uptoBulk d + 1
 end
def uptoSmall : (H : Type) → List (DataW H) → Bool := fun _ ds => decide (uptoBulkAll ds ≤ 1048576)
def OpenSpec.upto (s : _root_.Go.ChangeSpec) : _root_.Go.OpenSpec := { _root_.Go.OpenSpec.ofChange s with cond := some uptoSmall }

/-- 'bellcranklaw08.SsaSames', WHERE WHAT IT READS IS OF BULK AT MOST 1048576: true; the input reads as it did. -/
def ssaSamesUptoRow : OpenClaim := { program := "ytmfpoangempgaaa", sum := "1e664ecbbc6b2f71b530e3b1aa661067a9bc89a7d6e361e501a6339cdfa6248a", func := "bellcrank/bellcranklaw08.SsaSames", spec := "ssaSames", unfollowed := true, recurses := true, apart := false, narrowed := true }
def SsaSamesUptoSaid : Prop := ssaSamesUptoRow.holds Try.pinned (OpenSpec.upto ssaSamesSpec)

/-- 'bellcranklaw08.SsaMore', WHERE WHAT IT READS IS OF BULK AT MOST 1048576: true; the input reads as it did. -/
def ssaMoreUptoRow : OpenClaim := { program := "ytmfpoangempgaaa", sum := "1e664ecbbc6b2f71b530e3b1aa661067a9bc89a7d6e361e501a6339cdfa6248a", func := "bellcrank/bellcranklaw08.SsaMore", spec := "ssaMore", unfollowed := true, recurses := true, apart := false, narrowed := true }
def SsaMoreUptoSaid : Prop := ssaMoreUptoRow.holds Try.pinned (OpenSpec.upto ssaMoreSpec)

/-- 'bellcranklaw08.SsaLess', WHERE WHAT IT READS IS OF BULK AT MOST 1048576: true; the input reads as it did. -/
def ssaLessUptoRow : OpenClaim := { program := "ytmfpoangempgaaa", sum := "1e664ecbbc6b2f71b530e3b1aa661067a9bc89a7d6e361e501a6339cdfa6248a", func := "bellcrank/bellcranklaw08.SsaLess", spec := "ssaLess", unfollowed := true, recurses := true, apart := false, narrowed := true }
def SsaLessUptoSaid : Prop := ssaLessUptoRow.holds Try.pinned (OpenSpec.upto ssaLessSpec)

/-- 'bellcranklaw08.SsaItself', WHERE WHAT IT READS IS OF BULK AT MOST 1048576: true; the input reads as it did. -/
def ssaItselfUptoRow : OpenClaim := { program := "ytmfpoangempgaaa", sum := "1e664ecbbc6b2f71b530e3b1aa661067a9bc89a7d6e361e501a6339cdfa6248a", func := "bellcrank/bellcranklaw08.SsaItself", spec := "ssaItself", unfollowed := true, recurses := true, apart := false, narrowed := true }
def SsaItselfUptoSaid : Prop := ssaItselfUptoRow.holds Try.pinned (OpenSpec.upto ssaItselfSpec)

end Rows
end Go.Proofs.Ytmfpoangempgaaa
