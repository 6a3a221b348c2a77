/-
  No cell of these rows narrows 'for every input' (looked for: loops, veiled, ifaces, maps, wideKeys, modest, calm, conditions, laid).
  DERIVED. THE GIVEN ROWS OF THIS SEAT. 7 by the template 'for every input the law returns true; each argument reads behind the call as it read before'; 0 by the template 'total and deterministic' (their statements: YtenhhokhkkfgbaaGreatTotals.lean).
  GIVEN WITH THE SEED: the statements are not yours to turn. If you find one false, say at which input.
  Laid BY PROGRAM, IN A SANDBOX (cutbox-rows.mjs): the forced cells as the released guide's own fill.sh prints them over the translation 22f808a3a155fdb7… (all of the seat's roots in one cut). By AI agents, Wed Nov 11 2026. No macro, syntax, notation, axiom, sorry.
-/
import Derived.Test.YtenhhokhkkfgbaaGreatChecked
import GoSem.Claim
import GoSem.ClaimJoined
import GoSem.ClaimMapViews
import Derived.JoinedTies
import Derived.KernelRfl
namespace Go.Proofs.YtenhhokhkkfgbaaGreat
/- THE CELL 'sum', in the pinned program and in every row, IS THE sha256 OF THE DUMP (.gsa) THAT YtenhhokhkkfgbaaGreatProg.lean LOADS. Nothing in Lean hashes anything: it is a label: what it is worth is what the hold of that sum in a sandbox is worth. -/
noncomputable def Tryz.pinned : Pinned := { name := "ytenhhokhkkfgbaagreat", sum := "22f808a3a155fdb7499532276351404c1e542ccb481d4465ae908ea4a8bc2516", checked := Tryz.checked }
namespace Rows
def none {H : Type} : Left H := { results := [], args := [] }

/-- 'bellcranklaw15.DceTurns': WHATEVER THE INPUT: true; the input reads as it did. -/
def dceTurnsSpec : ChangeSpec := { name := "dceTurns", fn := fun _ => fun
  | [d1, d2] => { results := [.lit (.bool true)], args := [d1, d2] }
  | _ => none }
def dceTurnsRow : OpenClaim := { program := "ytenhhokhkkfgbaagreat", sum := "22f808a3a155fdb7499532276351404c1e542ccb481d4465ae908ea4a8bc2516", func := "bellcrank/bellcranklaw15.DceTurns", spec := "dceTurns", unfollowed := true, recurses := true, apart := false }
def DceTurnsSaid : Prop := dceTurnsRow.holds Tryz.pinned (OpenSpec.ofChange dceTurnsSpec)

/-- ITS FALSE NEIGHBOUR: 'it returns false'. Refute it at one input. -/
def dceTurnsWrong : ChangeSpec := { name := "dceTurns", fn := fun _ => fun
  | [d1, d2] => { results := [.lit (.bool false)], args := [d1, d2] }
  | _ => none }
def DceTurnsWrongFalsely : Prop := dceTurnsRow.holds Tryz.pinned (OpenSpec.ofChange dceTurnsWrong)

/-- 'bellcranklaw15.DceRight': WHATEVER THE INPUT: true; the input reads as it did. -/
def dceRightSpec : ChangeSpec := { name := "dceRight", fn := fun _ => fun
  | [d1, d2] => { results := [.lit (.bool true)], args := [d1, d2] }
  | _ => none }
def dceRightRow : OpenClaim := { program := "ytenhhokhkkfgbaagreat", sum := "22f808a3a155fdb7499532276351404c1e542ccb481d4465ae908ea4a8bc2516", func := "bellcrank/bellcranklaw15.DceRight", spec := "dceRight", unfollowed := true, recurses := true, apart := false }
def DceRightSaid : Prop := dceRightRow.holds Tryz.pinned (OpenSpec.ofChange dceRightSpec)

/-- ITS FALSE NEIGHBOUR: 'it returns false'. Refute it at one input. -/
def dceRightWrong : ChangeSpec := { name := "dceRight", fn := fun _ => fun
  | [d1, d2] => { results := [.lit (.bool false)], args := [d1, d2] }
  | _ => none }
def DceRightWrongFalsely : Prop := dceRightRow.holds Tryz.pinned (OpenSpec.ofChange dceRightWrong)

/-- 'bellcranklaw15.DceMeans': WHATEVER THE INPUT: true; the input reads as it did. -/
def dceMeansSpec : ChangeSpec := { name := "dceMeans", fn := fun _ => fun
  | [d1, d2] => { results := [.lit (.bool true)], args := [d1, d2] }
  | _ => none }
def dceMeansRow : OpenClaim := { program := "ytenhhokhkkfgbaagreat", sum := "22f808a3a155fdb7499532276351404c1e542ccb481d4465ae908ea4a8bc2516", func := "bellcrank/bellcranklaw15.DceMeans", spec := "dceMeans", unfollowed := true, recurses := true, apart := false }
def DceMeansSaid : Prop := dceMeansRow.holds Tryz.pinned (OpenSpec.ofChange dceMeansSpec)

/-- ITS FALSE NEIGHBOUR: 'it returns false'. Refute it at one input. -/
def dceMeansWrong : ChangeSpec := { name := "dceMeans", fn := fun _ => fun
  | [d1, d2] => { results := [.lit (.bool false)], args := [d1, d2] }
  | _ => none }
def DceMeansWrongFalsely : Prop := dceMeansRow.holds Tryz.pinned (OpenSpec.ofChange dceMeansWrong)

/-- 'bellcranklaw15.DceOwn': WHATEVER THE INPUT: true; the input reads as it did. -/
def dceOwnSpec : ChangeSpec := { name := "dceOwn", fn := fun _ => fun
  | [d1, d2] => { results := [.lit (.bool true)], args := [d1, d2] }
  | _ => none }
def dceOwnRow : OpenClaim := { program := "ytenhhokhkkfgbaagreat", sum := "22f808a3a155fdb7499532276351404c1e542ccb481d4465ae908ea4a8bc2516", func := "bellcrank/bellcranklaw15.DceOwn", spec := "dceOwn", unfollowed := true, recurses := true, apart := false }
def DceOwnSaid : Prop := dceOwnRow.holds Tryz.pinned (OpenSpec.ofChange dceOwnSpec)

/-- ITS FALSE NEIGHBOUR: 'it returns false'. Refute it at one input. -/
def dceOwnWrong : ChangeSpec := { name := "dceOwn", fn := fun _ => fun
  | [d1, d2] => { results := [.lit (.bool false)], args := [d1, d2] }
  | _ => none }
def DceOwnWrongFalsely : Prop := dceOwnRow.holds Tryz.pinned (OpenSpec.ofChange dceOwnWrong)

/-- 'bellcranklaw15.DceNeeds': WHATEVER THE INPUT: true; the input reads as it did. -/
def dceNeedsSpec : ChangeSpec := { name := "dceNeeds", fn := fun _ => fun
  | [d1, d2] => { results := [.lit (.bool true)], args := [d1, d2] }
  | _ => none }
def dceNeedsRow : OpenClaim := { program := "ytenhhokhkkfgbaagreat", sum := "22f808a3a155fdb7499532276351404c1e542ccb481d4465ae908ea4a8bc2516", func := "bellcrank/bellcranklaw15.DceNeeds", spec := "dceNeeds", unfollowed := true, recurses := true, apart := false }
def DceNeedsSaid : Prop := dceNeedsRow.holds Tryz.pinned (OpenSpec.ofChange dceNeedsSpec)

/-- ITS FALSE NEIGHBOUR: 'it returns false'. Refute it at one input. -/
def dceNeedsWrong : ChangeSpec := { name := "dceNeeds", fn := fun _ => fun
  | [d1, d2] => { results := [.lit (.bool false)], args := [d1, d2] }
  | _ => none }
def DceNeedsWrongFalsely : Prop := dceNeedsRow.holds Tryz.pinned (OpenSpec.ofChange dceNeedsWrong)

/-- 'bellcranklaw15.DceAll': WHATEVER THE INPUT: true; the input reads as it did. -/
def dceAllSpec : ChangeSpec := { name := "dceAll", fn := fun _ => fun
  | [d1, d2] => { results := [.lit (.bool true)], args := [d1, d2] }
  | _ => none }
def dceAllRow : OpenClaim := { program := "ytenhhokhkkfgbaagreat", sum := "22f808a3a155fdb7499532276351404c1e542ccb481d4465ae908ea4a8bc2516", func := "bellcrank/bellcranklaw15.DceAll", spec := "dceAll", unfollowed := true, recurses := true, apart := false }
def DceAllSaid : Prop := dceAllRow.holds Tryz.pinned (OpenSpec.ofChange dceAllSpec)

/-- ITS FALSE NEIGHBOUR: 'it returns false'. Refute it at one input. -/
def dceAllWrong : ChangeSpec := { name := "dceAll", fn := fun _ => fun
  | [d1, d2] => { results := [.lit (.bool false)], args := [d1, d2] }
  | _ => none }
def DceAllWrongFalsely : Prop := dceAllRow.holds Tryz.pinned (OpenSpec.ofChange dceAllWrong)

/-- 'bellcranklaw15.DceKeeps': WHATEVER THE INPUT: true; the input reads as it did. -/
def dceKeepsSpec : ChangeSpec := { name := "dceKeeps", fn := fun _ => fun
  | [d1, d2] => { results := [.lit (.bool true)], args := [d1, d2] }
  | _ => none }
def dceKeepsRow : OpenClaim := { program := "ytenhhokhkkfgbaagreat", sum := "22f808a3a155fdb7499532276351404c1e542ccb481d4465ae908ea4a8bc2516", func := "bellcrank/bellcranklaw15.DceKeeps", spec := "dceKeeps", unfollowed := true, recurses := true, apart := false }
def DceKeepsSaid : Prop := dceKeepsRow.holds Tryz.pinned (OpenSpec.ofChange dceKeepsSpec)

/-- ITS FALSE NEIGHBOUR: 'it returns false'. Refute it at one input. -/
def dceKeepsWrong : ChangeSpec := { name := "dceKeeps", fn := fun _ => fun
  | [d1, d2] => { results := [.lit (.bool false)], args := [d1, d2] }
  | _ => none }
def DceKeepsWrongFalsely : Prop := dceKeepsRow.holds Tryz.pinned (OpenSpec.ofChange dceKeepsWrong)

/- THE SECOND FORM. 'bulk': how many values and letters a reading holds, each counted each time it is reached (what is shared counts as often as it is met; a slice's spare places count too). A statement '..UptoSaid' is the law's where the arguments, and the package variables that the reading takes, are together of bulk at most 1048576: NARROWER than '..Said'. Prove '..Said' where nothing that the law and all that it calls make is longer than what came in: it says more and counts as full. Else prove '..UptoSaid'. A law counts once. -/
mutual
def uptoBulk {H : Type} : DataW H → Nat
  | .lit (.string bytes) => bytes.length + 1
  | .lit _ => 1
  | .nil => 1
  | .ptr d => uptoBulk d + 1
  | .slice elems spare => uptoBulkAll elems + uptoBulkAll spare + 1
  | .agg parts => uptoBulkAll parts + 1
  | .iface _ d => uptoBulk d + 1
  | .map entries => uptoBulkEntries entries + 1
  | .held _ => 1
def uptoBulkAll {H : Type} : List (DataW H) → Nat
  | [] => 0
  | d :: r => uptoBulk d + uptoBulkAll r
def uptoBulkEntries {H : Type} : List (Lit × DataW H) → Nat
  | [] => 0
  | x :: r => uptoBulkEntry x + uptoBulkEntries r
def uptoBulkEntry {H : Type} : Lit × DataW H → Nat
  | (.string bytes, d) => bytes.length + uptoBulk d + 1
  | (_, d) => uptoBulk d + 1
 end
def uptoSmall : (H : Type) → List (DataW H) → Bool := fun _ ds => decide (uptoBulkAll ds ≤ 1048576)
def OpenSpec.upto (s : _root_.Go.ChangeSpec) : _root_.Go.OpenSpec := { _root_.Go.OpenSpec.ofChange s with cond := some uptoSmall }

/-- 'bellcranklaw15.DceTurns', WHERE WHAT IT READS IS OF BULK AT MOST 1048576: true; the input reads as it did. -/
def dceTurnsUptoRow : OpenClaim := { program := "ytenhhokhkkfgbaagreat", sum := "22f808a3a155fdb7499532276351404c1e542ccb481d4465ae908ea4a8bc2516", func := "bellcrank/bellcranklaw15.DceTurns", spec := "dceTurns", unfollowed := true, recurses := true, apart := false, narrowed := true }
def DceTurnsUptoSaid : Prop := dceTurnsUptoRow.holds Tryz.pinned (OpenSpec.upto dceTurnsSpec)

/-- 'bellcranklaw15.DceRight', WHERE WHAT IT READS IS OF BULK AT MOST 1048576: true; the input reads as it did. -/
def dceRightUptoRow : OpenClaim := { program := "ytenhhokhkkfgbaagreat", sum := "22f808a3a155fdb7499532276351404c1e542ccb481d4465ae908ea4a8bc2516", func := "bellcrank/bellcranklaw15.DceRight", spec := "dceRight", unfollowed := true, recurses := true, apart := false, narrowed := true }
def DceRightUptoSaid : Prop := dceRightUptoRow.holds Tryz.pinned (OpenSpec.upto dceRightSpec)

/-- 'bellcranklaw15.DceMeans', WHERE WHAT IT READS IS OF BULK AT MOST 1048576: true; the input reads as it did. -/
def dceMeansUptoRow : OpenClaim := { program := "ytenhhokhkkfgbaagreat", sum := "22f808a3a155fdb7499532276351404c1e542ccb481d4465ae908ea4a8bc2516", func := "bellcrank/bellcranklaw15.DceMeans", spec := "dceMeans", unfollowed := true, recurses := true, apart := false, narrowed := true }
def DceMeansUptoSaid : Prop := dceMeansUptoRow.holds Tryz.pinned (OpenSpec.upto dceMeansSpec)

/-- 'bellcranklaw15.DceOwn', WHERE WHAT IT READS IS OF BULK AT MOST 1048576: true; the input reads as it did. -/
def dceOwnUptoRow : OpenClaim := { program := "ytenhhokhkkfgbaagreat", sum := "22f808a3a155fdb7499532276351404c1e542ccb481d4465ae908ea4a8bc2516", func := "bellcrank/bellcranklaw15.DceOwn", spec := "dceOwn", unfollowed := true, recurses := true, apart := false, narrowed := true }
def DceOwnUptoSaid : Prop := dceOwnUptoRow.holds Tryz.pinned (OpenSpec.upto dceOwnSpec)

/-- 'bellcranklaw15.DceNeeds', WHERE WHAT IT READS IS OF BULK AT MOST 1048576: true; the input reads as it did. -/
def dceNeedsUptoRow : OpenClaim := { program := "ytenhhokhkkfgbaagreat", sum := "22f808a3a155fdb7499532276351404c1e542ccb481d4465ae908ea4a8bc2516", func := "bellcrank/bellcranklaw15.DceNeeds", spec := "dceNeeds", unfollowed := true, recurses := true, apart := false, narrowed := true }
def DceNeedsUptoSaid : Prop := dceNeedsUptoRow.holds Tryz.pinned (OpenSpec.upto dceNeedsSpec)

/-- 'bellcranklaw15.DceAll', WHERE WHAT IT READS IS OF BULK AT MOST 1048576: true; the input reads as it did. -/
def dceAllUptoRow : OpenClaim := { program := "ytenhhokhkkfgbaagreat", sum := "22f808a3a155fdb7499532276351404c1e542ccb481d4465ae908ea4a8bc2516", func := "bellcrank/bellcranklaw15.DceAll", spec := "dceAll", unfollowed := true, recurses := true, apart := false, narrowed := true }
def DceAllUptoSaid : Prop := dceAllUptoRow.holds Tryz.pinned (OpenSpec.upto dceAllSpec)

/-- 'bellcranklaw15.DceKeeps', WHERE WHAT IT READS IS OF BULK AT MOST 1048576: true; the input reads as it did. -/
def dceKeepsUptoRow : OpenClaim := { program := "ytenhhokhkkfgbaagreat", sum := "22f808a3a155fdb7499532276351404c1e542ccb481d4465ae908ea4a8bc2516", func := "bellcrank/bellcranklaw15.DceKeeps", spec := "dceKeeps", unfollowed := true, recurses := true, apart := false, narrowed := true }
def DceKeepsUptoSaid : Prop := dceKeepsUptoRow.holds Tryz.pinned (OpenSpec.upto dceKeepsSpec)

end Rows
end Go.Proofs.YtenhhokhkkfgbaaGreat
