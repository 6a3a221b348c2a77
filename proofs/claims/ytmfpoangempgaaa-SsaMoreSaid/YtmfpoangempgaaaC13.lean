import Derived.Test.YtmfpoangempgaaaC12
import Derived.Test.YtmfpoangempgaaaC11
import Derived.Test.YtmfpoangempgaaaProg
import Derived.OpenShut
import Derived.Test.YtmfpoangempgaaaC10
/-
  Part of the proof (texts GSpec, SEnc, SRd, GDom, GDom2, GNat).
-/
set_option linter.unusedVariables false
set_option linter.unusedSimpArgs false
/-
  What the functions of layer 7 compute, in plain Lean.
-/
namespace Go.Vw.G

def okIx (l : List Int) (n : Int) : Prop := 0 ≤ n ∧ n < l.length
instance (l : List Int) (n : Int) : Decidable (okIx l n) := inferInstanceAs (Decidable (_ ∧ _))

/-- Up the list of nearest ones, so many steps at most. -/
def dom1 (l : List Int) (a : Int) : Nat → Int → Bool
  | 0, _ => false
  | n + 1, b => if okIx l b then (if a = b then true else dom1 l a n (l.getD b.toNat 0)) else false

def dominates (l : List Int) (a b : Int) : Bool := if okIx l a then dom1 l a 257 b else false

/-- Not the number of a node. -/
def wild (len : Nat) (n : Int) : Bool := decide (n < 0) || decide ((len : Int) ≤ n)

/-- The first place of one that is told true, from place k on. -/
def find (p : Int → Bool) : List Int → Nat → Int
  | [], _ => -1
  | x :: xs, k => if p x then k else find p xs (k + 1)

theorem find_any (p : Int → Bool) : ∀ (l : List Int) (k : Nat), decide (0 ≤ find p l k) = l.any p
  | [], k => by simp [find]
  | x :: xs, k => by
      cases h : p x
      · simp [find, h, find_any p xs (k + 1)]
      · simp [find, h]

def rowOk (len : Nat) (l : List Int) : Bool := decide (l.length ≤ 128) && !(l.any (wild len))

def right (g : List (List Int)) : Bool := decide (1 ≤ g.length) && decide (g.length ≤ 256) && g.all (rowOk g.length)

end Go.Vw.G

/-
  Functions in SSA form, told plainly; what they read as.
-/
namespace Ss
structure Sig where
  inn : List Int
  out : List Int
deriving DecidableEq, Inhabited
structure Ins where
  op : Int
  n : Int
  args : List Int
  outs : List Int
deriving DecidableEq, Inhabited
structure Edge where
  to : Int
  args : List Int
deriving DecidableEq, Inhabited
structure Term where
  kind : Int
  arg : Int
  to : List Edge
  args : List Int
deriving DecidableEq, Inhabited
structure Block where
  params : List Int
  code : List Ins
  term : Term
deriving DecidableEq, Inhabited
structure Fn where
  sig : Sig
  types : List Int
  blocks : List Block
deriving DecidableEq, Inhabited
structure Env where
  sigs : List Sig
  imports : Int
  globals : List Int
  muts : List Bool
  mem : Bool
deriving DecidableEq, Inhabited

/-- What a number of a machine's word may be. -/
def I64 (n : Int) : Prop := -9223372036854775808 ≤ n ∧ n ≤ 9223372036854775807
def Ints (l : List Int) : Prop := l.length ≤ 140737488355328 ∧ ∀ n ∈ l, I64 n
def Sig.Fits (s : Sig) : Prop := Ints s.inn ∧ Ints s.out
def Ins.Fits (x : Ins) : Prop := I64 x.op ∧ (0 ≤ x.n ∧ x.n < 18446744073709551616) ∧ Ints x.args ∧ Ints x.outs
def Edge.Fits (x : Edge) : Prop := I64 x.to ∧ Ints x.args
def Term.Fits (t : Term) : Prop := I64 t.kind ∧ I64 t.arg ∧ (t.to.length ≤ 140737488355328 ∧ ∀ x ∈ t.to, x.Fits) ∧ Ints t.args
def Block.Fits (b : Block) : Prop := Ints b.params ∧ (b.code.length ≤ 140737488355328 ∧ ∀ x ∈ b.code, x.Fits) ∧ b.term.Fits
def Fn.Fits (f : Fn) : Prop := f.sig.Fits ∧ Ints f.types ∧ (f.blocks.length ≤ 140737488355328 ∧ ∀ b ∈ f.blocks, b.Fits)
def Env.Fits (e : Env) : Prop := (e.sigs.length ≤ 140737488355328 ∧ ∀ s ∈ e.sigs, s.Fits) ∧ I64 e.imports ∧ Ints e.globals ∧ e.muts.length ≤ 140737488355328
end Ss
namespace Go.Vw
def vu (n : Int) : V := .int .u64 n
def encSig (s : Ss.Sig) : V := .agg [vl vint s.inn, vl vint s.out]
def encIns (x : Ss.Ins) : V := .agg [vint x.op, vu x.n, vl vint x.args, vl vint x.outs]
def encEdge (x : Ss.Edge) : V := .agg [vint x.to, vl vint x.args]
def encTerm (t : Ss.Term) : V := .agg [vint t.kind, vint t.arg, vl encEdge t.to, vl vint t.args]
def encBlock (b : Ss.Block) : V := .agg [vl vint b.params, vl encIns b.code, vint b.term.kind, vint b.term.arg, vl encEdge b.term.to, vl vint b.term.args]
def encFn (f : Ss.Fn) : V := .agg [vl vint f.sig.inn, vl vint f.sig.out, vl vint f.types, vl encBlock f.blocks]
def encEnv (e : Ss.Env) : V := .agg [vl encSig e.sigs, vint e.imports, vl vint e.globals, vl V.bool e.muts, .bool e.mem]
theorem encSig_closed (x : Ss.Sig) : (encSig x).closed = true := rfl
theorem encIns_closed (x : Ss.Ins) : (encIns x).closed = true := rfl
theorem encEdge_closed (x : Ss.Edge) : (encEdge x).closed = true := rfl
theorem encBlock_closed (x : Ss.Block) : (encBlock x).closed = true := rfl
theorem encSig_cells (x : Ss.Sig) : (encSig x).cells = [vl vint x.inn, vl vint x.out] := nr rfl
theorem encIns_cells (x : Ss.Ins) : (encIns x).cells = [vint x.op, vu x.n, vl vint x.args, vl vint x.outs] := nr rfl
theorem encEdge_cells (x : Ss.Edge) : (encEdge x).cells = [vint x.to, vl vint x.args] := nr rfl
theorem encBlock_cells (b : Ss.Block) : (encBlock b).cells = [vl vint b.params, vl encIns b.code, vint b.term.kind, vint b.term.arg, vl encEdge b.term.to, vl vint b.term.args] := nr rfl
theorem encSig_nc (x : Ss.Sig) : (encSig x).ncells = 2 := nr rfl
theorem encIns_nc (x : Ss.Ins) : (encIns x).ncells = 4 := nr rfl
theorem encEdge_nc (x : Ss.Edge) : (encEdge x).ncells = 2 := nr rfl
theorem encBlock_nc (x : Ss.Block) : (encBlock x).ncells = 6 := nr rfl
theorem encSig_eq (s : Ss.Sig) : encSig s = .agg [vl vint s.inn, vl vint s.out] := nr rfl
theorem encIns_eq (x : Ss.Ins) : encIns x = .agg [vint x.op, vu x.n, vl vint x.args, vl vint x.outs] := nr rfl
theorem encEdge_eq (x : Ss.Edge) : encEdge x = .agg [vint x.to, vl vint x.args] := nr rfl
theorem encTerm_eq (t : Ss.Term) : encTerm t = .agg [vint t.kind, vint t.arg, vl encEdge t.to, vl vint t.args] := nr rfl
theorem encBlock_eq (b : Ss.Block) : encBlock b = .agg [vl vint b.params, vl encIns b.code, vint b.term.kind, vint b.term.arg, vl encEdge b.term.to, vl vint b.term.args] := nr rfl
theorem encFn_eq (f : Ss.Fn) : encFn f = .agg [vl vint f.sig.inn, vl vint f.sig.out, vl vint f.types, vl encBlock f.blocks] := nr rfl
theorem encEnv_eq (e : Ss.Env) : encEnv e = .agg [vl encSig e.sigs, vint e.imports, vl vint e.globals, vl V.bool e.muts, .bool e.mem] := nr rfl
theorem one_vu (n : Int) : (vu n).one = true := nr rfl
theorem resV_one (t : Nat) (σ : Fr) : resV [t] σ = σ.look t := nr rfl
theorem resV_two (t u : Nat) (σ : Fr) : resV [t, u] σ = .tuple [σ.look t, σ.look u] := nr rfl
theorem resV_3 (t u v : Nat) (σ : Fr) : resV [t, u, v] σ = .tuple [σ.look t, σ.look u, σ.look v] := nr rfl
theorem resV_4 (t u v w : Nat) (σ : Fr) : resV [t, u, v, w] σ = .tuple [σ.look t, σ.look u, σ.look v, σ.look w] := nr rfl
theorem resV_nil (σ : Fr) : resV [] σ = .tuple [] := nr rfl
attribute [simp] resV_one resV_two resV_3 resV_4 resV_nil encSig_nc encIns_nc encEdge_nc encBlock_nc encSig_eq encIns_eq encEdge_eq encTerm_eq encBlock_eq encFn_eq encEnv_eq one_vu vu
theorem vcall_useH {P : Program} {z : Option ZZ} {σ : Fr} {S : Store} {K : Fr → Store → Prop} {d : Option Nat} {f : FuncId} {args : List Arg} {xs : List V} {r : List CO} {X : V} (h : VPure P f xs X) (ha : args.map (ev σ) = xs) (H : vsegG P z r K (σ.put d X) S) (hz : noW z d = true := by rfl) : vsegG P z (⟨d, none, .call f args⟩ :: r) K σ S := vcall_use ha h H hz
theorem vcallv_useH {P : Program} {z : Option ZZ} {σ : Fr} {S : Store} {K : Fr → Store → Prop} {d : Option Nat} {g : FuncId} {caps : List V} {fz : Arg} {args : List Arg} {xs : List V} {r : List CO} {X : V} (h : VPure P g xs X) (hf : ev σ fz = .func g caps) (hc : callable P g = true) (ha : args.map (ev σ) ++ caps = xs) (H : vsegG P z r K (σ.put d X) S) (hz : noW z d = true := by rfl) : vsegG P z (⟨d, none, .callv fz args⟩ :: r) K σ S := vcallv_use hf hc ha h H hz
/-- One of the list's. -/
theorem wrapNat {k n : Nat} (h : k < n) (hn : n < 2 ^ 63) : IntKind.i64.wrap ((k : Int) + 1) = (k : Int) + 1 := wrap_i64 (by omega) (by omega)
end Go.Vw

namespace Go.Vw
open Go.Proofs Go.RowKit Go.ChangeShapes Go.WideShapes
set_option maxRecDepth 100000

theorem few_of {l b : Nat} (hb : 1 ≤ b) (h : l * b ≤ 140737488351232) : l ≤ 140737488355328 := by
  have : l * 1 ≤ l * b := Nat.mul_le_mul_left _ hb
  omega
theorem i64_of {n : Int} (h : (Lit.int .i64 n).wf = true) : Ss.I64 n := bounds_i64 h

theorem rdInt : ReadsC Try.prog 3 (fun n : Int => [vint n]) Ss.I64 :=
  (ReadsC.int Try.underlying3).map id (fun _ => rfl) (fun n h => i64_of h)
theorem rdU64 : ReadsC Try.prog 45 (fun n : Int => [vu n]) (fun n => 0 ≤ n ∧ n < 18446744073709551616) :=
  (ReadsC.int Try.underlying45).map id (fun _ => rfl) (fun n h => by have h1 := bounds_u64 h; simp only [id]; omega)
theorem rdBool : ReadsC Try.prog 4 (fun b : Bool => [.bool b]) (fun _ => True) := ReadsC.bool Try.underlying4
theorem rdInts : ReadsC Try.prog 22 (fun l : List Int => [vl vint l]) Ss.Ints :=
  (ReadsC.slice vint Try.underlying22 rdInt (of_decide_eq_true (by kernel_rfl)) (fun _ => .inr rfl)).map id (fun _ => rfl) (fun l h => ⟨few_of (of_decide_eq_true (by kernel_rfl)) h.1.2, h.2⟩)
theorem rdBools : ReadsC Try.prog 32 (fun l : List Bool => [vl V.bool l]) (fun l => l.length ≤ 140737488355328) :=
  (ReadsC.slice V.bool Try.underlying32 rdBool (of_decide_eq_true (by kernel_rfl)) (fun _ => .inr rfl)).map id (fun _ => rfl) (fun l h => few_of (of_decide_eq_true (by kernel_rfl)) h.1.2)
theorem rdSig : ReadsC Try.prog 24 (fun s : Ss.Sig => [vl vint s.inn, vl vint s.out]) Ss.Sig.Fits :=
  (ReadsC.struct Try.underlying24 (by kernel_rfl) (ReadsF.cons (by kernel_rfl) rdInts (ReadsF.cons (by kernel_rfl) rdInts ReadsF.nil))).map (fun p => (⟨p.1, p.2.1⟩ : Ss.Sig)) (fun _ => rfl) (fun p h => ⟨h.1, h.2.1⟩)
theorem rdSigs : ReadsC Try.prog 31 (fun l : List Ss.Sig => [vl encSig l]) (fun l => l.length ≤ 140737488355328 ∧ ∀ s ∈ l, s.Fits) :=
  (ReadsC.slice encSig Try.underlying31 rdSig (of_decide_eq_true (by kernel_rfl)) (fun _ => .inl rfl)).map id (fun _ => rfl) (fun l h => ⟨few_of (of_decide_eq_true (by kernel_rfl)) h.1.2, h.2⟩)
theorem rdIns : ReadsC Try.prog 47 (fun x : Ss.Ins => [vint x.op, vu x.n, vl vint x.args, vl vint x.outs]) Ss.Ins.Fits :=
  (ReadsC.struct Try.underlying47 (by kernel_rfl) (ReadsF.cons (by kernel_rfl) rdInt (ReadsF.cons (by kernel_rfl) rdU64 (ReadsF.cons (by kernel_rfl) rdInts (ReadsF.cons (by kernel_rfl) rdInts ReadsF.nil))))).map (fun p => (⟨p.1, p.2.1, p.2.2.1, p.2.2.2.1⟩ : Ss.Ins)) (fun _ => rfl) (fun p h => ⟨h.1, h.2.1, h.2.2.1, h.2.2.2.1⟩)
theorem rdInss : ReadsC Try.prog 39 (fun l : List Ss.Ins => [vl encIns l]) (fun l => l.length ≤ 140737488355328 ∧ ∀ s ∈ l, s.Fits) :=
  (ReadsC.slice encIns Try.underlying39 rdIns (of_decide_eq_true (by kernel_rfl)) (fun _ => .inl rfl)).map id (fun _ => rfl) (fun l h => ⟨few_of (of_decide_eq_true (by kernel_rfl)) h.1.2, h.2⟩)
theorem rdEdge : ReadsC Try.prog 52 (fun x : Ss.Edge => [vint x.to, vl vint x.args]) Ss.Edge.Fits :=
  (ReadsC.struct Try.underlying52 (by kernel_rfl) (ReadsF.cons (by kernel_rfl) rdInt (ReadsF.cons (by kernel_rfl) rdInts ReadsF.nil))).map (fun p => (⟨p.1, p.2.1⟩ : Ss.Edge)) (fun _ => rfl) (fun p h => ⟨h.1, h.2.1⟩)
theorem rdEdges : ReadsC Try.prog 40 (fun l : List Ss.Edge => [vl encEdge l]) (fun l => l.length ≤ 140737488355328 ∧ ∀ s ∈ l, s.Fits) :=
  (ReadsC.slice encEdge Try.underlying40 rdEdge (of_decide_eq_true (by kernel_rfl)) (fun _ => .inl rfl)).map id (fun _ => rfl) (fun l h => ⟨few_of (of_decide_eq_true (by kernel_rfl)) h.1.2, h.2⟩)
theorem rdTerm : ReadsC Try.prog 42 (fun t : Ss.Term => [vint t.kind, vint t.arg, vl encEdge t.to, vl vint t.args]) Ss.Term.Fits :=
  (ReadsC.struct Try.underlying42 (by kernel_rfl) (ReadsF.cons (by kernel_rfl) rdInt (ReadsF.cons (by kernel_rfl) rdInt (ReadsF.cons (by kernel_rfl) rdEdges (ReadsF.cons (by kernel_rfl) rdInts ReadsF.nil))))).map (fun p => (⟨p.1, p.2.1, p.2.2.1, p.2.2.2.1⟩ : Ss.Term)) (fun _ => rfl) (fun p h => ⟨h.1, h.2.1, h.2.2.1, h.2.2.2.1⟩)
theorem rdBlock : ReadsC Try.prog 44 (fun b : Ss.Block => [vl vint b.params, vl encIns b.code, vint b.term.kind, vint b.term.arg, vl encEdge b.term.to, vl vint b.term.args]) Ss.Block.Fits :=
  (ReadsC.struct Try.underlying44 (by kernel_rfl) (ReadsF.cons (by kernel_rfl) rdInts (ReadsF.cons (by kernel_rfl) rdInss (ReadsF.cons (by kernel_rfl) rdTerm ReadsF.nil)))).map (fun p => (⟨p.1, p.2.1, p.2.2.1⟩ : Ss.Block)) (fun _ => rfl) (fun p h => ⟨h.1, h.2.1, h.2.2.1⟩)
theorem rdBlocks : ReadsC Try.prog 25 (fun l : List Ss.Block => [vl encBlock l]) (fun l => l.length ≤ 140737488355328 ∧ ∀ s ∈ l, s.Fits) :=
  (ReadsC.slice encBlock Try.underlying25 rdBlock (of_decide_eq_true (by kernel_rfl)) (fun _ => .inl rfl)).map id (fun _ => rfl) (fun l h => ⟨few_of (of_decide_eq_true (by kernel_rfl)) h.1.2, h.2⟩)
theorem rdFn : ReadsC Try.prog 27 (fun f : Ss.Fn => [vl vint f.sig.inn, vl vint f.sig.out, vl vint f.types, vl encBlock f.blocks]) Ss.Fn.Fits :=
  (ReadsC.struct Try.underlying27 (by kernel_rfl) (ReadsF.cons (by kernel_rfl) rdSig (ReadsF.cons (by kernel_rfl) rdInts (ReadsF.cons (by kernel_rfl) rdBlocks ReadsF.nil)))).map (fun p => (⟨p.1, p.2.1, p.2.2.1⟩ : Ss.Fn)) (fun _ => rfl) (fun p h => ⟨h.1, h.2.1, h.2.2.1⟩)
theorem rdEnv : ReadsC Try.prog 34 (fun e : Ss.Env => [vl encSig e.sigs, vint e.imports, vl vint e.globals, vl V.bool e.muts, .bool e.mem]) Ss.Env.Fits :=
  (ReadsC.struct Try.underlying34 (by kernel_rfl) (ReadsF.cons (by kernel_rfl) rdSigs (ReadsF.cons (by kernel_rfl) rdInt (ReadsF.cons (by kernel_rfl) rdInts (ReadsF.cons (by kernel_rfl) rdBools (ReadsF.cons (by kernel_rfl) rdBool ReadsF.nil)))))).map (fun p => (⟨p.1, p.2.1, p.2.2.1, p.2.2.2.1, p.2.2.2.2.1⟩ : Ss.Env)) (fun _ => rfl) (fun p h => ⟨h.1, h.2.1, h.2.2.1, h.2.2.2.1⟩)
end Go.Vw

namespace Go.Vw
open Go.Proofs Go.RowKit
set_option maxRecDepth 10000
set_option maxHeartbeats 4000000

end Go.Vw

namespace Go.Vw
open Go.Proofs Go.RowKit
set_option maxRecDepth 10000
set_option maxHeartbeats 4000000

theorem there_v (l : List Int) (n : Int) : VPure Try.prog 92 [vint n, .ref (vl vint l)] (.bool (decide (G.okIx l n))) := by
  intro S
  refine vcalls_gives rfl ?_
  refine vcalls_body (c := bodyOf Try.f92) Try.func92 rfl rfl (by simp [Try.ntmps92]) ?_
  rw [Try.ntmps92]
  repeat refine QS ?_
  refine QR (r:=by conv=>lhs;simp[-List.map_set,QV]) (k:=?_)
  refine QN ?_
  by_cases h0 : 0 ≤ n
  · repeat refine QS ?_
    refine QR (r:=by conv=>lhs;simp[-List.map_set,QV,opLen_vl,h0]) (k:=?_)
    refine QN ?_
    repeat refine QS ?_
    refine vw_retAt rfl ?_
    have : decide (G.okIx l n) = decide (n < (l.length : Int)) := by simp [G.okIx, h0]
    rw [this]
    exact Gives.same (Agree.refl S)
  · repeat refine QS ?_
    refine QR (r:=by conv=>lhs;simp[-List.map_set,QV,opLen_vl,h0]) (k:=?_)
    refine QN ?_
    repeat refine QS ?_
    refine vw_retAt rfl ?_
    have : decide (G.okIx l n) = false := by simp [G.okIx, h0]
    rw [this]
    exact Gives.same (Agree.refl S)

theorem Dominates_v (l : List Int) (a b : Int) (hl : l.length < 2^63) : VPure Try.prog 84 [vl vint l, vint a, vint b] (.bool (G.dominates l a b)) := by
  intro S
  refine vcalls_gives rfl ?_
  refine vcalls_body (c := bodyOf Try.f84) Try.func84 rfl rfl (by simp [Try.ntmps84]) ?_
  rw [Try.ntmps84]
  repeat refine QS ?_
  refine QR (r:=by conv=>lhs;simp[-List.map_set,QV]) (k:=?_)
  refine QN ?_
  refine vw_ghost' 3 rfl (Ghost.box (get_add _ _) (closed1_vl _ _)) (by conv => lhs; simp [Fr.set]) ?_
  have hag : Agree S ((S.add (1, [vl vint l])).del S.nx) := ((Agree.refl S).add _).del (Nat.le_refl _)
  generalize (S.add (1, [vl vint l])).del S.nx = S1 at hag ⊢
  repeat refine QS ?_
  refine QR (r:=by conv=>lhs;simp[-List.map_set,QV]) (k:=?_)
  refine QN ?_
  repeat refine QS ?_
  refine QR (r:=by conv=>lhs;simp[-List.map_set,QV]) (k:=?_)
  refine vcallv_use rfl rfl rfl (there_v l a) ?_
  refine QM (by conv=>lhs;simp[-List.map_set,QV]) ?_
  refine QN ?_
  by_cases ha : G.okIx l a
  · have hfin : G.dominates l a b = G.dom1 l a 257 b := by simp [G.dominates, ha]
    rw [hfin]
    refine vw_condF rfl rfl (by simp [ev, Fr.look, ha]) ?_
    repeat refine QS ?_
    refine vw_skipAt rfl ?_
    repeat refine QS ?_
    refine QR (r:=by conv=>lhs;simp[-List.map_set,QV]) (k:=?_)
    refine QN ?_
    repeat refine QS ?_
    refine vw_blockAt 0 rfl rfl ?_
    repeat refine QS ?_
    refine vw_loopAt [0, 1, 2, 3, 7, 8] rfl (fun n σ S' => ∃ (k : Nat) (c : Int), k ≤ 257 ∧ n = 257 - k ∧ G.dom1 l a (257 - k) c = G.dom1 l a 257 b ∧ σ = [(0, vl vint l), (1, vint a), (2, vint c), (3, .ref (vl vint l)), (7, .func 92 [.ref (vl vint l)]), (8, vnat k)] ∧ S' = S1) 257 ?_ ?_
    · exact ⟨0, b, by omega, rfl, rfl, by simp [Fr.only, Fr.look, vnat, vint], rfl⟩
    · rintro n σ S' ⟨k, c, hk, rfl, hd, rfl, rfl⟩
      by_cases hk6 : k ≤ 256
      · have hst : G.dom1 l a (257 - k) c = if G.okIx l c then (if a = c then true else G.dom1 l a (256 - k) (l.getD c.toNat 0)) else false := by
          rw [show 257 - k = (256 - k) + 1 from by omega, G.dom1]
        have h7 : (k : Int) ≤ 256 := by omega
        repeat refine QS ?_
        refine QR (r:=by conv=>lhs;simp[-List.map_set,QV,h7]) (k:=?_)
        refine vcallv_use rfl rfl rfl (there_v l c) ?_
        refine QM (by conv=>lhs;simp[-List.map_set,QV]) ?_
        refine QN ?_
        by_cases hc : G.okIx l c
        · refine vw_condT rfl rfl (by simp [ev, Fr.look, hc]) ?_
          rw [if_pos hc] at hst
          obtain ⟨hc1, hc2⟩ := hc
          have hcn : c.toNat < l.length := by omega
          repeat refine QS ?_
          refine vw_skipAt rfl ?_
          repeat refine QS ?_
          refine vw_blockAt 1 rfl rfl ?_
          repeat refine QS ?_
          refine QR (r:=by conv=>lhs;simp[-List.map_set,QV]) (k:=?_)
          refine QN ?_
          repeat refine QS ?_
          refine vw_condRun rfl rfl rfl (a = c) (by first | (simp; done) | (simp; omega)) ?_ ?_
          · intro hac
            repeat refine QS ?_
            refine QR (r:=by conv=>lhs;simp[-List.map_set,QV]) (k:=?_)
            refine QN ?_
            repeat refine QS ?_
            refine vw_retAt rfl ?_
            rw [← hd, hst, if_pos hac]
            exact Gives.same hag
          · intro hac
            rw [if_neg hac] at hst
            have hw : IntKind.i64.wrap ((k : Int) + 1) = (k : Int) + 1 := wrap_i64 (by omega) (by omega)
            repeat refine QS ?_
            refine vw_skipAt rfl ?_
            repeat refine QS ?_
            refine QR (r:=by conv=>lhs;simp[-List.map_set,QV,opIndex_vlz,hc1,hcn]) (k:=?_)
            refine QN ?_
            repeat refine QS ?_
            refine QR (r:=by conv=>lhs;simp[-List.map_set,QV,hw]) (k:=?_)
            refine QN ?_
            exact again ⟨Nat.sub_lt_sub_left (by omega) (Nat.lt_succ_self k), k + 1, l[c.toNat], by omega, rfl, by rw [← hd, hst, show 257 - (k + 1) = 256 - k from by omega]; simp [hcn], by simp [Fr.only, Fr.look, vnat, vint], rfl⟩
        · refine vw_condF rfl rfl (by simp [ev, Fr.look, hc]) ?_
          repeat refine QS ?_
          refine vw_exitAt 0 rfl rfl ?_
          repeat refine QS ?_
          refine QR (r:=by conv=>lhs;simp[-List.map_set,QV]) (k:=?_)
          refine QN ?_
          repeat refine QS ?_
          refine vw_retAt rfl ?_
          rw [← hd, hst, if_neg hc]
          exact Gives.same hag
      · have h7 : ¬ (k : Int) ≤ 256 := by omega
        repeat refine QS ?_
        refine QR (r:=by conv=>lhs;simp[-List.map_set,QV,h7]) (k:=?_)
        refine QN ?_
        repeat refine QS ?_
        refine vw_condF rfl rfl rfl ?_
        repeat refine QS ?_
        refine vw_exitAt 0 rfl rfl ?_
        repeat refine QS ?_
        refine QR (r:=by conv=>lhs;simp[-List.map_set,QV]) (k:=?_)
        refine QN ?_
        repeat refine QS ?_
        refine vw_retAt rfl ?_
        rw [← hd, show 257 - k = 0 from by omega]
        exact Gives.same hag
  · have hfin : G.dominates l a b = false := by simp [G.dominates, ha]
    rw [hfin]
    refine vw_condT rfl rfl (by simp [ev, Fr.look, ha]) ?_
    repeat refine QS ?_
    refine QR (r:=by conv=>lhs;simp[-List.map_set,QV]) (k:=?_)
    refine QN ?_
    repeat refine QS ?_
    refine vw_retAt rfl ?_
    exact Gives.same hag
end Go.Vw

/-
  Graphs that may be: lists of lists of numbers of nodes.
-/
namespace Go.Vw.G
open Go.Vw

structure Ok (g : List (List Nat)) : Prop where
  pos : 1 ≤ g.length
  max : g.length ≤ 256
  row : ∀ l ∈ g, l.length ≤ 128
  elt : ∀ l ∈ g, ∀ n ∈ l, n < g.length

def nats (g : List (List Int)) : List (List Nat) := g.map (·.map Int.toNat)

theorem nats_length (g : List (List Int)) : (nats g).length = g.length := by simp [nats]

theorem rowOk_iff {n : Nat} {l : List Int} : rowOk n l = true ↔ l.length ≤ 128 ∧ ∀ x ∈ l, 0 ≤ x ∧ x < n := by
  simp only [rowOk, Bool.and_eq_true, decide_eq_true_eq, Bool.not_eq_true', List.any_eq_false, wild, Bool.or_eq_true, not_or, decide_eq_true_eq]
  constructor
  · rintro ⟨h1, h2⟩; exact ⟨h1, fun x hx => by have := h2 x hx; omega⟩
  · rintro ⟨h1, h2⟩; exact ⟨h1, fun x hx => by have := h2 x hx; omega⟩

theorem right_ok {g : List (List Int)} (h : right g = true) : Ok (nats g) := by
  simp only [right, Bool.and_eq_true, decide_eq_true_eq, List.all_eq_true, rowOk_iff] at h
  obtain ⟨⟨h1, h2⟩, h3⟩ := h
  refine ⟨by rw [nats_length]; exact h1, by rw [nats_length]; exact h2, ?_, ?_⟩
  · intro l hl
    obtain ⟨r, hr, rfl⟩ := List.mem_map.1 hl
    rw [List.length_map]; exact (h3 r hr).1
  · intro l hl n hn
    obtain ⟨r, hr, rfl⟩ := List.mem_map.1 hl
    obtain ⟨x, hx, rfl⟩ := List.mem_map.1 hn
    have := (h3 r hr).2 x hx
    rw [nats_length]; omega

theorem right_enc {g : List (List Int)} (h : right g = true) : vl (vl vint) g = vl (vl vnat) (nats g) := by
  simp only [right, Bool.and_eq_true, decide_eq_true_eq, List.all_eq_true, rowOk_iff] at h
  obtain ⟨_, h3⟩ := h
  unfold vl nats
  simp only [V.list.injEq, List.map_map]
  refine List.map_congr_left fun r hr => ?_
  simp only [Function.comp, List.map_map, V.list.injEq]
  refine List.map_congr_left fun x hx => ?_
  have := (h3 r hr).2 x hx
  simp only [Function.comp, vint, vnat, V.int.injEq, true_and]
  omega

abbrev WS := List Bool × List Nat

/-- The walk in depth: what is met, and what is done. So deep at most. -/
def walk (g : List (List Nat)) : Nat → Nat → WS → Option WS
  | 0, _, _ => none
  | f + 1, n, s => ((g.getD n []).foldlM (fun (s : WS) k => if s.1.getD k false then some s else walk g f k s) ((s.1.set n true, s.2) : WS)).map fun (s : WS) => ((s.1, s.2 ++ [n]) : WS)

def kids (g : List (List Nat)) (f : Nat) (l : List Nat) (s : WS) : Option WS := l.foldlM (fun (s : WS) k => if s.1.getD k false then some s else walk g f k s) s

theorem walk_succ (g : List (List Nat)) (f n : Nat) (s : WS) : walk g (f + 1) n s = (kids g f (g.getD n []) (s.1.set n true, s.2)).map fun s => (s.1, s.2 ++ [n]) := rfl
theorem kids_nil (g : List (List Nat)) (f : Nat) (s : WS) : kids g f [] s = some s := rfl
theorem kids_cons (g : List (List Nat)) (f k : Nat) (l : List Nat) (s : WS) : kids g f (k :: l) s = if s.1.getD k false then kids g f l s else (walk g f k s).bind (kids g f l) := by
  simp only [kids, List.foldlM_cons]
  cases s.1.getD k false
  · simp; rfl
  · simp

theorem kids_len {g : List (List Nat)} {f : Nat} (ih : ∀ n s s', walk g f n s = some s' → s.2.length ≤ s'.2.length ∧ s'.1.length = s.1.length) : ∀ (l : List Nat) (s s' : WS), kids g f l s = some s' → s.2.length ≤ s'.2.length ∧ s'.1.length = s.1.length
  | [], s, s', h => by cases h; exact ⟨Nat.le_refl _, rfl⟩
  | k :: l, s, s', h => by
    rw [kids_cons] at h
    split at h
    · exact kids_len ih l s s' h
    · obtain ⟨t, h1, h2⟩ := Option.bind_eq_some_iff.1 h
      have a := ih _ _ _ h1
      have b := kids_len ih l t s' h2
      omega

theorem walk_len (g : List (List Nat)) : ∀ (f n : Nat) (s s' : WS), walk g f n s = some s' → s.2.length ≤ s'.2.length ∧ s'.1.length = s.1.length
  | 0, n, s, s', h => by cases h
  | f + 1, n, s, s', h => by
    rw [walk_succ] at h
    obtain ⟨t, h1, rfl⟩ := Option.map_eq_some_iff.1 h
    have := kids_len (walk_len g f) _ _ _ h1
    simp at this ⊢
    omega

end Go.Vw.G
