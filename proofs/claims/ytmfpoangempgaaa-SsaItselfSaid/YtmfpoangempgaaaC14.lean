import Derived.Test.YtmfpoangempgaaaC13
import Derived.Test.YtmfpoangempgaaaC12
import Derived.Test.YtmfpoangempgaaaProg
import Derived.OpenShut
/-
  Part of the proof (texts GSpec, SEnc, SRd, SSpec, SRSmall).
-/
set_option linter.unusedVariables false
set_option linter.unusedSimpArgs false
/-
  What the functions of layer 7 compute, in plain Lean.
-/
namespace Go.Vw.G

def okIx (l : List Int) (n : Int) : Prop := 0 ≤ n ∧ n < l.length
instance (l : List Int) (n : Int) : Decidable (okIx l n) := inferInstanceAs (Decidable (_ ∧ _))

/-- Up the list of nearest ones, so many steps at most. -/
def dom1 (l : List Int) (a : Int) : Nat → Int → Bool
  | 0, _ => false
  | n + 1, b => if okIx l b then (if a = b then true else dom1 l a n (l.getD b.toNat 0)) else false

def dominates (l : List Int) (a b : Int) : Bool := if okIx l a then dom1 l a 257 b else false

/-- Not the number of a node. -/
def wild (len : Nat) (n : Int) : Bool := decide (n < 0) || decide ((len : Int) ≤ n)

/-- The first place of one that is told true, from place k on. -/
def find (p : Int → Bool) : List Int → Nat → Int
  | [], _ => -1
  | x :: xs, k => if p x then k else find p xs (k + 1)

theorem find_any (p : Int → Bool) : ∀ (l : List Int) (k : Nat), decide (0 ≤ find p l k) = l.any p
  | [], k => by simp [find]
  | x :: xs, k => by
      cases h : p x
      · simp [find, h, find_any p xs (k + 1)]
      · simp [find, h]

def rowOk (len : Nat) (l : List Int) : Bool := decide (l.length ≤ 128) && !(l.any (wild len))

def right (g : List (List Int)) : Bool := decide (1 ≤ g.length) && decide (g.length ≤ 256) && g.all (rowOk g.length)

end Go.Vw.G

/-
  Functions in SSA form, told plainly; what they read as.
-/
namespace Ss
structure Sig where
  inn : List Int
  out : List Int
deriving DecidableEq, Inhabited
structure Ins where
  op : Int
  n : Int
  args : List Int
  outs : List Int
deriving DecidableEq, Inhabited
structure Edge where
  to : Int
  args : List Int
deriving DecidableEq, Inhabited
structure Term where
  kind : Int
  arg : Int
  to : List Edge
  args : List Int
deriving DecidableEq, Inhabited
structure Block where
  params : List Int
  code : List Ins
  term : Term
deriving DecidableEq, Inhabited
structure Fn where
  sig : Sig
  types : List Int
  blocks : List Block
deriving DecidableEq, Inhabited
structure Env where
  sigs : List Sig
  imports : Int
  globals : List Int
  muts : List Bool
  mem : Bool
deriving DecidableEq, Inhabited

/-- What a number of a machine's word may be. -/
def I64 (n : Int) : Prop := -9223372036854775808 ≤ n ∧ n ≤ 9223372036854775807
def Ints (l : List Int) : Prop := l.length ≤ 140737488355328 ∧ ∀ n ∈ l, I64 n
def Sig.Fits (s : Sig) : Prop := Ints s.inn ∧ Ints s.out
def Ins.Fits (x : Ins) : Prop := I64 x.op ∧ (0 ≤ x.n ∧ x.n < 18446744073709551616) ∧ Ints x.args ∧ Ints x.outs
def Edge.Fits (x : Edge) : Prop := I64 x.to ∧ Ints x.args
def Term.Fits (t : Term) : Prop := I64 t.kind ∧ I64 t.arg ∧ (t.to.length ≤ 140737488355328 ∧ ∀ x ∈ t.to, x.Fits) ∧ Ints t.args
def Block.Fits (b : Block) : Prop := Ints b.params ∧ (b.code.length ≤ 140737488355328 ∧ ∀ x ∈ b.code, x.Fits) ∧ b.term.Fits
def Fn.Fits (f : Fn) : Prop := f.sig.Fits ∧ Ints f.types ∧ (f.blocks.length ≤ 140737488355328 ∧ ∀ b ∈ f.blocks, b.Fits)
def Env.Fits (e : Env) : Prop := (e.sigs.length ≤ 140737488355328 ∧ ∀ s ∈ e.sigs, s.Fits) ∧ I64 e.imports ∧ Ints e.globals ∧ e.muts.length ≤ 140737488355328
end Ss
namespace Go.Vw
def vu (n : Int) : V := .int .u64 n
def encSig (s : Ss.Sig) : V := .agg [vl vint s.inn, vl vint s.out]
def encIns (x : Ss.Ins) : V := .agg [vint x.op, vu x.n, vl vint x.args, vl vint x.outs]
def encEdge (x : Ss.Edge) : V := .agg [vint x.to, vl vint x.args]
def encTerm (t : Ss.Term) : V := .agg [vint t.kind, vint t.arg, vl encEdge t.to, vl vint t.args]
def encBlock (b : Ss.Block) : V := .agg [vl vint b.params, vl encIns b.code, vint b.term.kind, vint b.term.arg, vl encEdge b.term.to, vl vint b.term.args]
def encFn (f : Ss.Fn) : V := .agg [vl vint f.sig.inn, vl vint f.sig.out, vl vint f.types, vl encBlock f.blocks]
def encEnv (e : Ss.Env) : V := .agg [vl encSig e.sigs, vint e.imports, vl vint e.globals, vl V.bool e.muts, .bool e.mem]
theorem encSig_closed (x : Ss.Sig) : (encSig x).closed = true := rfl
theorem encIns_closed (x : Ss.Ins) : (encIns x).closed = true := rfl
theorem encEdge_closed (x : Ss.Edge) : (encEdge x).closed = true := rfl
theorem encBlock_closed (x : Ss.Block) : (encBlock x).closed = true := rfl
theorem encSig_cells (x : Ss.Sig) : (encSig x).cells = [vl vint x.inn, vl vint x.out] := nr rfl
theorem encIns_cells (x : Ss.Ins) : (encIns x).cells = [vint x.op, vu x.n, vl vint x.args, vl vint x.outs] := nr rfl
theorem encEdge_cells (x : Ss.Edge) : (encEdge x).cells = [vint x.to, vl vint x.args] := nr rfl
theorem encBlock_cells (b : Ss.Block) : (encBlock b).cells = [vl vint b.params, vl encIns b.code, vint b.term.kind, vint b.term.arg, vl encEdge b.term.to, vl vint b.term.args] := nr rfl
theorem encSig_nc (x : Ss.Sig) : (encSig x).ncells = 2 := nr rfl
theorem encIns_nc (x : Ss.Ins) : (encIns x).ncells = 4 := nr rfl
theorem encEdge_nc (x : Ss.Edge) : (encEdge x).ncells = 2 := nr rfl
theorem encBlock_nc (x : Ss.Block) : (encBlock x).ncells = 6 := nr rfl
theorem encSig_eq (s : Ss.Sig) : encSig s = .agg [vl vint s.inn, vl vint s.out] := nr rfl
theorem encIns_eq (x : Ss.Ins) : encIns x = .agg [vint x.op, vu x.n, vl vint x.args, vl vint x.outs] := nr rfl
theorem encEdge_eq (x : Ss.Edge) : encEdge x = .agg [vint x.to, vl vint x.args] := nr rfl
theorem encTerm_eq (t : Ss.Term) : encTerm t = .agg [vint t.kind, vint t.arg, vl encEdge t.to, vl vint t.args] := nr rfl
theorem encBlock_eq (b : Ss.Block) : encBlock b = .agg [vl vint b.params, vl encIns b.code, vint b.term.kind, vint b.term.arg, vl encEdge b.term.to, vl vint b.term.args] := nr rfl
theorem encFn_eq (f : Ss.Fn) : encFn f = .agg [vl vint f.sig.inn, vl vint f.sig.out, vl vint f.types, vl encBlock f.blocks] := nr rfl
theorem encEnv_eq (e : Ss.Env) : encEnv e = .agg [vl encSig e.sigs, vint e.imports, vl vint e.globals, vl V.bool e.muts, .bool e.mem] := nr rfl
theorem one_vu (n : Int) : (vu n).one = true := nr rfl
theorem resV_one (t : Nat) (σ : Fr) : resV [t] σ = σ.look t := nr rfl
theorem resV_two (t u : Nat) (σ : Fr) : resV [t, u] σ = .tuple [σ.look t, σ.look u] := nr rfl
theorem resV_3 (t u v : Nat) (σ : Fr) : resV [t, u, v] σ = .tuple [σ.look t, σ.look u, σ.look v] := nr rfl
theorem resV_4 (t u v w : Nat) (σ : Fr) : resV [t, u, v, w] σ = .tuple [σ.look t, σ.look u, σ.look v, σ.look w] := nr rfl
theorem resV_nil (σ : Fr) : resV [] σ = .tuple [] := nr rfl
attribute [simp] resV_one resV_two resV_3 resV_4 resV_nil encSig_nc encIns_nc encEdge_nc encBlock_nc encSig_eq encIns_eq encEdge_eq encTerm_eq encBlock_eq encFn_eq encEnv_eq one_vu vu
theorem vcall_useH {P : Program} {z : Option ZZ} {σ : Fr} {S : Store} {K : Fr → Store → Prop} {d : Option Nat} {f : FuncId} {args : List Arg} {xs : List V} {r : List CO} {X : V} (h : VPure P f xs X) (ha : args.map (ev σ) = xs) (H : vsegG P z r K (σ.put d X) S) (hz : noW z d = true := by rfl) : vsegG P z (⟨d, none, .call f args⟩ :: r) K σ S := vcall_use ha h H hz
theorem vcallv_useH {P : Program} {z : Option ZZ} {σ : Fr} {S : Store} {K : Fr → Store → Prop} {d : Option Nat} {g : FuncId} {caps : List V} {fz : Arg} {args : List Arg} {xs : List V} {r : List CO} {X : V} (h : VPure P g xs X) (hf : ev σ fz = .func g caps) (hc : callable P g = true) (ha : args.map (ev σ) ++ caps = xs) (H : vsegG P z r K (σ.put d X) S) (hz : noW z d = true := by rfl) : vsegG P z (⟨d, none, .callv fz args⟩ :: r) K σ S := vcallv_use hf hc ha h H hz
/-- One of the list's. -/
theorem wrapNat {k n : Nat} (h : k < n) (hn : n < 2 ^ 63) : IntKind.i64.wrap ((k : Int) + 1) = (k : Int) + 1 := wrap_i64 (by omega) (by omega)
end Go.Vw

namespace Go.Vw
open Go.Proofs Go.RowKit Go.ChangeShapes Go.WideShapes
set_option maxRecDepth 100000

theorem few_of {l b : Nat} (hb : 1 ≤ b) (h : l * b ≤ 140737488351232) : l ≤ 140737488355328 := by
  have : l * 1 ≤ l * b := Nat.mul_le_mul_left _ hb
  omega
theorem i64_of {n : Int} (h : (Lit.int .i64 n).wf = true) : Ss.I64 n := bounds_i64 h

theorem rdInt : ReadsC Try.prog 3 (fun n : Int => [vint n]) Ss.I64 :=
  (ReadsC.int Try.underlying3).map id (fun _ => rfl) (fun n h => i64_of h)
theorem rdU64 : ReadsC Try.prog 45 (fun n : Int => [vu n]) (fun n => 0 ≤ n ∧ n < 18446744073709551616) :=
  (ReadsC.int Try.underlying45).map id (fun _ => rfl) (fun n h => by have h1 := bounds_u64 h; simp only [id]; omega)
theorem rdBool : ReadsC Try.prog 4 (fun b : Bool => [.bool b]) (fun _ => True) := ReadsC.bool Try.underlying4
theorem rdInts : ReadsC Try.prog 22 (fun l : List Int => [vl vint l]) Ss.Ints :=
  (ReadsC.slice vint Try.underlying22 rdInt (of_decide_eq_true (by kernel_rfl)) (fun _ => .inr rfl)).map id (fun _ => rfl) (fun l h => ⟨few_of (of_decide_eq_true (by kernel_rfl)) h.1.2, h.2⟩)
theorem rdBools : ReadsC Try.prog 32 (fun l : List Bool => [vl V.bool l]) (fun l => l.length ≤ 140737488355328) :=
  (ReadsC.slice V.bool Try.underlying32 rdBool (of_decide_eq_true (by kernel_rfl)) (fun _ => .inr rfl)).map id (fun _ => rfl) (fun l h => few_of (of_decide_eq_true (by kernel_rfl)) h.1.2)
theorem rdSig : ReadsC Try.prog 24 (fun s : Ss.Sig => [vl vint s.inn, vl vint s.out]) Ss.Sig.Fits :=
  (ReadsC.struct Try.underlying24 (by kernel_rfl) (ReadsF.cons (by kernel_rfl) rdInts (ReadsF.cons (by kernel_rfl) rdInts ReadsF.nil))).map (fun p => (⟨p.1, p.2.1⟩ : Ss.Sig)) (fun _ => rfl) (fun p h => ⟨h.1, h.2.1⟩)
theorem rdSigs : ReadsC Try.prog 31 (fun l : List Ss.Sig => [vl encSig l]) (fun l => l.length ≤ 140737488355328 ∧ ∀ s ∈ l, s.Fits) :=
  (ReadsC.slice encSig Try.underlying31 rdSig (of_decide_eq_true (by kernel_rfl)) (fun _ => .inl rfl)).map id (fun _ => rfl) (fun l h => ⟨few_of (of_decide_eq_true (by kernel_rfl)) h.1.2, h.2⟩)
theorem rdIns : ReadsC Try.prog 47 (fun x : Ss.Ins => [vint x.op, vu x.n, vl vint x.args, vl vint x.outs]) Ss.Ins.Fits :=
  (ReadsC.struct Try.underlying47 (by kernel_rfl) (ReadsF.cons (by kernel_rfl) rdInt (ReadsF.cons (by kernel_rfl) rdU64 (ReadsF.cons (by kernel_rfl) rdInts (ReadsF.cons (by kernel_rfl) rdInts ReadsF.nil))))).map (fun p => (⟨p.1, p.2.1, p.2.2.1, p.2.2.2.1⟩ : Ss.Ins)) (fun _ => rfl) (fun p h => ⟨h.1, h.2.1, h.2.2.1, h.2.2.2.1⟩)
theorem rdInss : ReadsC Try.prog 39 (fun l : List Ss.Ins => [vl encIns l]) (fun l => l.length ≤ 140737488355328 ∧ ∀ s ∈ l, s.Fits) :=
  (ReadsC.slice encIns Try.underlying39 rdIns (of_decide_eq_true (by kernel_rfl)) (fun _ => .inl rfl)).map id (fun _ => rfl) (fun l h => ⟨few_of (of_decide_eq_true (by kernel_rfl)) h.1.2, h.2⟩)
theorem rdEdge : ReadsC Try.prog 52 (fun x : Ss.Edge => [vint x.to, vl vint x.args]) Ss.Edge.Fits :=
  (ReadsC.struct Try.underlying52 (by kernel_rfl) (ReadsF.cons (by kernel_rfl) rdInt (ReadsF.cons (by kernel_rfl) rdInts ReadsF.nil))).map (fun p => (⟨p.1, p.2.1⟩ : Ss.Edge)) (fun _ => rfl) (fun p h => ⟨h.1, h.2.1⟩)
theorem rdEdges : ReadsC Try.prog 40 (fun l : List Ss.Edge => [vl encEdge l]) (fun l => l.length ≤ 140737488355328 ∧ ∀ s ∈ l, s.Fits) :=
  (ReadsC.slice encEdge Try.underlying40 rdEdge (of_decide_eq_true (by kernel_rfl)) (fun _ => .inl rfl)).map id (fun _ => rfl) (fun l h => ⟨few_of (of_decide_eq_true (by kernel_rfl)) h.1.2, h.2⟩)
theorem rdTerm : ReadsC Try.prog 42 (fun t : Ss.Term => [vint t.kind, vint t.arg, vl encEdge t.to, vl vint t.args]) Ss.Term.Fits :=
  (ReadsC.struct Try.underlying42 (by kernel_rfl) (ReadsF.cons (by kernel_rfl) rdInt (ReadsF.cons (by kernel_rfl) rdInt (ReadsF.cons (by kernel_rfl) rdEdges (ReadsF.cons (by kernel_rfl) rdInts ReadsF.nil))))).map (fun p => (⟨p.1, p.2.1, p.2.2.1, p.2.2.2.1⟩ : Ss.Term)) (fun _ => rfl) (fun p h => ⟨h.1, h.2.1, h.2.2.1, h.2.2.2.1⟩)
theorem rdBlock : ReadsC Try.prog 44 (fun b : Ss.Block => [vl vint b.params, vl encIns b.code, vint b.term.kind, vint b.term.arg, vl encEdge b.term.to, vl vint b.term.args]) Ss.Block.Fits :=
  (ReadsC.struct Try.underlying44 (by kernel_rfl) (ReadsF.cons (by kernel_rfl) rdInts (ReadsF.cons (by kernel_rfl) rdInss (ReadsF.cons (by kernel_rfl) rdTerm ReadsF.nil)))).map (fun p => (⟨p.1, p.2.1, p.2.2.1⟩ : Ss.Block)) (fun _ => rfl) (fun p h => ⟨h.1, h.2.1, h.2.2.1⟩)
theorem rdBlocks : ReadsC Try.prog 25 (fun l : List Ss.Block => [vl encBlock l]) (fun l => l.length ≤ 140737488355328 ∧ ∀ s ∈ l, s.Fits) :=
  (ReadsC.slice encBlock Try.underlying25 rdBlock (of_decide_eq_true (by kernel_rfl)) (fun _ => .inl rfl)).map id (fun _ => rfl) (fun l h => ⟨few_of (of_decide_eq_true (by kernel_rfl)) h.1.2, h.2⟩)
theorem rdFn : ReadsC Try.prog 27 (fun f : Ss.Fn => [vl vint f.sig.inn, vl vint f.sig.out, vl vint f.types, vl encBlock f.blocks]) Ss.Fn.Fits :=
  (ReadsC.struct Try.underlying27 (by kernel_rfl) (ReadsF.cons (by kernel_rfl) rdSig (ReadsF.cons (by kernel_rfl) rdInts (ReadsF.cons (by kernel_rfl) rdBlocks ReadsF.nil)))).map (fun p => (⟨p.1, p.2.1, p.2.2.1⟩ : Ss.Fn)) (fun _ => rfl) (fun p h => ⟨h.1, h.2.1, h.2.2.1⟩)
theorem rdEnv : ReadsC Try.prog 34 (fun e : Ss.Env => [vl encSig e.sigs, vint e.imports, vl vint e.globals, vl V.bool e.muts, .bool e.mem]) Ss.Env.Fits :=
  (ReadsC.struct Try.underlying34 (by kernel_rfl) (ReadsF.cons (by kernel_rfl) rdSigs (ReadsF.cons (by kernel_rfl) rdInt (ReadsF.cons (by kernel_rfl) rdInts (ReadsF.cons (by kernel_rfl) rdBools (ReadsF.cons (by kernel_rfl) rdBool ReadsF.nil)))))).map (fun p => (⟨p.1, p.2.1, p.2.2.1, p.2.2.2.1, p.2.2.2.2.1⟩ : Ss.Env)) (fun _ => rfl) (fun p h => ⟨h.1, h.2.1, h.2.2.1, h.2.2.2.1⟩)
end Go.Vw

/-
  Functions in SSA form: how long their lists are.
-/
namespace Ss
def shortL (ls : List (List Int)) : Bool := ls.all fun l => decide (l.length ≤ 4096)
def Ins.small (x : Ins) : Bool := decide (x.args.length ≤ 4096) && decide (x.outs.length ≤ 4096)
def Edge.small (x : Edge) : Bool := decide (x.args.length ≤ 4096)
def Block.small (b : Block) : Bool := decide (b.params.length ≤ 4096) && decide (b.term.to.length ≤ 4096) && decide (b.term.args.length ≤ 4096) && b.code.all Ins.small && b.term.to.all Edge.small
/-- Blocks from one on, behind n instructions. -/
def smallFrom (n : Nat) : List Block → Bool
  | [] => true
  | b :: bs => decide (n + b.code.length ≤ 4096) && b.small && smallFrom (n + b.code.length) bs
def Fn.heads (f : Fn) : Bool := decide (f.types.length ≤ 4096) && decide (f.blocks.length ≤ 4096) && decide (f.sig.inn.length ≤ 4096) && decide (f.sig.out.length ≤ 4096)
def Fn.small (f : Fn) : Bool := f.heads && smallFrom 0 f.blocks
def count (bs : List Block) : Nat := (bs.map fun b => b.code.length).sum

theorem smallFrom_all : ∀ {bs : List Block} {n : Nat}, smallFrom n bs = true → (∀ b ∈ bs, b.small = true) ∧ (n ≤ 4096 → n + count bs ≤ 4096)
  | [], n, _ => ⟨by simp, by simp [count]⟩
  | b :: bs, n, h => by
    simp only [smallFrom, Bool.and_eq_true, decide_eq_true_eq] at h
    obtain ⟨⟨h1, h2⟩, h3⟩ := h
    obtain ⟨k1, k2⟩ := smallFrom_all h3
    refine ⟨fun x hx => ?_, fun _ => ?_⟩
    · rcases List.mem_cons.1 hx with rfl | hx
      · exact h2
      · exact k1 x hx
    · have := k2 h1
      simp only [count, List.map_cons, List.sum_cons] at this ⊢
      omega
theorem smallFrom_mk : ∀ {bs : List Block} {n : Nat}, (∀ b ∈ bs, b.small = true) → n + count bs ≤ 4096 → smallFrom n bs = true
  | [], n, _, _ => rfl
  | b :: bs, n, h, hn => by
    simp only [count, List.map_cons, List.sum_cons] at hn
    simp only [smallFrom, Bool.and_eq_true, decide_eq_true_eq]
    exact ⟨⟨by omega, h b (by simp)⟩, smallFrom_mk (fun x hx => h x (by simp [hx])) (by simp only [count]; omega)⟩
theorem small_iff (f : Fn) : f.small = true ↔ f.heads = true ∧ (∀ b ∈ f.blocks, b.small = true) ∧ count f.blocks ≤ 4096 := by
  simp only [Fn.small, Bool.and_eq_true]
  constructor
  · rintro ⟨h1, h2⟩
    obtain ⟨k1, k2⟩ := smallFrom_all h2
    exact ⟨h1, k1, by simpa using k2 (by omega)⟩
  · rintro ⟨h1, h2, h3⟩
    exact ⟨h1, smallFrom_mk h2 (by simpa using h3)⟩
theorem drop_all {α : Type} (p : α → Bool) {l : List α} {k : Nat} (h : k < l.length) : (l.drop k).all p = (p l[k] && (l.drop (k + 1)).all p) := by
  rw [List.drop_eq_getElem_cons h, List.all_cons]
theorem drop_all_end {α : Type} (p : α → Bool) {l : List α} {k : Nat} (h : ¬ k < l.length) : (l.drop k).all p = true := by
  have : l.drop k = [] := by rw [List.drop_eq_nil_iff]; omega
  rw [this]; rfl
theorem drop_small {n : Nat} {l : List Block} {k : Nat} (h : k < l.length) : smallFrom n (l.drop k) = (decide (n + l[k].code.length ≤ 4096) && l[k].small && smallFrom (n + l[k].code.length) (l.drop (k + 1))) := by
  rw [List.drop_eq_getElem_cons h, smallFrom]
theorem drop_small_end {n : Nat} {l : List Block} {k : Nat} (h : ¬ k < l.length) : smallFrom n (l.drop k) = true := by
  have : l.drop k = [] := by rw [List.drop_eq_nil_iff]; omega
  rw [this]; rfl
end Ss

namespace Go.Vw
open Go.Proofs Go.RowKit
set_option maxRecDepth 10000
set_option maxHeartbeats 8000000

theorem gt4 (n : Nat) : decide ((4096 : Int) < (n : Int)) = !decide (n ≤ 4096) := by
  by_cases h : n ≤ 4096
  · simp [h]; omega
  · simp [h]; omega

theorem RSmall_v (f : Ss.Fn) (hf : f.Fits) : VPure Try.prog 9 [encFn f] (.bool f.small) := by
  intro S
  obtain ⟨⟨fi, fo⟩, ts, bs⟩ := f
  obtain ⟨_, _, hbl0, hbf⟩ := hf
  simp only at hbl0 hbf
  have hbl : bs.length < 2^63 := by omega
  refine vcalls_start (c := bodyOf Try.f9) Try.func9 rfl rfl (by simp [Try.ntmps9]) ?_
  rw [Try.ntmps9]
  intro hwf
  by_cases h1 : (4096 : Int) < (ts.length : Int)
  · repeat (first|refine QG ?_|refine QX (r:=by conv=>lhs;simp[-List.map_set,QV,h1]) (k:=?_))
    exact done_pure hwf (by simp [Ss.Fn.small, Ss.Fn.heads]; omega) rfl
  by_cases h2 : (4096 : Int) < (bs.length : Int)
  · repeat (first|refine QG ?_|refine QX (r:=by conv=>lhs;simp[-List.map_set,QV,h1,h2]) (k:=?_))
    exact done_pure hwf (by simp [Ss.Fn.small, Ss.Fn.heads]; omega) rfl
  by_cases h3 : (4096 : Int) < (fi.length : Int)
  · repeat (first|refine QG ?_|refine QX (r:=by conv=>lhs;simp[-List.map_set,QV,h1,h2,h3]) (k:=?_))
    exact done_pure hwf (by simp [Ss.Fn.small, Ss.Fn.heads]; omega) rfl
  by_cases h4 : (4096 : Int) < (fo.length : Int)
  · repeat (first|refine QG ?_|refine QX (r:=by conv=>lhs;simp[-List.map_set,QV,h1,h2,h3,h4]) (k:=?_))
    exact done_pure hwf (by simp [Ss.Fn.small, Ss.Fn.heads]; omega) rfl
  have hh : Ss.Fn.small ⟨⟨fi, fo⟩, ts, bs⟩ = Ss.smallFrom 0 bs := by
    have : Ss.Fn.heads ⟨⟨fi, fo⟩, ts, bs⟩ = true := by simp [Ss.Fn.heads]; omega
    simp [Ss.Fn.small, this]
  rw [hh]
  repeat (first|refine QG ?_|refine QX (r:=by conv=>lhs;simp[-List.map_set,QV,h1,h2,h3,h4]) (k:=?_))
  repeat refine QS ?_
  refine vw_loopAt [1, 3, 4] rfl (fun c σ S' => ∃ (k n : Nat), k ≤ bs.length ∧ n ≤ 4096 ∧ c = bs.length - k ∧ Ss.smallFrom n (bs.drop k) = Ss.smallFrom 0 bs ∧ σ = [(1, .ptr (lid S.nx 0) 0), (3, vnat n), (4, vnat k)] ∧ S' = St S [] [some (4, [vl vint fi, vl vint fo, vl vint ts, vl encBlock bs])]) bs.length ?_ ?_
  · exact ⟨0, 0, by omega, by omega, rfl, rfl, by simp [Fr.only], rfl⟩
  · rintro c σ T ⟨k, n, hk, hn, rfl, hd, rfl, rfl⟩
    by_cases hkt : k < bs.length
    · have hw := wrapNat hkt hbl
      have hbk := hbf _ (List.getElem_mem hkt)
      have hst := Ss.drop_small (n := n) hkt
      obtain ⟨⟨ps, code, ⟨tk, ta, to, az⟩⟩, hb⟩ : ∃ b, bs[k] = b := ⟨_, rfl⟩
      rw [hb] at hst hbk
      obtain ⟨_, ⟨hcl0, _⟩, _, _, ⟨htl0, _⟩, _⟩ := hbk
      simp only at hcl0 htl0
      have hcl : code.length < 2^63 := by omega
      have htl : to.length < 2^63 := by omega
      have hwn : IntKind.i64.wrap ((n : Int) + (code.length : Int)) = (n : Int) + (code.length : Int) := wrap_i64 (by omega) (by omega)
      have hS : Ss.Block.small ⟨ps, code, ⟨tk, ta, to, az⟩⟩ = (decide (ps.length ≤ 4096) && decide (to.length ≤ 4096) && decide (az.length ≤ 4096) && code.all Ss.Ins.small && to.all Ss.Edge.small) := rfl
      by_cases g1 : (4096 : Int) < (n : Int) + (code.length : Int)
      · have e : Ss.smallFrom n (bs.drop k) = false := by rw [hst]; simp; omega
        rw [← hd, e]
        repeat (first|refine QG ?_|refine QX (r:=by conv=>lhs;simp[-List.map_set,QV,hkt,hb,hwn,g1]) (k:=?_))
        exact done_pure hwf rfl rfl
      by_cases g2 : (4096 : Int) < (ps.length : Int)
      · have e : Ss.smallFrom n (bs.drop k) = false := by rw [hst, hS]; simp; omega
        rw [← hd, e]
        repeat (first|refine QG ?_|refine QX (r:=by conv=>lhs;simp[-List.map_set,QV,hkt,hb,hwn,g1,g2]) (k:=?_))
        exact done_pure hwf rfl rfl
      by_cases g3 : (4096 : Int) < (to.length : Int)
      · have e : Ss.smallFrom n (bs.drop k) = false := by rw [hst, hS]; simp; omega
        rw [← hd, e]
        repeat (first|refine QG ?_|refine QX (r:=by conv=>lhs;simp[-List.map_set,QV,hkt,hb,hwn,g1,g2,g3]) (k:=?_))
        exact done_pure hwf rfl rfl
      by_cases g4 : (4096 : Int) < (az.length : Int)
      · have e : Ss.smallFrom n (bs.drop k) = false := by rw [hst, hS]; simp; omega
        rw [← hd, e]
        repeat (first|refine QG ?_|refine QX (r:=by conv=>lhs;simp[-List.map_set,QV,hkt,hb,hwn,g1,g2,g3,g4]) (k:=?_))
        exact done_pure hwf rfl rfl
      rw [show decide (n + code.length ≤ 4096) = true by simp; omega, hS, show decide (ps.length ≤ 4096) = true by simp; omega, show decide (to.length ≤ 4096) = true by simp; omega, show decide (az.length ≤ 4096) = true by simp; omega, Bool.true_and, Bool.true_and, Bool.true_and, Bool.true_and] at hst
      repeat (first|refine QG ?_|refine QX (r:=by conv=>lhs;simp[-List.map_set,QV,hkt,hb,hwn,g1,g2,g3,g4]) (k:=?_))
      repeat refine QS ?_
      refine vw_loopAt [1, 3, 4, 5, 6] rfl (fun c σ S' => ∃ (j : Nat), j ≤ code.length ∧ c = code.length - j ∧ (code.drop j).all Ss.Ins.small = code.all Ss.Ins.small ∧ σ = [(1, .ptr (lid S.nx 0) 0), (3, vnat (n + code.length)), (4, vnat k), (5, .ptr (lid S.nx 1) 0), (6, vnat j)] ∧ S' = St S [] [some (4, [vl vint fi, vl vint fo, vl vint ts, vl encBlock bs]), some (6, [vl vint ps, vl encIns code, vint tk, vint ta, vl encEdge to, vl vint az])]) code.length ?_ ?_
      · exact ⟨0, by omega, rfl, rfl, by simp [Fr.only], rfl⟩
      · rintro c σ T ⟨j, hj, rfl, hdj, rfl, rfl⟩
        by_cases hjt : j < code.length
        · have hwj := wrapNat hjt hcl
          have hstj := Ss.drop_all Ss.Ins.small hjt
          obtain ⟨⟨io, iN, ia, iu⟩, hx⟩ : ∃ b, code[j] = b := ⟨_, rfl⟩
          rw [hx] at hstj
          have hX : Ss.Ins.small ⟨io, iN, ia, iu⟩ = (decide (ia.length ≤ 4096) && decide (iu.length ≤ 4096)) := rfl
          by_cases q1 : (4096 : Int) < (ia.length : Int)
          · have e : code.all Ss.Ins.small = false := by rw [← hdj, hstj, hX]; simp; omega
            rw [← hd, hst, e]
            repeat (first|refine QG ?_|refine QX (r:=by conv=>lhs;simp[-List.map_set,QV,hjt,hx,q1]) (k:=?_))
            exact done_pure hwf rfl rfl
          by_cases q2 : (4096 : Int) < (iu.length : Int)
          · have e : code.all Ss.Ins.small = false := by rw [← hdj, hstj, hX]; simp; omega
            rw [← hd, hst, e]
            repeat (first|refine QG ?_|refine QX (r:=by conv=>lhs;simp[-List.map_set,QV,hjt,hx,q1,q2]) (k:=?_))
            exact done_pure hwf rfl rfl
          rw [hX, show decide (ia.length ≤ 4096) = true by simp; omega, show decide (iu.length ≤ 4096) = true by simp; omega, Bool.true_and, Bool.true_and] at hstj
          repeat (first|refine QG ?_|refine QX (r:=by conv=>lhs;simp[-List.map_set,QV,hjt,hx,q1,q2]) (k:=?_))
          show Again _ _ _ _ _ _ _
          exact again ⟨Nat.sub_lt_sub_left hjt (Nat.lt_succ_self j), j + 1, hjt, rfl, by rw [← hdj, hstj], by simp [Fr.only, hwj], rfl⟩
        · rw [Ss.drop_all_end _ hjt] at hdj
          rw [← hdj, Bool.true_and] at hst
          repeat (first|refine QG ?_|refine QX (r:=by conv=>lhs;simp[-List.map_set,QV,hjt]) (k:=?_))
          repeat refine QS ?_
          refine vw_loopAt [1, 3, 4, 5, 7] rfl (fun c σ S' => ∃ (j : Nat), j ≤ to.length ∧ c = to.length - j ∧ (to.drop j).all Ss.Edge.small = to.all Ss.Edge.small ∧ σ = [(1, .ptr (lid S.nx 0) 0), (3, vnat (n + code.length)), (4, vnat k), (5, .ptr (lid S.nx 1) 0), (7, vnat j)] ∧ S' = St S [] [some (4, [vl vint fi, vl vint fo, vl vint ts, vl encBlock bs]), some (6, [vl vint ps, vl encIns code, vint tk, vint ta, vl encEdge to, vl vint az])]) to.length ?_ ?_
          · exact ⟨0, by omega, rfl, rfl, by simp [Fr.only], rfl⟩
          · rintro c σ T ⟨j, hj, rfl, hdj, rfl, rfl⟩
            by_cases hjt : j < to.length
            · have hwj := wrapNat hjt htl
              have hstj := Ss.drop_all Ss.Edge.small hjt
              obtain ⟨⟨io, ia⟩, hx⟩ : ∃ b, to[j] = b := ⟨_, rfl⟩
              rw [hx] at hstj
              have hX : Ss.Edge.small ⟨io, ia⟩ = decide (ia.length ≤ 4096) := rfl
              by_cases q1 : (4096 : Int) < (ia.length : Int)
              · have e : to.all Ss.Edge.small = false := by rw [← hdj, hstj, hX]; simp; omega
                rw [← hd, hst, e]
                repeat (first|refine QG ?_|refine QX (r:=by conv=>lhs;simp[-List.map_set,QV,hjt,hx,q1]) (k:=?_))
                exact done_pure hwf rfl rfl
              rw [hX, show decide (ia.length ≤ 4096) = true by simp; omega, Bool.true_and] at hstj
              repeat (first|refine QG ?_|refine QX (r:=by conv=>lhs;simp[-List.map_set,QV,hjt,hx,q1]) (k:=?_))
              show Again _ _ _ _ _ _ _
              exact again ⟨Nat.sub_lt_sub_left hjt (Nat.lt_succ_self j), j + 1, hjt, rfl, by rw [← hdj, hstj], by simp [Fr.only, hwj], rfl⟩
            · rw [Ss.drop_all_end _ hjt] at hdj
              rw [← hdj, Bool.true_and] at hst
              repeat (first|refine QG ?_|refine QX (r:=by conv=>lhs;simp[-List.map_set,QV,hjt,hw]) (k:=?_))
              refine QA [0] (h:=⟨?_, k + 1, n + code.length, hkt, by omega, rfl, by rw [← hd, hst], by simp, rfl⟩)
              omega
    · rw [Ss.drop_small_end hkt] at hd
      rw [← hd]
      repeat (first|refine QG ?_|refine QX (r:=by conv=>lhs;simp[-List.map_set,QV,hkt]) (k:=?_))
      exact done_pure hwf rfl rfl
end Go.Vw
