import Derived.Test.YtcpncecdegmliaaC12
import Derived.Test.YtcpncecdegmliaaProg
import Derived.OpenShut
import Derived.Test.YtcpncecdegmliaaC11
/-
  Part of the proof (texts GSpec, SEnc, SRd, SSpec, GNat, GOrd).
-/
set_option linter.unusedVariables false
set_option linter.unusedSimpArgs false
/-
 What the functions of layer 7 compute, in plain Lean.
-/
namespace Go.Vw.G
def okIx (l : List Int) (n : Int) : Prop := 0 ≤ n ∧ n < l.length
instance (l : List Int) (n : Int) : Decidable (okIx l n) := inferInstanceAs (Decidable (_ ∧ _))
def dom1 (l : List Int) (a : Int) : Nat → Int → Bool
 | 0, _ => false
 | n + 1, b => if okIx l b then (if a = b then true else dom1 l a n (l.getD b.toNat 0)) else false
def dominates (l : List Int) (a b : Int) : Bool := if okIx l a then dom1 l a 257 b else false
def wild (len : Nat) (n : Int) : Bool := decide (n < 0) || decide ((len : Int) ≤ n)
def find (p : Int → Bool) : List Int → Nat → Int
 | [], _ => -1
 | x :: xs, k => if p x then k else find p xs (k + 1)
theorem find_any (p : Int → Bool) : ∀ (l : List Int) (k : Nat), decide (0 ≤ find p l k) = l.any p
 | [], k => by simp [find]
 | x :: xs, k => by
   cases h : p x
   ·simp [find, h, find_any p xs (k + 1)]
   ·simp [find, h]
def rowOk (len : Nat) (l : List Int) : Bool := decide (l.length ≤ 128) && !(l.any (wild len))
def right (g : List (List Int)) : Bool := decide (1 ≤ g.length) && decide (g.length ≤ 256) && g.all (rowOk g.length)
end Go.Vw.G

/-
 Functions in SSA form, told plainly; what they read as.
-/
namespace Ss
structure Sig where
 inn : List Int
 out : List Int
deriving DecidableEq, Inhabited
structure Ins where
 op : Int
 n : Int
 args : List Int
 outs : List Int
deriving DecidableEq, Inhabited
structure Edge where
 to : Int
 args : List Int
deriving DecidableEq, Inhabited
structure Term where
 kind : Int
 arg : Int
 to : List Edge
 args : List Int
deriving DecidableEq, Inhabited
structure Block where
 params : List Int
 code : List Ins
 term : Term
deriving DecidableEq, Inhabited
structure Fn where
 sig : Sig
 types : List Int
 blocks : List Block
deriving DecidableEq, Inhabited
structure Env where
 sigs : List Sig
 imports : Int
 globals : List Int
 muts : List Bool
 mem : Bool
deriving DecidableEq, Inhabited
def I64 (n : Int) : Prop := -9223372036854775808 ≤ n ∧ n ≤ 9223372036854775807
def Ints (l : List Int) : Prop := l.length ≤ 140737488355328 ∧ ∀ n ∈ l, I64 n
def Sig.Fits (s : Sig) : Prop := Ints s.inn ∧ Ints s.out
def Ins.Fits (x : Ins) : Prop := I64 x.op ∧ (0 ≤ x.n ∧ x.n < 18446744073709551616) ∧ Ints x.args ∧ Ints x.outs
def Edge.Fits (x : Edge) : Prop := I64 x.to ∧ Ints x.args
def Term.Fits (t : Term) : Prop := I64 t.kind ∧ I64 t.arg ∧ (t.to.length ≤ 140737488355328 ∧ ∀ x ∈ t.to, x.Fits) ∧ Ints t.args
def Block.Fits (b : Block) : Prop := Ints b.params ∧ (b.code.length ≤ 140737488355328 ∧ ∀ x ∈ b.code, x.Fits) ∧ b.term.Fits
def Fn.Fits (f : Fn) : Prop := f.sig.Fits ∧ Ints f.types ∧ (f.blocks.length ≤ 140737488355328 ∧ ∀ b ∈ f.blocks, b.Fits)
def Env.Fits (e : Env) : Prop := (e.sigs.length ≤ 140737488355328 ∧ ∀ s ∈ e.sigs, s.Fits) ∧ I64 e.imports ∧ Ints e.globals ∧ e.muts.length ≤ 140737488355328
end Ss
namespace Go.Vw
def vu (n : Int) : V := .int .u64 n
def encSig (s : Ss.Sig) : V := .agg [vl vint s.inn, vl vint s.out]
def encIns (x : Ss.Ins) : V := .agg [vint x.op, vu x.n, vl vint x.args, vl vint x.outs]
def encEdge (x : Ss.Edge) : V := .agg [vint x.to, vl vint x.args]
def encTerm (t : Ss.Term) : V := .agg [vint t.kind, vint t.arg, vl encEdge t.to, vl vint t.args]
def encBlock (b : Ss.Block) : V := .agg [vl vint b.params, vl encIns b.code, vint b.term.kind, vint b.term.arg, vl encEdge b.term.to, vl vint b.term.args]
def encFn (f : Ss.Fn) : V := .agg [vl vint f.sig.inn, vl vint f.sig.out, vl vint f.types, vl encBlock f.blocks]
def encEnv (e : Ss.Env) : V := .agg [vl encSig e.sigs, vint e.imports, vl vint e.globals, vl V.bool e.muts, .bool e.mem]
theorem encIns_closed (x : Ss.Ins) : (encIns x).closed = true := rfl
theorem encEdge_closed (x : Ss.Edge) : (encEdge x).closed = true := rfl
theorem encBlock_closed (x : Ss.Block) : (encBlock x).closed = true := rfl
theorem encIns_cells (x : Ss.Ins) : (encIns x).cells = [vint x.op, vu x.n, vl vint x.args, vl vint x.outs] := nr rfl
theorem encEdge_cells (x : Ss.Edge) : (encEdge x).cells = [vint x.to, vl vint x.args] := nr rfl
theorem encBlock_cells (b : Ss.Block) : (encBlock b).cells = [vl vint b.params, vl encIns b.code, vint b.term.kind, vint b.term.arg, vl encEdge b.term.to, vl vint b.term.args] := nr rfl
theorem encSig_nc (x : Ss.Sig) : (encSig x).ncells = 2 := nr rfl
theorem encIns_nc (x : Ss.Ins) : (encIns x).ncells = 4 := nr rfl
theorem encEdge_nc (x : Ss.Edge) : (encEdge x).ncells = 2 := nr rfl
theorem encBlock_nc (x : Ss.Block) : (encBlock x).ncells = 6 := nr rfl
theorem encSig_eq (s : Ss.Sig) : encSig s = .agg [vl vint s.inn, vl vint s.out] := nr rfl
theorem encIns_eq (x : Ss.Ins) : encIns x = .agg [vint x.op, vu x.n, vl vint x.args, vl vint x.outs] := nr rfl
theorem encEdge_eq (x : Ss.Edge) : encEdge x = .agg [vint x.to, vl vint x.args] := nr rfl
theorem encTerm_eq (t : Ss.Term) : encTerm t = .agg [vint t.kind, vint t.arg, vl encEdge t.to, vl vint t.args] := nr rfl
theorem encBlock_eq (b : Ss.Block) : encBlock b = .agg [vl vint b.params, vl encIns b.code, vint b.term.kind, vint b.term.arg, vl encEdge b.term.to, vl vint b.term.args] := nr rfl
theorem encFn_eq (f : Ss.Fn) : encFn f = .agg [vl vint f.sig.inn, vl vint f.sig.out, vl vint f.types, vl encBlock f.blocks] := nr rfl
theorem encEnv_eq (e : Ss.Env) : encEnv e = .agg [vl encSig e.sigs, vint e.imports, vl vint e.globals, vl V.bool e.muts, .bool e.mem] := nr rfl
theorem one_vu (n : Int) : (vu n).one = true := nr rfl
theorem resV_one (t : Nat) (σ : Fr) : resV [t] σ = σ.look t := nr rfl
theorem resV_two (t u : Nat) (σ : Fr) : resV [t, u] σ = .tuple [σ.look t, σ.look u] := nr rfl
theorem resV_3 (t u v : Nat) (σ : Fr) : resV [t, u, v] σ = .tuple [σ.look t, σ.look u, σ.look v] := nr rfl
theorem resV_4 (t u v w : Nat) (σ : Fr) : resV [t, u, v, w] σ = .tuple [σ.look t, σ.look u, σ.look v, σ.look w] := nr rfl
theorem resV_nil (σ : Fr) : resV [] σ = .tuple [] := nr rfl
attribute [simp] resV_one resV_two resV_3 resV_4 resV_nil encSig_nc encIns_nc encEdge_nc encBlock_nc encSig_eq encIns_eq encEdge_eq encTerm_eq encBlock_eq encFn_eq encEnv_eq one_vu vu
theorem vcall_useH {P : Program} {z : Option ZZ} {σ : Fr} {S : Store} {K : Fr → Store → Prop} {d : Option Nat} {f : FuncId} {args : List Arg} {xs : List V} {r : List CO} {X : V} (h : VPure P f xs X) (ha : args.map (ev σ) = xs) (H : vsegG P z r K (σ.put d X) S) (hz : noW z d = true := by rfl) : vsegG P z (⟨d, none, .call f args⟩ :: r) K σ S := vcall_use ha h H hz
theorem vcallv_useH {P : Program} {z : Option ZZ} {σ : Fr} {S : Store} {K : Fr → Store → Prop} {d : Option Nat} {g : FuncId} {caps : List V} {fz : Arg} {args : List Arg} {xs : List V} {r : List CO} {X : V} (h : VPure P g xs X) (hf : ev σ fz = .func g caps) (hc : callable P g = true) (ha : args.map (ev σ) ++ caps = xs) (H : vsegG P z r K (σ.put d X) S) (hz : noW z d = true := by rfl) : vsegG P z (⟨d, none, .callv fz args⟩ :: r) K σ S := vcallv_use hf hc ha h H hz
theorem wrapNat {k n : Nat} (h : k < n) (hn : n < 2 ^ 63) : IntKind.i64.wrap ((k : Int) + 1) = (k : Int) + 1 := wrap_i64 (by omega) (by omega)
end Go.Vw

namespace Go.Vw
open Go.Proofs Go.RowKit Go.ChangeShapes Go.WideShapes
set_option maxRecDepth 100000
theorem few_of {l b : Nat} (hb : 1 ≤ b) (h : l * b ≤ 140737488351232) : l ≤ 140737488355328 := by
 have : l * 1 ≤ l * b := Nat.mul_le_mul_left _ hb
 omega
theorem i64_of {n : Int} (h : (Lit.int .i64 n).wf = true) : Ss.I64 n := bounds_i64 h
theorem rdInt : ReadsC Try.prog 3 (fun n : Int => [vint n]) Ss.I64 :=
 (ReadsC.int Try.underlying3).map id (fun _ => rfl) (fun n h => i64_of h)
theorem rdU64 : ReadsC Try.prog 48 (fun n : Int => [vu n]) (fun n => 0 ≤ n ∧ n < 18446744073709551616) :=
 (ReadsC.int Try.underlying48).map id (fun _ => rfl) (fun n h => by have h1 := bounds_u64 h; simp only [id]; omega)
theorem rdBool : ReadsC Try.prog 4 (fun b : Bool => [.bool b]) (fun _ => True) := ReadsC.bool Try.underlying4
theorem rdInts : ReadsC Try.prog 23 (fun l : List Int => [vl vint l]) Ss.Ints :=
 (ReadsC.slice vint Try.underlying23 rdInt (of_decide_eq_true (by kernel_rfl)) (fun _ => .inr rfl)).map id (fun _ => rfl) (fun l h => ⟨few_of (of_decide_eq_true (by kernel_rfl)) h.1.2, h.2⟩)
theorem rdBools : ReadsC Try.prog 24 (fun l : List Bool => [vl V.bool l]) (fun l => l.length ≤ 140737488355328) :=
 (ReadsC.slice V.bool Try.underlying24 rdBool (of_decide_eq_true (by kernel_rfl)) (fun _ => .inr rfl)).map id (fun _ => rfl) (fun l h => few_of (of_decide_eq_true (by kernel_rfl)) h.1.2)
theorem rdSig : ReadsC Try.prog 28 (fun s : Ss.Sig => [vl vint s.inn, vl vint s.out]) Ss.Sig.Fits :=
 (ReadsC.struct Try.underlying28 (by kernel_rfl) (ReadsF.cons (by kernel_rfl) rdInts (ReadsF.cons (by kernel_rfl) rdInts ReadsF.nil))).map (fun p => (⟨p.1, p.2.1⟩ : Ss.Sig)) (fun _ => rfl) (fun p h => ⟨h.1, h.2.1⟩)
theorem rdSigs : ReadsC Try.prog 22 (fun l : List Ss.Sig => [vl encSig l]) (fun l => l.length ≤ 140737488355328 ∧ ∀ s ∈ l, s.Fits) :=
 (ReadsC.slice encSig Try.underlying22 rdSig (of_decide_eq_true (by kernel_rfl)) (fun _ => .inl rfl)).map id (fun _ => rfl) (fun l h => ⟨few_of (of_decide_eq_true (by kernel_rfl)) h.1.2, h.2⟩)
theorem rdIns : ReadsC Try.prog 50 (fun x : Ss.Ins => [vint x.op, vu x.n, vl vint x.args, vl vint x.outs]) Ss.Ins.Fits :=
 (ReadsC.struct Try.underlying50 (by kernel_rfl) (ReadsF.cons (by kernel_rfl) rdInt (ReadsF.cons (by kernel_rfl) rdU64 (ReadsF.cons (by kernel_rfl) rdInts (ReadsF.cons (by kernel_rfl) rdInts ReadsF.nil))))).map (fun p => (⟨p.1, p.2.1, p.2.2.1, p.2.2.2.1⟩ : Ss.Ins)) (fun _ => rfl) (fun p h => ⟨h.1, h.2.1, h.2.2.1, h.2.2.2.1⟩)
theorem rdInss : ReadsC Try.prog 42 (fun l : List Ss.Ins => [vl encIns l]) (fun l => l.length ≤ 140737488355328 ∧ ∀ s ∈ l, s.Fits) :=
 (ReadsC.slice encIns Try.underlying42 rdIns (of_decide_eq_true (by kernel_rfl)) (fun _ => .inl rfl)).map id (fun _ => rfl) (fun l h => ⟨few_of (of_decide_eq_true (by kernel_rfl)) h.1.2, h.2⟩)
theorem rdEdge : ReadsC Try.prog 84 (fun x : Ss.Edge => [vint x.to, vl vint x.args]) Ss.Edge.Fits :=
 (ReadsC.struct Try.underlying84 (by kernel_rfl) (ReadsF.cons (by kernel_rfl) rdInt (ReadsF.cons (by kernel_rfl) rdInts ReadsF.nil))).map (fun p => (⟨p.1, p.2.1⟩ : Ss.Edge)) (fun _ => rfl) (fun p h => ⟨h.1, h.2.1⟩)
theorem rdEdges : ReadsC Try.prog 43 (fun l : List Ss.Edge => [vl encEdge l]) (fun l => l.length ≤ 140737488355328 ∧ ∀ s ∈ l, s.Fits) :=
 (ReadsC.slice encEdge Try.underlying43 rdEdge (of_decide_eq_true (by kernel_rfl)) (fun _ => .inl rfl)).map id (fun _ => rfl) (fun l h => ⟨few_of (of_decide_eq_true (by kernel_rfl)) h.1.2, h.2⟩)
theorem rdTerm : ReadsC Try.prog 45 (fun t : Ss.Term => [vint t.kind, vint t.arg, vl encEdge t.to, vl vint t.args]) Ss.Term.Fits :=
 (ReadsC.struct Try.underlying45 (by kernel_rfl) (ReadsF.cons (by kernel_rfl) rdInt (ReadsF.cons (by kernel_rfl) rdInt (ReadsF.cons (by kernel_rfl) rdEdges (ReadsF.cons (by kernel_rfl) rdInts ReadsF.nil))))).map (fun p => (⟨p.1, p.2.1, p.2.2.1, p.2.2.2.1⟩ : Ss.Term)) (fun _ => rfl) (fun p h => ⟨h.1, h.2.1, h.2.2.1, h.2.2.2.1⟩)
theorem rdBlock : ReadsC Try.prog 47 (fun b : Ss.Block => [vl vint b.params, vl encIns b.code, vint b.term.kind, vint b.term.arg, vl encEdge b.term.to, vl vint b.term.args]) Ss.Block.Fits :=
 (ReadsC.struct Try.underlying47 (by kernel_rfl) (ReadsF.cons (by kernel_rfl) rdInts (ReadsF.cons (by kernel_rfl) rdInss (ReadsF.cons (by kernel_rfl) rdTerm ReadsF.nil)))).map (fun p => (⟨p.1, p.2.1, p.2.2.1⟩ : Ss.Block)) (fun _ => rfl) (fun p h => ⟨h.1, h.2.1, h.2.2.1⟩)
theorem rdBlocks : ReadsC Try.prog 29 (fun l : List Ss.Block => [vl encBlock l]) (fun l => l.length ≤ 140737488355328 ∧ ∀ s ∈ l, s.Fits) :=
 (ReadsC.slice encBlock Try.underlying29 rdBlock (of_decide_eq_true (by kernel_rfl)) (fun _ => .inl rfl)).map id (fun _ => rfl) (fun l h => ⟨few_of (of_decide_eq_true (by kernel_rfl)) h.1.2, h.2⟩)
theorem rdFn : ReadsC Try.prog 31 (fun f : Ss.Fn => [vl vint f.sig.inn, vl vint f.sig.out, vl vint f.types, vl encBlock f.blocks]) Ss.Fn.Fits :=
 (ReadsC.struct Try.underlying31 (by kernel_rfl) (ReadsF.cons (by kernel_rfl) rdSig (ReadsF.cons (by kernel_rfl) rdInts (ReadsF.cons (by kernel_rfl) rdBlocks ReadsF.nil)))).map (fun p => (⟨p.1, p.2.1, p.2.2.1⟩ : Ss.Fn)) (fun _ => rfl) (fun p h => ⟨h.1, h.2.1, h.2.2.1⟩)
theorem rdEnv : ReadsC Try.prog 26 (fun e : Ss.Env => [vl encSig e.sigs, vint e.imports, vl vint e.globals, vl V.bool e.muts, .bool e.mem]) Ss.Env.Fits :=
 (ReadsC.struct Try.underlying26 (by kernel_rfl) (ReadsF.cons (by kernel_rfl) rdSigs (ReadsF.cons (by kernel_rfl) rdInt (ReadsF.cons (by kernel_rfl) rdInts (ReadsF.cons (by kernel_rfl) rdBools (ReadsF.cons (by kernel_rfl) rdBool ReadsF.nil)))))).map (fun p => (⟨p.1, p.2.1, p.2.2.1, p.2.2.2.1, p.2.2.2.2.1⟩ : Ss.Env)) (fun _ => rfl) (fun p h => ⟨h.1, h.2.1, h.2.2.1, h.2.2.2.1⟩)
end Go.Vw

/-
 Functions in SSA form: how long their lists are.
-/
namespace Ss
def shortL (ls : List (List Int)) : Bool := ls.all fun l => decide (l.length ≤ 4096)
def Ins.small (x : Ins) : Bool := decide (x.args.length ≤ 4096) && decide (x.outs.length ≤ 4096)
def Edge.small (x : Edge) : Bool := decide (x.args.length ≤ 4096)
def Block.small (b : Block) : Bool := decide (b.params.length ≤ 4096) && decide (b.term.to.length ≤ 4096) && decide (b.term.args.length ≤ 4096) && b.code.all Ins.small && b.term.to.all Edge.small
def smallFrom (n : Nat) : List Block → Bool
 | [] => true
 | b :: bs => decide (n + b.code.length ≤ 4096) && b.small && smallFrom (n + b.code.length) bs
def Fn.heads (f : Fn) : Bool := decide (f.types.length ≤ 4096) && decide (f.blocks.length ≤ 4096) && decide (f.sig.inn.length ≤ 4096) && decide (f.sig.out.length ≤ 4096)
def Fn.small (f : Fn) : Bool := f.heads && smallFrom 0 f.blocks
def count (bs : List Block) : Nat := (bs.map fun b => b.code.length).sum
theorem smallFrom_all : ∀ {bs : List Block} {n : Nat}, smallFrom n bs = true → (∀ b ∈ bs, b.small = true) ∧ (n ≤ 4096 → n + count bs ≤ 4096)
 | [], n, _ => ⟨by simp, by simp [count]⟩
 | b :: bs, n, h => by
  simp only [smallFrom, Bool.and_eq_true, decide_eq_true_eq] at h
  obtain ⟨⟨h1, h2⟩, h3⟩ := h
  obtain ⟨k1, k2⟩ := smallFrom_all h3
  refine ⟨fun x hx => ?_, fun _ => ?_⟩
  ·rcases List.mem_cons.1 hx with rfl | hx
   ·exact h2
   ·exact k1 x hx
  ·have := k2 h1
   simp only [count, List.map_cons, List.sum_cons] at this ⊢
   omega
theorem smallFrom_mk : ∀ {bs : List Block} {n : Nat}, (∀ b ∈ bs, b.small = true) → n + count bs ≤ 4096 → smallFrom n bs = true
 | [], n, _, _ => rfl
 | b :: bs, n, h, hn => by
  simp only [count, List.map_cons, List.sum_cons] at hn
  simp only [smallFrom, Bool.and_eq_true, decide_eq_true_eq]
  exact ⟨⟨by omega, h b (by simp)⟩, smallFrom_mk (fun x hx => h x (by simp [hx])) (by simp only [count]; omega)⟩
theorem small_iff (f : Fn) : f.small = true ↔ f.heads = true ∧ (∀ b ∈ f.blocks, b.small = true) ∧ count f.blocks ≤ 4096 := by
 simp only [Fn.small, Bool.and_eq_true]
 constructor
 ·rintro ⟨h1, h2⟩
  obtain ⟨k1, k2⟩ := smallFrom_all h2
  exact ⟨h1, k1, by simpa using k2 (by omega)⟩
 ·rintro ⟨h1, h2, h3⟩
  exact ⟨h1, smallFrom_mk h2 (by simpa using h3)⟩
theorem drop_all {α : Type} (p : α → Bool) {l : List α} {k : Nat} (h : k < l.length) : (l.drop k).all p = (p l[k] && (l.drop (k + 1)).all p) := by
 rw [List.drop_eq_getElem_cons h, List.all_cons]
theorem drop_all_end {α : Type} (p : α → Bool) {l : List α} {k : Nat} (h : ¬ k < l.length) : (l.drop k).all p = true := by
 have : l.drop k = [] := by rw [List.drop_eq_nil_iff]; omega
 rw [this]; rfl
theorem drop_small {n : Nat} {l : List Block} {k : Nat} (h : k < l.length) : smallFrom n (l.drop k) = (decide (n + l[k].code.length ≤ 4096) && l[k].small && smallFrom (n + l[k].code.length) (l.drop (k + 1))) := by
 rw [List.drop_eq_getElem_cons h, smallFrom]
theorem drop_small_end {n : Nat} {l : List Block} {k : Nat} (h : ¬ k < l.length) : smallFrom n (l.drop k) = true := by
 have : l.drop k = [] := by rw [List.drop_eq_nil_iff]; omega
 rw [this]; rfl
end Ss

/-
 Graphs that may be: lists of lists of numbers of nodes.
-/
namespace Go.Vw.G
open Go.Vw
structure Ok (g : List (List Nat)) : Prop where
 pos : 1 ≤ g.length
 max : g.length ≤ 256
 row : ∀ l ∈ g, l.length ≤ 128
 elt : ∀ l ∈ g, ∀ n ∈ l, n < g.length
def nats (g : List (List Int)) : List (List Nat) := g.map (·.map Int.toNat)
theorem nats_length (g : List (List Int)) : (nats g).length = g.length := by simp [nats]
theorem rowOk_iff {n : Nat} {l : List Int} : rowOk n l = true ↔ l.length ≤ 128 ∧ ∀ x ∈ l, 0 ≤ x ∧ x < n := by
 simp only [rowOk, Bool.and_eq_true, decide_eq_true_eq, Bool.not_eq_true', List.any_eq_false, wild, Bool.or_eq_true, not_or, decide_eq_true_eq]
 constructor
 ·rintro ⟨h1, h2⟩; exact ⟨h1, fun x hx => by have := h2 x hx; omega⟩
 ·rintro ⟨h1, h2⟩; exact ⟨h1, fun x hx => by have := h2 x hx; omega⟩
theorem right_ok {g : List (List Int)} (h : right g = true) : Ok (nats g) := by
 simp only [right, Bool.and_eq_true, decide_eq_true_eq, List.all_eq_true, rowOk_iff] at h
 obtain ⟨⟨h1, h2⟩, h3⟩ := h
 refine ⟨by rw [nats_length]; exact h1, by rw [nats_length]; exact h2, ?_, ?_⟩
 ·intro l hl
  obtain ⟨r, hr, rfl⟩ := List.mem_map.1 hl
  rw [List.length_map]; exact (h3 r hr).1
 ·intro l hl n hn
  obtain ⟨r, hr, rfl⟩ := List.mem_map.1 hl
  obtain ⟨x, hx, rfl⟩ := List.mem_map.1 hn
  have := (h3 r hr).2 x hx
  rw [nats_length]; omega
theorem right_enc {g : List (List Int)} (h : right g = true) : vl (vl vint) g = vl (vl vnat) (nats g) := by
 simp only [right, Bool.and_eq_true, decide_eq_true_eq, List.all_eq_true, rowOk_iff] at h
 obtain ⟨_, h3⟩ := h
 unfold vl nats
 simp only [V.list.injEq, List.map_map]
 refine List.map_congr_left fun r hr => ?_
 simp only [Function.comp, List.map_map, V.list.injEq]
 refine List.map_congr_left fun x hx => ?_
 have := (h3 r hr).2 x hx
 simp only [Function.comp, vint, vnat, V.int.injEq, true_and]
 omega
abbrev WS := List Bool × List Nat
def walk (g : List (List Nat)) : Nat → Nat → WS → Option WS
 | 0, _, _ => none
 | f + 1, n, s => ((g.getD n []).foldlM (fun (s : WS) k => if s.1.getD k false then some s else walk g f k s) ((s.1.set n true, s.2) : WS)).map fun (s : WS) => ((s.1, s.2 ++ [n]) : WS)
def kids (g : List (List Nat)) (f : Nat) (l : List Nat) (s : WS) : Option WS := l.foldlM (fun (s : WS) k => if s.1.getD k false then some s else walk g f k s) s
theorem walk_succ (g : List (List Nat)) (f n : Nat) (s : WS) : walk g (f + 1) n s = (kids g f (g.getD n []) (s.1.set n true, s.2)).map fun s => (s.1, s.2 ++ [n]) := rfl
theorem kids_nil (g : List (List Nat)) (f : Nat) (s : WS) : kids g f [] s = some s := rfl
theorem kids_cons (g : List (List Nat)) (f k : Nat) (l : List Nat) (s : WS) : kids g f (k :: l) s = if s.1.getD k false then kids g f l s else (walk g f k s).bind (kids g f l) := by
 simp only [kids, List.foldlM_cons]
 cases s.1.getD k false
 ·simp; rfl
 ·simp
theorem kids_len {g : List (List Nat)} {f : Nat} (ih : ∀ n s s', walk g f n s = some s' → s.2.length ≤ s'.2.length ∧ s'.1.length = s.1.length) : ∀ (l : List Nat) (s s' : WS), kids g f l s = some s' → s.2.length ≤ s'.2.length ∧ s'.1.length = s.1.length
 | [], s, s', h => by cases h; exact ⟨Nat.le_refl _, rfl⟩
 | k :: l, s, s', h => by
  rw [kids_cons] at h
  split at h
  ·exact kids_len ih l s s' h
  ·obtain ⟨t, h1, h2⟩ := Option.bind_eq_some_iff.1 h
   have a := ih _ _ _ h1
   have b := kids_len ih l t s' h2
   omega
theorem walk_len (g : List (List Nat)) : ∀ (f n : Nat) (s s' : WS), walk g f n s = some s' → s.2.length ≤ s'.2.length ∧ s'.1.length = s.1.length
 | 0, n, s, s', h => by cases h
 | f + 1, n, s, s', h => by
  rw [walk_succ] at h
  obtain ⟨t, h1, rfl⟩ := Option.map_eq_some_iff.1 h
  have := kids_len (walk_len g f) _ _ _ h1
  simp at this ⊢
  omega
end Go.Vw.G

/-
 The walk in depth ends, with a stack or without.
-/
namespace Go.Vw.G
open Go.Vw
theorem kids_mono {g : List (List Nat)} {f : Nat} (ih : ∀ n s t, walk g f n s = some t → walk g (f + 1) n s = some t) : ∀ (l : List Nat) (s t : WS), kids g f l s = some t → kids g (f + 1) l s = some t
 | [], s, t, h => h
 | k :: l, s, t, h => by
  rw [kids_cons] at h ⊢
  split
  ·rename_i hm; rw [if_pos hm] at h; exact kids_mono ih l s t h
  ·rename_i hm
   rw [if_neg hm] at h
   obtain ⟨u, h1, h2⟩ := Option.bind_eq_some_iff.1 h
   rw [ih _ _ _ h1]
   exact kids_mono ih l u t h2
theorem walk_mono {g : List (List Nat)} : ∀ (f n : Nat) (s t : WS), walk g f n s = some t → walk g (f + 1) n s = some t
 | 0, n, s, t, h => by cases h
 | f + 1, n, s, t, h => by
  rw [walk_succ] at h ⊢
  obtain ⟨u, h1, rfl⟩ := Option.map_eq_some_iff.1 h
  rw [kids_mono (walk_mono f) _ _ _ h1]
  rfl
theorem kids_mono' {g : List (List Nat)} {f : Nat} {l : List Nat} {s t : WS} (h : kids g f l s = some t) : kids g (f + 1) l s = some t := kids_mono (walk_mono f) l s t h
def unmet (m : List Bool) : Nat := m.count false
theorem unmet_set {m : List Bool} {n : Nat} (h : n < m.length) (hf : m[n] = false) : unmet (m.set n true) + 1 = unmet m := by
 unfold unmet
 induction m generalizing n with
 | nil => simp at h
 | cons b m ih =>
  cases n with
  | zero => simp at hf; subst hf; simp
  | succ n =>
   simp at h hf
   have := ih h hf
   simp only [List.set_cons_succ, List.count_cons]
   omega
theorem kids_ends {g : List (List Nat)} {f : Nat} (ih : ∀ n (s : WS), n < g.length → s.1.length = g.length → s.1.getD n false = false → unmet s.1 ≤ f → ∃ t, walk g f n s = some t ∧ t.2.length + unmet t.1 = s.2.length + unmet s.1 ∧ t.1.length = g.length ∧ unmet t.1 ≤ unmet s.1) :
  ∀ (l : List Nat) (s : WS), (∀ k ∈ l, k < g.length) → s.1.length = g.length → unmet s.1 ≤ f → ∃ t, kids g f l s = some t ∧ t.2.length + unmet t.1 = s.2.length + unmet s.1 ∧ t.1.length = g.length ∧ unmet t.1 ≤ unmet s.1
 | [], s, _, hs, _ => ⟨s, rfl, rfl, hs, Nat.le_refl _⟩
 | k :: l, s, hl, hs, hu => by
  rw [kids_cons]
  cases hm : s.1.getD k false with
  | true => simpa using kids_ends ih l s (fun k hk => hl k (List.mem_cons_of_mem _ hk)) hs hu
  | false =>
   obtain ⟨t, h1, h2, h3, h4⟩ := ih k s (hl k List.mem_cons_self) hs hm hu
   obtain ⟨u, k1, k2, k3, k4⟩ := kids_ends ih l t (fun k hk => hl k (List.mem_cons_of_mem _ hk)) h3 (by omega)
   exact ⟨u, by simp [h1, k1], by omega, k3, by omega⟩
theorem walk_ends {g : List (List Nat)} (hg : Ok g) : ∀ (f n : Nat) (s : WS), n < g.length → s.1.length = g.length → s.1.getD n false = false → unmet s.1 ≤ f → ∃ t, walk g f n s = some t ∧ t.2.length + unmet t.1 = s.2.length + unmet s.1 ∧ t.1.length = g.length ∧ unmet t.1 ≤ unmet s.1
 | 0, n, s, hn, hs, hm, hu => by
  exfalso
  have hn' : n < s.1.length := by omega
  have : s.1[n] = false := by simpa [hn'] using hm
  have := unmet_set hn' this
  omega
 | f + 1, n, s, hn, hs, hm, hu => by
  have hn' : n < s.1.length := by omega
  have hf : s.1[n] = false := by simpa [hn'] using hm
  have hc := unmet_set hn' hf
  rw [walk_succ]
  obtain ⟨t, h1, h2, h3, h4⟩ := kids_ends (walk_ends hg f) (g.getD n []) (s.1.set n true, s.2) (by
   have : g.getD n [] = g[n] := by simp [hn]
   rw [this]; exact hg.elt _ (List.getElem_mem hn)) (by simpa using hs) (by simp only; omega)
  simp only at h2 h4
  exact ⟨(t.1, t.2 ++ [n]), by rw [h1]; rfl, by simp; omega, h3, by simp; omega⟩
theorem unmet_rep (n : Nat) : unmet (List.replicate n false) = n := by simp [unmet, List.count_replicate]
theorem order_ends {g : List (List Nat)} (hg : Ok g) : ∃ t, walk g g.length 0 (List.replicate g.length false, []) = some t ∧ t.2.length ≤ g.length ∧ t.1.length = g.length := by
 obtain ⟨t, h1, h2, h3, _⟩ := walk_ends hg g.length 0 (List.replicate g.length false, []) hg.pos (by simp) (by
  have := hg.pos
  simp [List.getElem?_replicate, Nat.lt_of_lt_of_le Nat.zero_lt_one this]) (by simp [unmet_rep])
 simp only [unmet_rep, List.length_nil] at h2
 exact ⟨t, h1, by omega, h3⟩
def resume (g : List (List Nat)) (f : Nat) (next : List Nat) : List Nat → WS → Option WS
 | [], s => some s
 | n :: r, s => (kids g f ((g.getD n []).drop (next.getD n 0)) s).bind fun t => resume g f next r (t.1, t.2 ++ [n])
theorem resume_set {g : List (List Nat)} {f : Nat} {next : List Nat} {n k : Nat} : ∀ (r : List Nat) (s : WS), n ∉ r → resume g f (next.set n k) r s = resume g f next r s
 | [], s, _ => rfl
 | m :: r, s, h => by
  simp only [List.mem_cons, not_or] at h
  simp only [resume]
  have e : (next.set n k).getD m 0 = next.getD m 0 := by
   simp [List.getD_eq_getElem?_getD, List.getElem?_set_ne h.1]
  rw [e]
  congr 1
  funext t
  exact resume_set r _ h.2
structure At (g : List (List Nat)) (f : Nat) (fin : WS) (met : List Bool) (next stack out : List Nat) : Prop where
 lm : met.length = g.length
 ln : next.length = g.length
 nd : stack.Nodup
 lt : ∀ n ∈ stack, n < g.length
 on : ∀ n ∈ stack, met.getD n false = true
 le : ∀ n, next.getD n 0 ≤ (g.getD n []).length
 zero : ∀ n, met.getD n false = false → next.getD n 0 = 0
 go : resume g f next stack.reverse (met, out) = some fin
theorem At.start {g : List (List Nat)} (hg : Ok g) {f : Nat} {fin : WS} (h : walk g (f + 1) 0 (List.replicate g.length false, []) = some fin) :
  At g f fin ((List.replicate g.length false).set 0 true) (List.replicate g.length 0) [0] [] := by
 have hp := hg.pos
 refine ⟨by simp, by simp, by simp, by simp; omega, by
  intro n hn
  simp at hn; subst hn
  have : 0 < (List.replicate g.length false).length := by rw [List.length_replicate]; omega
  simp only [List.getD_eq_getElem?_getD, List.getElem?_set_self this, Option.getD_some], fun n => ?_, fun n _ => ?_, ?_⟩
 ·simp [List.getElem?_replicate]; split <;> simp
 ·simp [List.getElem?_replicate]; split <;> simp
 ·rw [walk_succ] at h
  obtain ⟨t, h1, h2⟩ := Option.map_eq_some_iff.1 h
  have e : (List.replicate g.length 0).getD 0 0 = 0 := by simp [List.getElem?_replicate]; split <;> simp
  simp only [List.reverse_cons, List.reverse_nil, List.nil_append, resume, e, List.drop_zero]
  rw [h1]
  simp [← h2]
section
variable {g : List (List Nat)} {f : Nat} {fin : WS} {met : List Bool} {next stack out : List Nat} {n : Nat}
theorem getD_set_self' {α : Type} {l : List α} {i : Nat} {a d : α} (h : i < l.length) : (l.set i a).getD i d = a := by simp [h]
theorem getD_set_other {α : Type} {l : List α} {i j : Nat} {a d : α} (h : i ≠ j) : (l.set i a).getD j d = l.getD j d := by
 simp [List.getElem?_set_ne h]
theorem At.seen (h : At g f fin met next (stack ++ [n]) out) (hk : next.getD n 0 < (g.getD n []).length) (hm : met.getD ((g.getD n [])[next.getD n 0]) false = true) : At g f fin met (next.set n (next.getD n 0 + 1)) (stack ++ [n]) out := by
 have hn : n < g.length := h.lt n (by simp)
 have hnn : n < next.length := by rw [h.ln]; exact hn
 have hnot : n ∉ stack.reverse := by
  have := h.nd
  rw [List.nodup_append] at this
  intro hc
  exact this.2.2 n (by simpa using hc) n (by simp) rfl
 refine ⟨h.lm, by simpa using h.ln, h.nd, h.lt, h.on, fun m => ?_, fun m hmm => ?_, ?_⟩
 ·by_cases e : n = m
  ·subst e; rw [getD_set_self' hnn]; omega
  ·rw [getD_set_other e]; exact h.le m
 ·by_cases e : n = m
  ·subst e; have := h.on n (by simp); rw [hmm] at this; cases this
  ·rw [getD_set_other e]; exact h.zero m hmm
 ·have hgo := h.go
  rw [List.reverse_append] at hgo ⊢
  simp only [List.reverse_cons, List.reverse_nil, List.nil_append, List.singleton_append, resume] at hgo ⊢
  rw [getD_set_self' hnn]
  rw [List.drop_eq_getElem_cons hk, kids_cons, if_pos (by exact hm)] at hgo
  rw [← hgo]
  congr 1
  funext t
  exact resume_set _ _ hnot
theorem At.push (h : At g f fin met next (stack ++ [n]) out) (hg : Ok g) (hk : next.getD n 0 < (g.getD n []).length) {c : Nat} (hc : (g.getD n [])[next.getD n 0] = c) (hm : met.getD c false = false) : At g f fin (met.set c true) (next.set n (next.getD n 0 + 1)) (stack ++ [n] ++ [c]) out := by
 have hn : n < g.length := h.lt n (by simp)
 have hnn : n < next.length := by rw [h.ln]; exact hn
 have hcl : c < g.length := by
  have e : g.getD n [] = g[n] := by simp [hn]
  rw [← hc]
  have := hg.elt (g.getD n []) (by rw [e]; exact List.getElem_mem hn) _ (List.getElem_mem hk)
  exact this
 have hcm : c < met.length := by rw [h.lm]; exact hcl
 have hcn : c ∉ stack ++ [n] := fun hin => by have := h.on c hin; rw [hm] at this; cases this
 have hne : n ≠ c := fun e => hcn (by rw [← e]; simp)
 have hnot : n ∉ stack.reverse := by
  have := h.nd
  rw [List.nodup_append] at this
  intro hc
  exact this.2.2 n (by simpa using hc) n (by simp) rfl
 refine ⟨by simpa using h.lm, by simpa using h.ln, ?_, ?_, ?_, fun m => ?_, fun m hmm => ?_, ?_⟩
 ·rw [List.nodup_append]
  exact ⟨h.nd, by simp, fun a ha b hb => by simp at hb; subst hb; intro e; subst e; exact hcn ha⟩
 ·intro m hmm
  rcases List.mem_append.1 hmm with hm1 | hm1
  ·exact h.lt m hm1
  ·simp at hm1; subst hm1; exact hcl
 ·intro m hmm
  by_cases e : c = m
  ·subst e; exact getD_set_self' hcm
  ·rw [getD_set_other e]
   rcases List.mem_append.1 hmm with hm1 | hm1
   ·exact h.on m hm1
   ·simp at hm1; exact absurd hm1.symm e
 ·by_cases e : n = m
  ·subst e; rw [getD_set_self' hnn]; omega
  ·rw [getD_set_other e]; exact h.le m
 ·have hmc : m ≠ c := by
   intro e; subst e
   rw [getD_set_self' hcm] at hmm; cases hmm
  rw [getD_set_other (Ne.symm hmc)] at hmm
  by_cases e : n = m
  ·subst e; have := h.on n (by simp); rw [hmm] at this; cases this
  ·rw [getD_set_other e]; exact h.zero m hmm
 ·have hgo := h.go
  rw [List.reverse_append] at hgo ⊢
  rw [List.reverse_append]
  simp only [List.reverse_cons, List.reverse_nil, List.nil_append, List.singleton_append, resume, List.cons_append] at hgo ⊢
  rw [getD_set_self' hnn, getD_set_other hne, h.zero c hm, List.drop_zero]
  rw [List.drop_eq_getElem_cons hk, kids_cons, hc, if_neg (by simpa using hm)] at hgo
  obtain ⟨t, h1, h2⟩ := Option.bind_eq_some_iff.1 hgo
  obtain ⟨u, h3, h4⟩ := Option.bind_eq_some_iff.1 h1
  cases f with
  | zero => cases h3
  | succ f =>
   rw [walk_succ] at h3
   obtain ⟨v, h5, h6⟩ := Option.map_eq_some_iff.1 h3
   simp only at h5
   rw [kids_mono' h5]
   subst h6
   simp only [Option.bind_some]
   rw [h4]
   simp only [Option.bind_some]
   rw [resume_set _ _ hnot]
   exact h2
theorem At.pop (h : At g f fin met next (stack ++ [n]) out) (hk : ¬ next.getD n 0 < (g.getD n []).length) : At g f fin met next stack (out ++ [n]) := by
 refine ⟨h.lm, h.ln, (List.nodup_append.1 h.nd).1, fun m hm => h.lt m (by simp [hm]), fun m hm => h.on m (by simp [hm]), h.le, h.zero, ?_⟩
 have hgo := h.go
 rw [List.reverse_append] at hgo
 simp only [List.reverse_cons, List.reverse_nil, List.nil_append, List.singleton_append, resume] at hgo
 rw [List.drop_eq_nil_of_le (by omega), kids_nil] at hgo
 exact hgo
theorem At.done (h : At g f fin met next [] out) : fin = (met, out) := by
 have := h.go
 simp only [List.reverse_nil, resume, Option.some.injEq] at this
 exact this.symm
theorem At.seen' (h : At g f fin met next (stack ++ [n]) out) {row : List Nat} {k c : Nat} (hrow : g[n]? = some row) (hk : next[n]? = some k) (hc : row[k]? = some c) (hm : met[c]? = some true) : At g f fin met (next.set n (k + 1)) (stack ++ [n]) out := by
 have ek : next.getD n 0 = k := by simp [List.getD_eq_getElem?_getD, hk]
 have er : g.getD n [] = row := by simp [List.getD_eq_getElem?_getD, hrow]
 have hlt := (List.getElem?_eq_some_iff.1 hc)
 have := h.seen
 subst ek; subst er
 exact this hlt.1 (by rw [hlt.2]; simp [hm])
theorem At.push' (h : At g f fin met next (stack ++ [n]) out) (hg : Ok g) {row : List Nat} {k c : Nat} (hrow : g[n]? = some row) (hk : next[n]? = some k) (hc : row[k]? = some c) (hm : met[c]? = some false) : At g f fin (met.set c true) (next.set n (k + 1)) (stack ++ [n] ++ [c]) out := by
 have ek : next.getD n 0 = k := by simp [List.getD_eq_getElem?_getD, hk]
 have er : g.getD n [] = row := by simp [List.getD_eq_getElem?_getD, hrow]
 have hlt := (List.getElem?_eq_some_iff.1 hc)
 subst ek; subst er
 exact h.push hg hlt.1 hlt.2 (by simp [hm])
theorem At.pop' (h : At g f fin met next (stack ++ [n]) out) {row : List Nat} {k : Nat} (hrow : g[n]? = some row) (hk : next[n]? = some k) (hge : ¬ k < row.length) : At g f fin met next stack (out ++ [n]) := by
 have ek : next.getD n 0 = k := by simp [List.getD_eq_getElem?_getD, hk]
 have er : g.getD n [] = row := by simp [List.getD_eq_getElem?_getD, hrow]
 exact h.pop (by rw [ek, er]; exact hge)
theorem resume_len : ∀ (r : List Nat) (s t : WS), resume g f next r s = some t → s.2.length + r.length ≤ t.2.length
 | [], s, t, h => by cases h; simp
 | m :: r, s, t, h => by
  simp only [resume] at h
  obtain ⟨u, h1, h2⟩ := Option.bind_eq_some_iff.1 h
  have a := (kids_len (walk_len g f) _ _ _ h1).1
  have b := resume_len r _ _ h2
  simp at b ⊢
  omega
theorem At.out_le (h : At g f fin met next stack out) : out.length + stack.length ≤ fin.2.length := by
 have := resume_len _ _ _ h.go
 simpa using this
end
def metFrom (g : List (List Nat)) (m : List Bool) : List Bool := ((walk g g.length 0 (m, [])).getD (m, [])).1
def without (g : List (List Nat)) : Option Nat → List Bool
 | none => metFrom g (List.replicate g.length false)
 | some a => if a = 0 then List.replicate g.length false else (metFrom g ((List.replicate g.length false).set a true)).set a false
theorem metFrom_ends {g : List (List Nat)} (hg : Ok g) {m : List Bool} (hm : m.length = g.length) (h0 : m.getD 0 false = false) : ∃ t, walk g g.length 0 (m, []) = some t ∧ metFrom g m = t.1 ∧ t.2.length ≤ g.length ∧ t.1.length = g.length := by
 have hu : unmet m ≤ g.length := by rw [← hm]; exact List.count_le_length
 obtain ⟨t, h1, h2, h3, _⟩ := walk_ends hg g.length 0 (m, []) hg.pos hm h0 hu
 exact ⟨t, h1, by simp [metFrom, h1], by simp at h2; omega, h3⟩
theorem metFrom_length {g : List (List Nat)} (hg : Ok g) {m : List Bool} (hm : m.length = g.length) (h0 : m.getD 0 false = false) : (metFrom g m).length = g.length := by
 obtain ⟨t, h1, h2, h3, h4⟩ := metFrom_ends hg hm h0
 rw [h2]; exact h4
theorem rep_getD (n k : Nat) : (List.replicate n false).getD k false = false := by
 simp [List.getElem?_replicate]; split <;> rfl
theorem without_length {g : List (List Nat)} (hg : Ok g) (a : Option Nat) : (without g a).length = g.length := by
 cases a with
 | none => exact metFrom_length hg (by simp) (rep_getD _ _)
 | some a =>
  simp only [without]
  split
  ·simp
  ·rename_i h
   rw [List.length_set]
   exact metFrom_length hg (by simp) (by rw [getD_set_other h]; exact rep_getD _ _)
def order (g : List (List Nat)) : List Nat := ((walk g g.length 0 (List.replicate g.length false, [])).getD ([], [])).2.reverse
def tableRow (g : List (List Nat)) (a : Nat) : List Bool :=
 if (without g none).getD a false then (List.range g.length).map fun b => (without g none).getD b false && !((without g (some a)).getD b false) else List.replicate g.length false
def table (g : List (List Nat)) : List (List Bool) := (List.range g.length).map (tableRow g)
def tabAt (t : List (List Bool)) (a b : Nat) : Bool := (t.getD a []).getD b false
def cntTo (t : List (List Bool)) (a : Nat) : Nat → Nat
 | 0 => 0
 | c + 1 => if tabAt t c a then cntTo t a c + 1 else cntTo t a c
def bestTo (t : List (List Bool)) (n b : Nat) : Nat → Int × Nat
 | 0 => (-1, 0)
 | a + 1 => if a ≠ b ∧ tabAt t a b = true ∧ (bestTo t n b a).2 < cntTo t a n then ((a : Int), cntTo t a n) else bestTo t n b a
def rNear (g : List (List Nat)) : List Int := (List.range g.length).map fun b => (bestTo (table g) g.length b g.length).1
theorem cntTo_le (t : List (List Bool)) (a : Nat) : ∀ c, cntTo t a c ≤ c
 | 0 => Nat.le_refl _
 | c + 1 => by have := cntTo_le t a c; simp only [cntTo]; split <;> omega
theorem tableRow_length (g : List (List Nat)) (a : Nat) : (tableRow g a).length = g.length := by simp only [tableRow]; split <;> simp
end Go.Vw.G
