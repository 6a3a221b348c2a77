import Derived.Test.YtmfpoangempgaaaGreatC12
import Derived.Test.YtmfpoangempgaaaGreatC11
import Derived.Test.YtmfpoangempgaaaGreatProg
import Derived.OpenShut
/-
  Part of the proof (texts GSpec, SEnc, SRd, SIdx).
-/
set_option linter.unusedVariables false
set_option linter.unusedSimpArgs false
/-
  What the functions of layer 7 compute, in plain Lean.
-/
namespace Go.Vw.G

def okIx (l : List Int) (n : Int) : Prop := 0 ≤ n ∧ n < l.length
instance (l : List Int) (n : Int) : Decidable (okIx l n) := inferInstanceAs (Decidable (_ ∧ _))

/-- Up the list of nearest ones, so many steps at most. -/
def dom1 (l : List Int) (a : Int) : Nat → Int → Bool
  | 0, _ => false
  | n + 1, b => if okIx l b then (if a = b then true else dom1 l a n (l.getD b.toNat 0)) else false

def dominates (l : List Int) (a b : Int) : Bool := if okIx l a then dom1 l a 257 b else false

/-- Not the number of a node. -/
def wild (len : Nat) (n : Int) : Bool := decide (n < 0) || decide ((len : Int) ≤ n)

/-- The first place of one that is told true, from place k on. -/
def find (p : Int → Bool) : List Int → Nat → Int
  | [], _ => -1
  | x :: xs, k => if p x then k else find p xs (k + 1)

theorem find_any (p : Int → Bool) : ∀ (l : List Int) (k : Nat), decide (0 ≤ find p l k) = l.any p
  | [], k => by simp [find]
  | x :: xs, k => by
      cases h : p x
      · simp [find, h, find_any p xs (k + 1)]
      · simp [find, h]

def rowOk (len : Nat) (l : List Int) : Bool := decide (l.length ≤ 128) && !(l.any (wild len))

def right (g : List (List Int)) : Bool := decide (1 ≤ g.length) && decide (g.length ≤ 256) && g.all (rowOk g.length)

end Go.Vw.G

/-
  Functions in SSA form, told plainly; what they read as.
-/
namespace Ss
structure Sig where
  inn : List Int
  out : List Int
deriving DecidableEq, Inhabited
structure Ins where
  op : Int
  n : Int
  args : List Int
  outs : List Int
deriving DecidableEq, Inhabited
structure Edge where
  to : Int
  args : List Int
deriving DecidableEq, Inhabited
structure Term where
  kind : Int
  arg : Int
  to : List Edge
  args : List Int
deriving DecidableEq, Inhabited
structure Block where
  params : List Int
  code : List Ins
  term : Term
deriving DecidableEq, Inhabited
structure Fn where
  sig : Sig
  types : List Int
  blocks : List Block
deriving DecidableEq, Inhabited
structure Env where
  sigs : List Sig
  imports : Int
  globals : List Int
  muts : List Bool
  mem : Bool
deriving DecidableEq, Inhabited

/-- What a number of a machine's word may be. -/
def I64 (n : Int) : Prop := -9223372036854775808 ≤ n ∧ n ≤ 9223372036854775807
def Ints (l : List Int) : Prop := l.length ≤ 140737488355328 ∧ ∀ n ∈ l, I64 n
def Sig.Fits (s : Sig) : Prop := Ints s.inn ∧ Ints s.out
def Ins.Fits (x : Ins) : Prop := I64 x.op ∧ (0 ≤ x.n ∧ x.n < 18446744073709551616) ∧ Ints x.args ∧ Ints x.outs
def Edge.Fits (x : Edge) : Prop := I64 x.to ∧ Ints x.args
def Term.Fits (t : Term) : Prop := I64 t.kind ∧ I64 t.arg ∧ (t.to.length ≤ 140737488355328 ∧ ∀ x ∈ t.to, x.Fits) ∧ Ints t.args
def Block.Fits (b : Block) : Prop := Ints b.params ∧ (b.code.length ≤ 140737488355328 ∧ ∀ x ∈ b.code, x.Fits) ∧ b.term.Fits
def Fn.Fits (f : Fn) : Prop := f.sig.Fits ∧ Ints f.types ∧ (f.blocks.length ≤ 140737488355328 ∧ ∀ b ∈ f.blocks, b.Fits)
def Env.Fits (e : Env) : Prop := (e.sigs.length ≤ 140737488355328 ∧ ∀ s ∈ e.sigs, s.Fits) ∧ I64 e.imports ∧ Ints e.globals ∧ e.muts.length ≤ 140737488355328
end Ss
namespace Go.Vw
def vu (n : Int) : V := .int .u64 n
def encSig (s : Ss.Sig) : V := .agg [vl vint s.inn, vl vint s.out]
def encIns (x : Ss.Ins) : V := .agg [vint x.op, vu x.n, vl vint x.args, vl vint x.outs]
def encEdge (x : Ss.Edge) : V := .agg [vint x.to, vl vint x.args]
def encTerm (t : Ss.Term) : V := .agg [vint t.kind, vint t.arg, vl encEdge t.to, vl vint t.args]
def encBlock (b : Ss.Block) : V := .agg [vl vint b.params, vl encIns b.code, vint b.term.kind, vint b.term.arg, vl encEdge b.term.to, vl vint b.term.args]
def encFn (f : Ss.Fn) : V := .agg [vl vint f.sig.inn, vl vint f.sig.out, vl vint f.types, vl encBlock f.blocks]
def encEnv (e : Ss.Env) : V := .agg [vl encSig e.sigs, vint e.imports, vl vint e.globals, vl V.bool e.muts, .bool e.mem]
theorem encSig_closed (x : Ss.Sig) : (encSig x).closed = true := rfl
theorem encIns_closed (x : Ss.Ins) : (encIns x).closed = true := rfl
theorem encEdge_closed (x : Ss.Edge) : (encEdge x).closed = true := rfl
theorem encBlock_closed (x : Ss.Block) : (encBlock x).closed = true := rfl
theorem encSig_cells (x : Ss.Sig) : (encSig x).cells = [vl vint x.inn, vl vint x.out] := nr rfl
theorem encIns_cells (x : Ss.Ins) : (encIns x).cells = [vint x.op, vu x.n, vl vint x.args, vl vint x.outs] := nr rfl
theorem encEdge_cells (x : Ss.Edge) : (encEdge x).cells = [vint x.to, vl vint x.args] := nr rfl
theorem encBlock_cells (b : Ss.Block) : (encBlock b).cells = [vl vint b.params, vl encIns b.code, vint b.term.kind, vint b.term.arg, vl encEdge b.term.to, vl vint b.term.args] := nr rfl
theorem encSig_nc (x : Ss.Sig) : (encSig x).ncells = 2 := nr rfl
theorem encIns_nc (x : Ss.Ins) : (encIns x).ncells = 4 := nr rfl
theorem encEdge_nc (x : Ss.Edge) : (encEdge x).ncells = 2 := nr rfl
theorem encBlock_nc (x : Ss.Block) : (encBlock x).ncells = 6 := nr rfl
theorem encSig_eq (s : Ss.Sig) : encSig s = .agg [vl vint s.inn, vl vint s.out] := nr rfl
theorem encIns_eq (x : Ss.Ins) : encIns x = .agg [vint x.op, vu x.n, vl vint x.args, vl vint x.outs] := nr rfl
theorem encEdge_eq (x : Ss.Edge) : encEdge x = .agg [vint x.to, vl vint x.args] := nr rfl
theorem encTerm_eq (t : Ss.Term) : encTerm t = .agg [vint t.kind, vint t.arg, vl encEdge t.to, vl vint t.args] := nr rfl
theorem encBlock_eq (b : Ss.Block) : encBlock b = .agg [vl vint b.params, vl encIns b.code, vint b.term.kind, vint b.term.arg, vl encEdge b.term.to, vl vint b.term.args] := nr rfl
theorem encFn_eq (f : Ss.Fn) : encFn f = .agg [vl vint f.sig.inn, vl vint f.sig.out, vl vint f.types, vl encBlock f.blocks] := nr rfl
theorem encEnv_eq (e : Ss.Env) : encEnv e = .agg [vl encSig e.sigs, vint e.imports, vl vint e.globals, vl V.bool e.muts, .bool e.mem] := nr rfl
theorem one_vu (n : Int) : (vu n).one = true := nr rfl
theorem resV_one (t : Nat) (σ : Fr) : resV [t] σ = σ.look t := nr rfl
theorem resV_two (t u : Nat) (σ : Fr) : resV [t, u] σ = .tuple [σ.look t, σ.look u] := nr rfl
theorem resV_3 (t u v : Nat) (σ : Fr) : resV [t, u, v] σ = .tuple [σ.look t, σ.look u, σ.look v] := nr rfl
theorem resV_4 (t u v w : Nat) (σ : Fr) : resV [t, u, v, w] σ = .tuple [σ.look t, σ.look u, σ.look v, σ.look w] := nr rfl
theorem resV_nil (σ : Fr) : resV [] σ = .tuple [] := nr rfl
attribute [simp] resV_one resV_two resV_3 resV_4 resV_nil encSig_nc encIns_nc encEdge_nc encBlock_nc encSig_eq encIns_eq encEdge_eq encTerm_eq encBlock_eq encFn_eq encEnv_eq one_vu vu
theorem vcall_useH {P : Program} {z : Option ZZ} {σ : Fr} {S : Store} {K : Fr → Store → Prop} {d : Option Nat} {f : FuncId} {args : List Arg} {xs : List V} {r : List CO} {X : V} (h : VPure P f xs X) (ha : args.map (ev σ) = xs) (H : vsegG P z r K (σ.put d X) S) : vsegG P z (⟨d, none, .call f args⟩ :: r) K σ S := vcall_use ha h H
theorem vcallv_useH {P : Program} {z : Option ZZ} {σ : Fr} {S : Store} {K : Fr → Store → Prop} {d : Option Nat} {g : FuncId} {caps : List V} {fz : Arg} {args : List Arg} {xs : List V} {r : List CO} {X : V} (h : VPure P g xs X) (hf : ev σ fz = .func g caps) (hc : callable P g = true) (ha : args.map (ev σ) ++ caps = xs) (H : vsegG P z r K (σ.put d X) S) : vsegG P z (⟨d, none, .callv fz args⟩ :: r) K σ S := vcallv_use hf hc ha h H
/-- One of the list's. -/
theorem wrapNat {k n : Nat} (h : k < n) (hn : n < 2 ^ 63) : IntKind.i64.wrap ((k : Int) + 1) = (k : Int) + 1 := wrap_i64 (by omega) (by omega)
end Go.Vw

namespace Go.Vw
open Go.Proofs Go.RowKit Go.ChangeShapes Go.WideShapes
set_option maxRecDepth 100000

theorem few_of {l b : Nat} (hb : 1 ≤ b) (h : l * b ≤ 140737488351232) : l ≤ 140737488355328 := by
  have : l * 1 ≤ l * b := Nat.mul_le_mul_left _ hb
  omega
theorem i64_of {n : Int} (h : (Lit.int .i64 n).wf = true) : Ss.I64 n := bounds_i64 h

theorem rdInt : ReadsC Tryz.prog 3 (fun n : Int => [vint n]) Ss.I64 :=
  (ReadsC.int Tryz.underlying3).map id (fun _ => rfl) (fun n h => i64_of h)
theorem rdU64 : ReadsC Tryz.prog 52 (fun n : Int => [vu n]) (fun n => 0 ≤ n ∧ n < 18446744073709551616) :=
  (ReadsC.int Tryz.underlying52).map id (fun _ => rfl) (fun n h => by have h1 := bounds_u64 h; simp only [id]; omega)
theorem rdBool : ReadsC Tryz.prog 4 (fun b : Bool => [.bool b]) (fun _ => True) := ReadsC.bool Tryz.underlying4
theorem rdInts : ReadsC Tryz.prog 23 (fun l : List Int => [vl vint l]) Ss.Ints :=
  (ReadsC.slice vint Tryz.underlying23 rdInt (of_decide_eq_true (by kernel_rfl)) (fun _ => .inr rfl)).map id (fun _ => rfl) (fun l h => ⟨few_of (of_decide_eq_true (by kernel_rfl)) h.1.2, h.2⟩)
theorem rdBools : ReadsC Tryz.prog 24 (fun l : List Bool => [vl V.bool l]) (fun l => l.length ≤ 140737488355328) :=
  (ReadsC.slice V.bool Tryz.underlying24 rdBool (of_decide_eq_true (by kernel_rfl)) (fun _ => .inr rfl)).map id (fun _ => rfl) (fun l h => few_of (of_decide_eq_true (by kernel_rfl)) h.1.2)
theorem rdSig : ReadsC Tryz.prog 28 (fun s : Ss.Sig => [vl vint s.inn, vl vint s.out]) Ss.Sig.Fits :=
  (ReadsC.struct Tryz.underlying28 (by kernel_rfl) (ReadsF.cons (by kernel_rfl) rdInts (ReadsF.cons (by kernel_rfl) rdInts ReadsF.nil))).map (fun p => (⟨p.1, p.2.1⟩ : Ss.Sig)) (fun _ => rfl) (fun p h => ⟨h.1, h.2.1⟩)
theorem rdSigs : ReadsC Tryz.prog 22 (fun l : List Ss.Sig => [vl encSig l]) (fun l => l.length ≤ 140737488355328 ∧ ∀ s ∈ l, s.Fits) :=
  (ReadsC.slice encSig Tryz.underlying22 rdSig (of_decide_eq_true (by kernel_rfl)) (fun _ => .inl rfl)).map id (fun _ => rfl) (fun l h => ⟨few_of (of_decide_eq_true (by kernel_rfl)) h.1.2, h.2⟩)
theorem rdIns : ReadsC Tryz.prog 54 (fun x : Ss.Ins => [vint x.op, vu x.n, vl vint x.args, vl vint x.outs]) Ss.Ins.Fits :=
  (ReadsC.struct Tryz.underlying54 (by kernel_rfl) (ReadsF.cons (by kernel_rfl) rdInt (ReadsF.cons (by kernel_rfl) rdU64 (ReadsF.cons (by kernel_rfl) rdInts (ReadsF.cons (by kernel_rfl) rdInts ReadsF.nil))))).map (fun p => (⟨p.1, p.2.1, p.2.2.1, p.2.2.2.1⟩ : Ss.Ins)) (fun _ => rfl) (fun p h => ⟨h.1, h.2.1, h.2.2.1, h.2.2.2.1⟩)
theorem rdInss : ReadsC Tryz.prog 45 (fun l : List Ss.Ins => [vl encIns l]) (fun l => l.length ≤ 140737488355328 ∧ ∀ s ∈ l, s.Fits) :=
  (ReadsC.slice encIns Tryz.underlying45 rdIns (of_decide_eq_true (by kernel_rfl)) (fun _ => .inl rfl)).map id (fun _ => rfl) (fun l h => ⟨few_of (of_decide_eq_true (by kernel_rfl)) h.1.2, h.2⟩)
theorem rdEdge : ReadsC Tryz.prog 80 (fun x : Ss.Edge => [vint x.to, vl vint x.args]) Ss.Edge.Fits :=
  (ReadsC.struct Tryz.underlying80 (by kernel_rfl) (ReadsF.cons (by kernel_rfl) rdInt (ReadsF.cons (by kernel_rfl) rdInts ReadsF.nil))).map (fun p => (⟨p.1, p.2.1⟩ : Ss.Edge)) (fun _ => rfl) (fun p h => ⟨h.1, h.2.1⟩)
theorem rdEdges : ReadsC Tryz.prog 46 (fun l : List Ss.Edge => [vl encEdge l]) (fun l => l.length ≤ 140737488355328 ∧ ∀ s ∈ l, s.Fits) :=
  (ReadsC.slice encEdge Tryz.underlying46 rdEdge (of_decide_eq_true (by kernel_rfl)) (fun _ => .inl rfl)).map id (fun _ => rfl) (fun l h => ⟨few_of (of_decide_eq_true (by kernel_rfl)) h.1.2, h.2⟩)
theorem rdTerm : ReadsC Tryz.prog 48 (fun t : Ss.Term => [vint t.kind, vint t.arg, vl encEdge t.to, vl vint t.args]) Ss.Term.Fits :=
  (ReadsC.struct Tryz.underlying48 (by kernel_rfl) (ReadsF.cons (by kernel_rfl) rdInt (ReadsF.cons (by kernel_rfl) rdInt (ReadsF.cons (by kernel_rfl) rdEdges (ReadsF.cons (by kernel_rfl) rdInts ReadsF.nil))))).map (fun p => (⟨p.1, p.2.1, p.2.2.1, p.2.2.2.1⟩ : Ss.Term)) (fun _ => rfl) (fun p h => ⟨h.1, h.2.1, h.2.2.1, h.2.2.2.1⟩)
theorem rdBlock : ReadsC Tryz.prog 50 (fun b : Ss.Block => [vl vint b.params, vl encIns b.code, vint b.term.kind, vint b.term.arg, vl encEdge b.term.to, vl vint b.term.args]) Ss.Block.Fits :=
  (ReadsC.struct Tryz.underlying50 (by kernel_rfl) (ReadsF.cons (by kernel_rfl) rdInts (ReadsF.cons (by kernel_rfl) rdInss (ReadsF.cons (by kernel_rfl) rdTerm ReadsF.nil)))).map (fun p => (⟨p.1, p.2.1, p.2.2.1⟩ : Ss.Block)) (fun _ => rfl) (fun p h => ⟨h.1, h.2.1, h.2.2.1⟩)
theorem rdBlocks : ReadsC Tryz.prog 29 (fun l : List Ss.Block => [vl encBlock l]) (fun l => l.length ≤ 140737488355328 ∧ ∀ s ∈ l, s.Fits) :=
  (ReadsC.slice encBlock Tryz.underlying29 rdBlock (of_decide_eq_true (by kernel_rfl)) (fun _ => .inl rfl)).map id (fun _ => rfl) (fun l h => ⟨few_of (of_decide_eq_true (by kernel_rfl)) h.1.2, h.2⟩)
theorem rdFn : ReadsC Tryz.prog 31 (fun f : Ss.Fn => [vl vint f.sig.inn, vl vint f.sig.out, vl vint f.types, vl encBlock f.blocks]) Ss.Fn.Fits :=
  (ReadsC.struct Tryz.underlying31 (by kernel_rfl) (ReadsF.cons (by kernel_rfl) rdSig (ReadsF.cons (by kernel_rfl) rdInts (ReadsF.cons (by kernel_rfl) rdBlocks ReadsF.nil)))).map (fun p => (⟨p.1, p.2.1, p.2.2.1⟩ : Ss.Fn)) (fun _ => rfl) (fun p h => ⟨h.1, h.2.1, h.2.2.1⟩)
theorem rdEnv : ReadsC Tryz.prog 26 (fun e : Ss.Env => [vl encSig e.sigs, vint e.imports, vl vint e.globals, vl V.bool e.muts, .bool e.mem]) Ss.Env.Fits :=
  (ReadsC.struct Tryz.underlying26 (by kernel_rfl) (ReadsF.cons (by kernel_rfl) rdSigs (ReadsF.cons (by kernel_rfl) rdInt (ReadsF.cons (by kernel_rfl) rdInts (ReadsF.cons (by kernel_rfl) rdBools (ReadsF.cons (by kernel_rfl) rdBool ReadsF.nil)))))).map (fun p => (⟨p.1, p.2.1, p.2.2.1, p.2.2.2.1, p.2.2.2.2.1⟩ : Ss.Env)) (fun _ => rfl) (fun p h => ⟨h.1, h.2.1, h.2.2.1, h.2.2.2.1⟩)
end Go.Vw

namespace Go.Vw
open Go.Proofs Go.RowKit
set_option maxRecDepth 10000
set_option maxHeartbeats 4000000

/-- The first place where a test holds, from a number on; -1: none. -/
def findI {α : Type} (p : α → Bool) : List α → Nat → Int
  | [], _ => -1
  | x :: xs, k => if p x then (k : Int) else findI p xs (k + 1)
theorem findI_any {α : Type} (p : α → Bool) : ∀ (l : List α) (k : Nat), decide (0 ≤ findI p l k) = l.any p
  | [], k => by simp [findI]
  | x :: xs, k => by
      cases h : p x
      · simp [findI, h, findI_any p xs (k + 1)]
      · simp [findI, h]

/-- The same lists, by a test of elements. -/
def eqF {α : Type} (p : α → α → Bool) : List α → List α → Bool
  | [], [] => true
  | x :: xs, y :: ys => p x y && eqF p xs ys
  | _, _ => false
theorem eqF_len {α : Type} {p : α → α → Bool} : ∀ {l m : List α}, ¬ l.length = m.length → eqF p l m = false
  | [], [], h => absurd rfl h
  | [], _ :: _, _ => rfl
  | _ :: _, [], _ => rfl
  | x :: xs, y :: ys, h => by rw [eqF, eqF_len (l := xs) (m := ys) (by simpa using h)]; simp
theorem eqF_eq {α : Type} [DecidableEq α] {p : α → α → Bool} (hp : ∀ x y, p x y = decide (x = y)) : ∀ (l m : List α), eqF p l m = decide (l = m)
  | [], [] => by simp [eqF]
  | [], _ :: _ => by simp [eqF]
  | _ :: _, [] => by simp [eqF]
  | x :: xs, y :: ys => by rw [eqF, hp, eqF_eq hp xs ys]; simp

theorem IndexL_v (l : List (List Int)) (p : List Int → Bool) (fid : FuncId) (caps : List V) (hc : callable Tryz.prog fid = true) (hl : l.length < 2^63) (h : ∀ x ∈ l, VPure Tryz.prog fid ([vl vint x] ++ caps) (.bool (p x))) :
    VPure Tryz.prog 91 [vl (vl vint) l, .func fid caps] (vint (findI p l 0)) := by
  intro S
  refine vcalls_start (c := bodyOf Tryz.f91) Tryz.func91 rfl rfl (by simp [Tryz.ntmps91]) ?_
  rw [Tryz.ntmps91]
  intro hwf
  repeat (first|refine QG ?_|refine QX (r:=by conv=>lhs;simp[-List.map_set,QV]) (k:=?_))
  repeat refine QS ?_
  refine vw_loopAt [0, 1, 7, 8] rfl (fun c σ S' => ∃ (k : Nat), k ≤ l.length ∧ c = l.length - k ∧ findI p (l.drop k) k = findI p l 0 ∧ σ = [(0, vl (vl vint) l), (1, .func fid caps), (7, vnat l.length), (8, vnat k)] ∧ S' = St S [] []) l.length ?_ ?_
  · exact ⟨0, by omega, rfl, rfl, by simp [Fr.only], rfl⟩
  · rintro c σ T ⟨k, hk, rfl, hd, rfl, rfl⟩
    by_cases hkt : k < l.length
    · have hst : findI p (l.drop k) k = if p l[k] then (k : Int) else findI p (l.drop (k + 1)) (k + 1) := by rw [List.drop_eq_getElem_cons hkt, findI]
      have hw := wrapNat hkt hl
      repeat (first|refine QG ?_|refine QX (r:=by conv=>lhs;simp[-List.map_set,QV,hkt]) (k:=?_))
      repeat refine QS ?_
      refine QR (r:=by conv=>lhs;simp[-List.map_set,QV,hkt]) (k:=?_)
      refine vcallv_use rfl hc rfl (h _ (List.getElem_mem hkt)) ?_
      refine QM (by conv=>lhs;simp[-List.map_set,QV]) ?_
      refine QN ?_
      cases hp : p l[k] with
      | true =>
        rw [hp] at hst
        repeat (first|refine QG ?_|refine QX (r:=by conv=>lhs;simp[-List.map_set,QV,hp]) (k:=?_))
        exact done_pure hwf (by rw [← hd, hst]; rfl) rfl
      | false =>
        rw [hp] at hst
        repeat (first|refine QG ?_|refine QX (r:=by conv=>lhs;simp[-List.map_set,QV,hp]) (k:=?_))
        show Again _ _ _ _ _ _ _
        exact again ⟨Nat.sub_lt_sub_left hkt (Nat.lt_succ_self k), k + 1, hkt, rfl, by rw [← hd, hst]; rfl, by simp [Fr.only, hw], rfl⟩
    · have e : l.drop k = [] := by rw [List.drop_eq_nil_iff]; omega
      rw [e] at hd
      repeat (first|refine QG ?_|refine QX (r:=by conv=>lhs;simp[-List.map_set,QV,hkt]) (k:=?_))
      exact done_pure hwf (by rw [← hd]; rfl) rfl

theorem AnyL_v (l : List (List Int)) (p : List Int → Bool) (fid : FuncId) (caps : List V) (hc : callable Tryz.prog fid = true) (hl : l.length < 2^63) (h : ∀ x ∈ l, VPure Tryz.prog fid ([vl vint x] ++ caps) (.bool (p x))) :
    VPure Tryz.prog 66 [vl (vl vint) l, .func fid caps] (.bool (l.any p)) := by
  intro S
  refine vcalls_start (c := bodyOf Tryz.f66) Tryz.func66 rfl rfl (by simp [Tryz.ntmps66]) ?_
  rw [Tryz.ntmps66]
  intro hwf
  rw [← findI_any p l 0]
  repeat (first|refine QG ?_|refine QX (r:=by conv=>lhs;simp[-List.map_set,QV]) (k:=?_))
  repeat refine QS ?_
  refine QR (r:=by conv=>lhs;simp[-List.map_set,QV]) (k:=?_)
  refine vcall_use rfl (IndexL_v l p fid caps hc hl h) ?_
  refine QM (by conv=>lhs;simp[-List.map_set,QV]) ?_
  refine QN ?_
  repeat (first|refine QG ?_|refine QX (r:=by conv=>lhs;simp[-List.map_set,QV]) (k:=?_))
  exact done_pure hwf rfl rfl

theorem IndexI_v (l : List (Int)) (p : Int → Bool) (fid : FuncId) (caps : List V) (hc : callable Tryz.prog fid = true) (hl : l.length < 2^63) (h : ∀ x ∈ l, VPure Tryz.prog fid ([vint x] ++ caps) (.bool (p x))) :
    VPure Tryz.prog 65 [vl (vint) l, .func fid caps] (vint (findI p l 0)) := by
  intro S
  refine vcalls_start (c := bodyOf Tryz.f65) Tryz.func65 rfl rfl (by simp [Tryz.ntmps65]) ?_
  rw [Tryz.ntmps65]
  intro hwf
  repeat (first|refine QG ?_|refine QX (r:=by conv=>lhs;simp[-List.map_set,QV]) (k:=?_))
  repeat refine QS ?_
  refine vw_loopAt [0, 1, 7, 8] rfl (fun c σ S' => ∃ (k : Nat), k ≤ l.length ∧ c = l.length - k ∧ findI p (l.drop k) k = findI p l 0 ∧ σ = [(0, vl (vint) l), (1, .func fid caps), (7, vnat l.length), (8, vnat k)] ∧ S' = St S [] []) l.length ?_ ?_
  · exact ⟨0, by omega, rfl, rfl, by simp [Fr.only], rfl⟩
  · rintro c σ T ⟨k, hk, rfl, hd, rfl, rfl⟩
    by_cases hkt : k < l.length
    · have hst : findI p (l.drop k) k = if p l[k] then (k : Int) else findI p (l.drop (k + 1)) (k + 1) := by rw [List.drop_eq_getElem_cons hkt, findI]
      have hw := wrapNat hkt hl
      repeat (first|refine QG ?_|refine QX (r:=by conv=>lhs;simp[-List.map_set,QV,hkt]) (k:=?_))
      repeat refine QS ?_
      refine QR (r:=by conv=>lhs;simp[-List.map_set,QV,hkt]) (k:=?_)
      refine vcallv_use rfl hc rfl (h _ (List.getElem_mem hkt)) ?_
      refine QM (by conv=>lhs;simp[-List.map_set,QV]) ?_
      refine QN ?_
      cases hp : p l[k] with
      | true =>
        rw [hp] at hst
        repeat (first|refine QG ?_|refine QX (r:=by conv=>lhs;simp[-List.map_set,QV,hp]) (k:=?_))
        exact done_pure hwf (by rw [← hd, hst]; rfl) rfl
      | false =>
        rw [hp] at hst
        repeat (first|refine QG ?_|refine QX (r:=by conv=>lhs;simp[-List.map_set,QV,hp]) (k:=?_))
        show Again _ _ _ _ _ _ _
        exact again ⟨Nat.sub_lt_sub_left hkt (Nat.lt_succ_self k), k + 1, hkt, rfl, by rw [← hd, hst]; rfl, by simp [Fr.only, hw], rfl⟩
    · have e : l.drop k = [] := by rw [List.drop_eq_nil_iff]; omega
      rw [e] at hd
      repeat (first|refine QG ?_|refine QX (r:=by conv=>lhs;simp[-List.map_set,QV,hkt]) (k:=?_))
      exact done_pure hwf (by rw [← hd]; rfl) rfl

theorem AnyI_v (l : List (Int)) (p : Int → Bool) (fid : FuncId) (caps : List V) (hc : callable Tryz.prog fid = true) (hl : l.length < 2^63) (h : ∀ x ∈ l, VPure Tryz.prog fid ([vint x] ++ caps) (.bool (p x))) :
    VPure Tryz.prog 40 [vl (vint) l, .func fid caps] (.bool (l.any p)) := by
  intro S
  refine vcalls_start (c := bodyOf Tryz.f40) Tryz.func40 rfl rfl (by simp [Tryz.ntmps40]) ?_
  rw [Tryz.ntmps40]
  intro hwf
  rw [← findI_any p l 0]
  repeat (first|refine QG ?_|refine QX (r:=by conv=>lhs;simp[-List.map_set,QV]) (k:=?_))
  repeat refine QS ?_
  refine QR (r:=by conv=>lhs;simp[-List.map_set,QV]) (k:=?_)
  refine vcall_use rfl (IndexI_v l p fid caps hc hl h) ?_
  refine QM (by conv=>lhs;simp[-List.map_set,QV]) ?_
  refine QN ?_
  repeat (first|refine QG ?_|refine QX (r:=by conv=>lhs;simp[-List.map_set,QV]) (k:=?_))
  exact done_pure hwf rfl rfl

theorem IndexB_v (l : List (Ss.Block)) (p : Ss.Block → Bool) (fid : FuncId) (caps : List V) (hc : callable Tryz.prog fid = true) (hl : l.length < 2^63) (h : ∀ x ∈ l, VPure Tryz.prog fid ([encBlock x] ++ caps) (.bool (p x))) :
    VPure Tryz.prog 46 [vl (encBlock) l, .func fid caps] (vint (findI p l 0)) := by
  intro S
  refine vcalls_start (c := bodyOf Tryz.f46) Tryz.func46 rfl rfl (by simp [Tryz.ntmps46]) ?_
  rw [Tryz.ntmps46]
  intro hwf
  repeat (first|refine QG ?_|refine QX (r:=by conv=>lhs;simp[-List.map_set,QV]) (k:=?_))
  repeat refine QS ?_
  refine vw_loopAt [0, 1, 7, 8] rfl (fun c σ S' => ∃ (k : Nat), k ≤ l.length ∧ c = l.length - k ∧ findI p (l.drop k) k = findI p l 0 ∧ σ = [(0, vl (encBlock) l), (1, .func fid caps), (7, vnat l.length), (8, vnat k)] ∧ S' = St S [] []) l.length ?_ ?_
  · exact ⟨0, by omega, rfl, rfl, by simp [Fr.only], rfl⟩
  · rintro c σ T ⟨k, hk, rfl, hd, rfl, rfl⟩
    by_cases hkt : k < l.length
    · have hst : findI p (l.drop k) k = if p l[k] then (k : Int) else findI p (l.drop (k + 1)) (k + 1) := by rw [List.drop_eq_getElem_cons hkt, findI]
      have hw := wrapNat hkt hl
      repeat (first|refine QG ?_|refine QX (r:=by conv=>lhs;simp[-List.map_set,QV,hkt]) (k:=?_))
      repeat refine QS ?_
      refine QR (r:=by conv=>lhs;simp[-List.map_set,QV,hkt]) (k:=?_)
      refine vcallv_use rfl hc rfl (h _ (List.getElem_mem hkt)) ?_
      refine QM (by conv=>lhs;simp[-List.map_set,QV]) ?_
      refine QN ?_
      cases hp : p l[k] with
      | true =>
        rw [hp] at hst
        repeat (first|refine QG ?_|refine QX (r:=by conv=>lhs;simp[-List.map_set,QV,hp]) (k:=?_))
        exact done_pure hwf (by rw [← hd, hst]; rfl) rfl
      | false =>
        rw [hp] at hst
        repeat (first|refine QG ?_|refine QX (r:=by conv=>lhs;simp[-List.map_set,QV,hp]) (k:=?_))
        show Again _ _ _ _ _ _ _
        exact again ⟨Nat.sub_lt_sub_left hkt (Nat.lt_succ_self k), k + 1, hkt, rfl, by rw [← hd, hst]; rfl, by simp [Fr.only, hw], rfl⟩
    · have e : l.drop k = [] := by rw [List.drop_eq_nil_iff]; omega
      rw [e] at hd
      repeat (first|refine QG ?_|refine QX (r:=by conv=>lhs;simp[-List.map_set,QV,hkt]) (k:=?_))
      exact done_pure hwf (by rw [← hd]; rfl) rfl

theorem AnyB_v (l : List (Ss.Block)) (p : Ss.Block → Bool) (fid : FuncId) (caps : List V) (hc : callable Tryz.prog fid = true) (hl : l.length < 2^63) (h : ∀ x ∈ l, VPure Tryz.prog fid ([encBlock x] ++ caps) (.bool (p x))) :
    VPure Tryz.prog 16 [vl (encBlock) l, .func fid caps] (.bool (l.any p)) := by
  intro S
  refine vcalls_start (c := bodyOf Tryz.f16) Tryz.func16 rfl rfl (by simp [Tryz.ntmps16]) ?_
  rw [Tryz.ntmps16]
  intro hwf
  rw [← findI_any p l 0]
  repeat (first|refine QG ?_|refine QX (r:=by conv=>lhs;simp[-List.map_set,QV]) (k:=?_))
  repeat refine QS ?_
  refine QR (r:=by conv=>lhs;simp[-List.map_set,QV]) (k:=?_)
  refine vcall_use rfl (IndexB_v l p fid caps hc hl h) ?_
  refine QM (by conv=>lhs;simp[-List.map_set,QV]) ?_
  refine QN ?_
  repeat (first|refine QG ?_|refine QX (r:=by conv=>lhs;simp[-List.map_set,QV]) (k:=?_))
  exact done_pure hwf rfl rfl

theorem IndexS_v (l : List (Ss.Sig)) (p : Ss.Sig → Bool) (fid : FuncId) (caps : List V) (hc : callable Tryz.prog fid = true) (hl : l.length < 2^63) (h : ∀ x ∈ l, VPure Tryz.prog fid ([encSig x] ++ caps) (.bool (p x))) :
    VPure Tryz.prog 43 [vl (encSig) l, .func fid caps] (vint (findI p l 0)) := by
  intro S
  refine vcalls_start (c := bodyOf Tryz.f43) Tryz.func43 rfl rfl (by simp [Tryz.ntmps43]) ?_
  rw [Tryz.ntmps43]
  intro hwf
  repeat (first|refine QG ?_|refine QX (r:=by conv=>lhs;simp[-List.map_set,QV]) (k:=?_))
  repeat refine QS ?_
  refine vw_loopAt [0, 1, 7, 8] rfl (fun c σ S' => ∃ (k : Nat), k ≤ l.length ∧ c = l.length - k ∧ findI p (l.drop k) k = findI p l 0 ∧ σ = [(0, vl (encSig) l), (1, .func fid caps), (7, vnat l.length), (8, vnat k)] ∧ S' = St S [] []) l.length ?_ ?_
  · exact ⟨0, by omega, rfl, rfl, by simp [Fr.only], rfl⟩
  · rintro c σ T ⟨k, hk, rfl, hd, rfl, rfl⟩
    by_cases hkt : k < l.length
    · have hst : findI p (l.drop k) k = if p l[k] then (k : Int) else findI p (l.drop (k + 1)) (k + 1) := by rw [List.drop_eq_getElem_cons hkt, findI]
      have hw := wrapNat hkt hl
      repeat (first|refine QG ?_|refine QX (r:=by conv=>lhs;simp[-List.map_set,QV,hkt]) (k:=?_))
      repeat refine QS ?_
      refine QR (r:=by conv=>lhs;simp[-List.map_set,QV,hkt]) (k:=?_)
      refine vcallv_use rfl hc rfl (h _ (List.getElem_mem hkt)) ?_
      refine QM (by conv=>lhs;simp[-List.map_set,QV]) ?_
      refine QN ?_
      cases hp : p l[k] with
      | true =>
        rw [hp] at hst
        repeat (first|refine QG ?_|refine QX (r:=by conv=>lhs;simp[-List.map_set,QV,hp]) (k:=?_))
        exact done_pure hwf (by rw [← hd, hst]; rfl) rfl
      | false =>
        rw [hp] at hst
        repeat (first|refine QG ?_|refine QX (r:=by conv=>lhs;simp[-List.map_set,QV,hp]) (k:=?_))
        show Again _ _ _ _ _ _ _
        exact again ⟨Nat.sub_lt_sub_left hkt (Nat.lt_succ_self k), k + 1, hkt, rfl, by rw [← hd, hst]; rfl, by simp [Fr.only, hw], rfl⟩
    · have e : l.drop k = [] := by rw [List.drop_eq_nil_iff]; omega
      rw [e] at hd
      repeat (first|refine QG ?_|refine QX (r:=by conv=>lhs;simp[-List.map_set,QV,hkt]) (k:=?_))
      exact done_pure hwf (by rw [← hd]; rfl) rfl

theorem AnyS_v (l : List (Ss.Sig)) (p : Ss.Sig → Bool) (fid : FuncId) (caps : List V) (hc : callable Tryz.prog fid = true) (hl : l.length < 2^63) (h : ∀ x ∈ l, VPure Tryz.prog fid ([encSig x] ++ caps) (.bool (p x))) :
    VPure Tryz.prog 10 [vl (encSig) l, .func fid caps] (.bool (l.any p)) := by
  intro S
  refine vcalls_start (c := bodyOf Tryz.f10) Tryz.func10 rfl rfl (by simp [Tryz.ntmps10]) ?_
  rw [Tryz.ntmps10]
  intro hwf
  rw [← findI_any p l 0]
  repeat (first|refine QG ?_|refine QX (r:=by conv=>lhs;simp[-List.map_set,QV]) (k:=?_))
  repeat refine QS ?_
  refine QR (r:=by conv=>lhs;simp[-List.map_set,QV]) (k:=?_)
  refine vcall_use rfl (IndexS_v l p fid caps hc hl h) ?_
  refine QM (by conv=>lhs;simp[-List.map_set,QV]) ?_
  refine QN ?_
  repeat (first|refine QG ?_|refine QX (r:=by conv=>lhs;simp[-List.map_set,QV]) (k:=?_))
  exact done_pure hwf rfl rfl

theorem IndexN_v (l : List (Ss.Ins)) (p : Ss.Ins → Bool) (fid : FuncId) (caps : List V) (hc : callable Tryz.prog fid = true) (hl : l.length < 2^63) (h : ∀ x ∈ l, VPure Tryz.prog fid ([encIns x] ++ caps) (.bool (p x))) :
    VPure Tryz.prog 94 [vl (encIns) l, .func fid caps] (vint (findI p l 0)) := by
  intro S
  refine vcalls_start (c := bodyOf Tryz.f94) Tryz.func94 rfl rfl (by simp [Tryz.ntmps94]) ?_
  rw [Tryz.ntmps94]
  intro hwf
  repeat (first|refine QG ?_|refine QX (r:=by conv=>lhs;simp[-List.map_set,QV]) (k:=?_))
  repeat refine QS ?_
  refine vw_loopAt [0, 1, 7, 8] rfl (fun c σ S' => ∃ (k : Nat), k ≤ l.length ∧ c = l.length - k ∧ findI p (l.drop k) k = findI p l 0 ∧ σ = [(0, vl (encIns) l), (1, .func fid caps), (7, vnat l.length), (8, vnat k)] ∧ S' = St S [] []) l.length ?_ ?_
  · exact ⟨0, by omega, rfl, rfl, by simp [Fr.only], rfl⟩
  · rintro c σ T ⟨k, hk, rfl, hd, rfl, rfl⟩
    by_cases hkt : k < l.length
    · have hst : findI p (l.drop k) k = if p l[k] then (k : Int) else findI p (l.drop (k + 1)) (k + 1) := by rw [List.drop_eq_getElem_cons hkt, findI]
      have hw := wrapNat hkt hl
      repeat (first|refine QG ?_|refine QX (r:=by conv=>lhs;simp[-List.map_set,QV,hkt]) (k:=?_))
      repeat refine QS ?_
      refine QR (r:=by conv=>lhs;simp[-List.map_set,QV,hkt]) (k:=?_)
      refine vcallv_use rfl hc rfl (h _ (List.getElem_mem hkt)) ?_
      refine QM (by conv=>lhs;simp[-List.map_set,QV]) ?_
      refine QN ?_
      cases hp : p l[k] with
      | true =>
        rw [hp] at hst
        repeat (first|refine QG ?_|refine QX (r:=by conv=>lhs;simp[-List.map_set,QV,hp]) (k:=?_))
        exact done_pure hwf (by rw [← hd, hst]; rfl) rfl
      | false =>
        rw [hp] at hst
        repeat (first|refine QG ?_|refine QX (r:=by conv=>lhs;simp[-List.map_set,QV,hp]) (k:=?_))
        show Again _ _ _ _ _ _ _
        exact again ⟨Nat.sub_lt_sub_left hkt (Nat.lt_succ_self k), k + 1, hkt, rfl, by rw [← hd, hst]; rfl, by simp [Fr.only, hw], rfl⟩
    · have e : l.drop k = [] := by rw [List.drop_eq_nil_iff]; omega
      rw [e] at hd
      repeat (first|refine QG ?_|refine QX (r:=by conv=>lhs;simp[-List.map_set,QV,hkt]) (k:=?_))
      exact done_pure hwf (by rw [← hd]; rfl) rfl

theorem AnyN_v (l : List (Ss.Ins)) (p : Ss.Ins → Bool) (fid : FuncId) (caps : List V) (hc : callable Tryz.prog fid = true) (hl : l.length < 2^63) (h : ∀ x ∈ l, VPure Tryz.prog fid ([encIns x] ++ caps) (.bool (p x))) :
    VPure Tryz.prog 71 [vl (encIns) l, .func fid caps] (.bool (l.any p)) := by
  intro S
  refine vcalls_start (c := bodyOf Tryz.f71) Tryz.func71 rfl rfl (by simp [Tryz.ntmps71]) ?_
  rw [Tryz.ntmps71]
  intro hwf
  rw [← findI_any p l 0]
  repeat (first|refine QG ?_|refine QX (r:=by conv=>lhs;simp[-List.map_set,QV]) (k:=?_))
  repeat refine QS ?_
  refine QR (r:=by conv=>lhs;simp[-List.map_set,QV]) (k:=?_)
  refine vcall_use rfl (IndexN_v l p fid caps hc hl h) ?_
  refine QM (by conv=>lhs;simp[-List.map_set,QV]) ?_
  refine QN ?_
  repeat (first|refine QG ?_|refine QX (r:=by conv=>lhs;simp[-List.map_set,QV]) (k:=?_))
  exact done_pure hwf rfl rfl

end Go.Vw
