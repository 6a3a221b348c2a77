import Derived.Test.YtgnoiaekmmfnmaaVRun
/-
  Lists of Lean as Go's slices.
-/
set_option linter.unusedVariables false
namespace Go.Vw
open Go.RowKit

/-- A list, element by element. -/
def vl {α : Type} (enc : α → V) (l : List α) : V := .list (l.map enc)
def vint (n : Int) : V := .int .i64 n
def vnat (n : Nat) : V := .int .i64 (n : Int)

section
variable {α : Type} {enc : α → V} {l : List α} {S : Store}
theorem opLen_vl : opLen S (vl enc l) = some (.int .i64 (l.length : Int)) := by simp [opLen, vl]
theorem opIndex_vl {s : Nat} {k : IntKind} {i : Nat} (hs : ∀ x, (enc x).ncells = s) (h : i < l.length) : opIndex s S (vl enc l) (.int k (i : Int)) = some (.ref (enc l[i])) := by
  simp [opIndex, vl, h, hs]
theorem opIndex_vlz {s : Nat} {k : IntKind} {i : Int} (hs : ∀ x, (enc x).ncells = s) (h0 : 0 ≤ i) (h : i.toNat < l.length) : opIndex s S (vl enc l) (.int k i) = some (.ref (enc l[i.toNat])) := by
  simp [opIndex, vl, h0, h, hs]
theorem closed_vl : (vl enc l).closed = true := rfl
end
theorem nc_vint (n : Int) : (vint n).ncells = 1 := by unfold vint; simp [V.ncells]
theorem nc_vnat (n : Nat) : (vnat n).ncells = 1 := by unfold vnat; simp [V.ncells]
theorem nc_vl {α : Type} (enc : α → V) (l : List α) : (vl enc l).ncells = 1 := by unfold vl; simp [V.ncells]
theorem nc_vbool (b : Bool) : (V.bool b).ncells = 1 := by simp [V.ncells]
theorem one_bool (b : Bool) : (V.bool b).one = true := by simp [V.one]
theorem one_int (k : IntKind) (n : Int) : (V.int k n).one = true := by simp [V.one]
theorem one_str (s : ByteArray) : (V.str s).one = true := by simp [V.one]
theorem one_nils : (V.nils).one = true := by simp [V.one]
theorem one_nilp : (V.nilp).one = true := by simp [V.one]
theorem one_nilf : (V.nilf).one = true := by simp [V.one]
theorem one_list (l : List V) : (V.list l).one = true := by simp [V.one]
theorem one_ref (x : V) : (V.ref x).one = true := by simp [V.one]
theorem one_slice (o f l : Nat) : (V.slice o f l).one = true := by simp [V.one]
theorem one_ptr (o f : Nat) : (V.ptr o f).one = true := by simp [V.one]
theorem one_func (f : FuncId) (l : List V) : (V.func f l).one = true := by simp [V.one]
theorem one_map (o : Nat) : (V.map o).one = true := by simp [V.one]
theorem cells_int (k : IntKind) (n : Int) : (V.int k n).cells = [V.int k n] := by simp [V.cells]
theorem nc_int (k : IntKind) (n : Int) : (V.int k n).ncells = 1 := by simp [V.ncells]
theorem cells_str (s : ByteArray) : (V.str s).cells = [V.str s] := by simp [V.cells]
theorem nc_str (s : ByteArray) : (V.str s).ncells = 1 := by simp [V.ncells]
theorem cells_nils : (V.nils).cells = [V.nils] := by simp [V.cells]
theorem nc_nils : (V.nils).ncells = 1 := by simp [V.ncells]
theorem cells_nilp : (V.nilp).cells = [V.nilp] := by simp [V.cells]
theorem nc_nilp : (V.nilp).ncells = 1 := by simp [V.ncells]
theorem cells_nilf : (V.nilf).cells = [V.nilf] := by simp [V.cells]
theorem nc_nilf : (V.nilf).ncells = 1 := by simp [V.ncells]
theorem cells_list (l : List V) : (V.list l).cells = [V.list l] := by simp [V.cells]
theorem nc_list (l : List V) : (V.list l).ncells = 1 := by simp [V.ncells]
theorem cells_ref (x : V) : (V.ref x).cells = [V.ref x] := by simp [V.cells]
theorem nc_ref (x : V) : (V.ref x).ncells = 1 := by simp [V.ncells]
theorem cells_slice (o f l : Nat) : (V.slice o f l).cells = [V.slice o f l] := by simp [V.cells]
theorem nc_slice (o f l : Nat) : (V.slice o f l).ncells = 1 := by simp [V.ncells]
theorem cells_ptr (o f : Nat) : (V.ptr o f).cells = [V.ptr o f] := by simp [V.cells]
theorem nc_ptr (o f : Nat) : (V.ptr o f).ncells = 1 := by simp [V.ncells]
theorem cells_func (f : FuncId) (l : List V) : (V.func f l).cells = [V.func f l] := by simp [V.cells]
theorem nc_func (f : FuncId) (l : List V) : (V.func f l).ncells = 1 := by simp [V.ncells]
theorem cells_map (o : Nat) : (V.map o).cells = [V.map o] := by simp [V.cells]
theorem nc_map (o : Nat) : (V.map o).ncells = 1 := by simp [V.ncells]
theorem cells_bool (b : Bool) : (V.bool b).cells = [V.bool b] := by simp [V.cells]
theorem cells_agg (l : List V) : (V.agg l).cells = l := by simp [V.cells]
theorem nc_agg (l : List V) : (V.agg l).ncells = l.length := by simp [V.ncells]
theorem cells_vl {α : Type} (enc : α → V) (l : List α) : (vl enc l).cells = [vl enc l] := by unfold vl; simp [V.cells]
theorem one_vint (n : Int) : (vint n).one = true := by unfold vint; simp [V.one]
theorem one_vnat (n : Nat) : (vnat n).one = true := by unfold vnat; simp [V.one]
theorem one_vl {α : Type} (enc : α → V) (l : List α) : (vl enc l).one = true := by unfold vl; simp [V.one]
theorem vcond_by {t : Bool} {A B : Prop} (p : Prop) (hp : t = true ↔ p) (h1 : p → A) (h2 : ¬ p → B) : vcond (.bool t) A B := by
  refine ⟨fun h => h1 (hp.1 h), fun h => h2 fun hp' => ?_⟩
  rw [hp.2 hp'] at h; cases h
theorem wrap_i64 {n : Int} (h1 : -9223372036854775808 ≤ n) (h2 : n ≤ 9223372036854775807) : IntKind.i64.wrap n = n := by
  rw [IntKind.wrap_i64]; omega

/-- A variable that is never written again: its address is that of immutable memory. -/
theorem Ghost.box {S : Store} {o s : Nat} {x : V} (hc : S.get o = some (s, [x])) (h1 : x.closed1 = true) : Ghost (.ptr o 0) S (.ref x) (S.del o) := by
  intro m β w v hS hr
  obtain ⟨b, base, s', n, hob, rfl⟩ := hr.inv_ptr (hS.alive hc)
  obtain ⟨_, arr, T, e1, e2, e3, e4⟩ := hS.cells_at hc hob
  obtain ⟨u, f1, f2, f3⟩ := e4 0 x rfl
  obtain ⟨k1, k2⟩ := hS.freeze hc hob e1
  refine ⟨_, _, k1, k2, .imm (.ref x u b (base + 0) arr T (0, 0) (by simp [Imm.set]) ((f2.closed1 h1).mono k2.imm) fun j c hj => ?_)⟩
  have euc : u.cells = #[u] := by cases u <;> first | rfl | simp [Value.oneCell'] at f3
  rw [euc] at hj
  cases j with
  | zero => simp at hj; subst hj; exact f1
  | succ j => simp at hj

theorem closed1_vl {α : Type} (enc : α → V) (l : List α) : (vl enc l).closed1 = true := rfl
theorem get_add (S : Store) (c : Nat × List V) : (S.add c).get S.nx = some c := by simp [Store.add]

theorem vw_ghost' {P : Program} {N b : Nat} {Q : Exit → Fr → Store → Prop} {σ σ' : Fr} {S S' : Store} {c : Code} (t : Nat) {x x' : V} (hx : σ.look t = x) (hg : Ghost x S x' S') (hs : σ.set t x' = σ') (h : VWp P N b c Q σ' S') : VWp P N b c Q σ S :=
  vw_ghost t hx hg (by rw [hs]; exact h)
end Go.Vw
