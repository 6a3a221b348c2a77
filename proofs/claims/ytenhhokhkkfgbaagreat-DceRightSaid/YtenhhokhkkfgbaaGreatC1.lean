import Derived.Test.YtenhhokhkkfgbaaGreatC0
/-
  Part of the proof (texts VOps).
-/
set_option linter.unusedVariables false
set_option linter.unusedSimpArgs false
/-
 The operations of a function's body over values without addresses: what each does, and what the model's operation is turned into.
-/
namespace Go.Vw
open Go.RowKit
def V.closed1 : V → Bool
 | .bool _ | .int _ _ | .str _ | .nils | .nilp | .nilf | .nilm | .list _ | .ref _ => true
 | _ => false
inductive Arg where
 | tmp (t : Nat)
 | val (x : V)
deriving Inhabited
def ev (σ : Fr) : Arg → V
 | .tmp t => σ.look t
 | .val x => x
def constV1 : Value → Option V
 | .bool b => some (.bool b)
 | .int k n => some (.int k n)
 | .string s => some (.str s)
 | .slice none 0 0 => some .nils
 | .pointer none => some .nilp
 | .nilFunc => some .nilf
 | .map none => some .nilm
 | _ => none
def constV : Value → Option V
 | .agg cs => (cs.toList.mapM constV1).map .agg
 | v => constV1 v
def argOf : Operand → Option Arg
 | .tmp t => some (.tmp t)
 | .const v => match v with
  | .map none => some (.val .junk)
  | v => (constV v).map .val
 | .func f => some (.val (.func f []))
 | .global _ => none
inductive COp where
 | move (x : Arg)
 | pick (c a b : Arg)
 | alloc (zero : List V)
 | box (x : Arg)
 | build (zero : List V) (parts : List (Nat × Nat × Arg))
 | buildSlice (s len : Nat) (zero : List V) (parts : List (Nat × Nat × Arg))
 | buildList (s len : Nat) (zero : List V) (parts : List (Nat × Nat × Arg))
 | load (sz : Option Nat) (x : Arg)
 | store (sz : Option Nat) (p v : Arg)
 | nilCheck (x : Arg)
 | bin (op : BinOp) (x y : Arg)
 | beq (neg : Bool) (x y : Arg)
 | un (op : UnOp) (x : Arg)
 | conv (k : IntKind) (x : Arg)
 | makeFunc (f : FuncId) (caps : List Arg)
 | makeSlice (s bytes : Nat) (zero : List V) (l c : Arg)
 | slice (s : Nat) (x : Arg) (lo hi mx : Option Arg)
 | fieldAddr (off : Nat) (sz : Option Nat) (x : Arg)
 | field (off : Nat) (sz : Option Nat) (x : Arg)
 | indexAddr (s : Nat) (x i : Arg)
 | len (x : Arg)
 | lenS (x : Arg)
 | append (s bytes : Nat) (x y : Arg)
 | copy (s : Nat) (x y : Arg)
 | extract (x : Arg) (i : Nat)
 | makeMap
 | lookup (zero : V) (ok : Bool) (x k : Arg)
 | mapUpdate (x k v : Arg)
 | lookup2 (g : Bool) (zero : V) (ok : Bool) (x k : Arg)
 | mapUpdate2 (g : Bool) (x k v : Arg)
 | clear (s : Nat) (zero : List V) (x : Arg)
 | call (f : FuncId) (args : List Arg)
 | callv (f : Arg) (args : List Arg)
deriving Inhabited
def okSz : Option Nat → V → Bool
 | some n, .agg cs => cs.length == n
 | none, x => x.one
 | _, _ => false
def partV (cs : List V) (off : Nat) : Option Nat → Option V
 | none => cs[off]?
 | some n => if off + n ≤ cs.length then some (.agg ((cs.drop off).take n)) else none
def splice (cs : List V) (off : Nat) (xs : List V) : List V := cs.take off ++ xs ++ cs.drop (off + xs.length)
def opLoad (sz : Option Nat) (S : Store) : V → Option V
 | .ref x => if okSz sz x then some x else none
 | .ptr o off => match S.get o with
  | some c => partV c.2 off sz
  | none => none
 | _ => none
def opStore (sz : Option Nat) (S : Store) : V → V → Option Store
 | .ptr o off, v => match S.get o, sz with
  | some c, none => if off < c.2.length ∧ v.one = true then some (S.upd o (c.1, c.2.set off v)) else none
  | some c, some n => match v with
   | .agg cs => if cs.length = n ∧ off + n ≤ c.2.length then some (S.upd o (c.1, splice c.2 off cs)) else none
   | _ => none
  | none, _ => none
 | _, _ => none
def opIndex (s : Nat) (S : Store) : V → V → Option V
 | .list xs, .int _ n => if 0 ≤ n then (match xs[n.toNat]? with | some x => if x.ncells = s then some (.ref x) else none | none => none) else none
 | .slice o off len, .int _ n => if (S.get o).isSome = true ∧ 0 ≤ n ∧ n < len then some (.ptr o (off + n.toNat * s)) else none
 | _, _ => none
def opFieldAddr (off : Nat) (sz : Option Nat) (S : Store) : V → Option V
 | .ptr o p => if (S.get o).isSome = true then some (.ptr o (p + off)) else none
 | .ref (.agg cs) => (partV cs off sz).map .ref
 | _ => none
def opField (off : Nat) (sz : Option Nat) : V → Option V
 | .agg cs => partV cs off sz
 | _ => none
def opLen (S : Store) : V → Option V
 | .list xs => some (.int .i64 xs.length)
 | .slice o _ len => if (S.get o).isSome = true then some (.int .i64 len) else none
 | .nils => some (.int .i64 0)
 | _ => none
def srcCells (s : Nat) (S : Store) : V → Option (List V × Nat)
 | .nils => some ([], 0)
 | .list xs => if xs.all (fun x => x.ncells == s) then some (xs.flatMap V.cells, xs.length) else none
 | .slice o off len => match S.get o with
  | some c => if off + len * s ≤ c.2.length then some ((c.2.drop off).take (len * s), len) else none
  | none => none
 | _ => none
def opAppend (s bytes : Nat) (S : Store) (x y : V) : Option (V × Store) :=
 match srcCells s S y with
 | none => none
 | some (new, k) => match x with
  | .nils => if k * bytes ≤ 140737488355328 ∧ k ≤ 140737488355328 then some (.slice S.nx 0 k, S.add (s, new)) else none
  | .slice o off len => match S.get o with
   | some c => if c.1 = s ∧ off + len * s ≤ c.2.length ∧ (len + k) * bytes ≤ 140737488355328 ∧ len + k ≤ 140737488355328 then
     some (.slice S.nx 0 (len + k), (S.del o).add (s, (c.2.drop off).take (len * s) ++ new)) else none
   | none => none
  | _ => none
def opCopy (s : Nat) (S : Store) (x y : V) : Option (V × Store) :=
 match srcCells s S y with
 | none => none
 | some (new, k) => match x with
  | .slice o off len => match S.get o with
   | some c => if off + len * s ≤ c.2.length then some (.int .i64 (min k len : Nat), S.upd o (c.1, splice c.2 off (new.take (min k len * s)))) else none
   | none => none
  | .nils => some (.int .i64 0, S)
  | _ => none
def boundOf (d : Nat) : Option V → Option Nat
 | none => some d
 | some (.int _ n) => if 0 ≤ n then some n.toNat else none
 | _ => none
def opSlice (s : Nat) (S : Store) (x : V) (lo hi mx : Option V) : Option V :=
 match x with
 | .list xs => match boundOf 0 lo, boundOf xs.length hi, boundOf xs.length mx with
  | some l, some h, some m => if l ≤ h ∧ h ≤ m ∧ m ≤ xs.length ∧ (mx.isSome = true → hi.isSome = true) ∧ (l = 0 ∨ xs.all (fun x => x.ncells == s) = true) then (if m = 0 ∧ mx.isSome = true then some .nils else some (.list ((xs.take h).drop l))) else none
  | _, _, _ => none
 | .slice o off len => match boundOf 0 lo, boundOf len hi, boundOf len mx with
  | some l, some h, some m => if (S.get o).map (·.1) = some s ∧ l ≤ h ∧ h ≤ m ∧ m ≤ len ∧ (mx.isSome = true → hi.isSome = true) then some (.slice o (off + l * s) (h - l)) else none
  | _, _, _ => none
 | .nils => match boundOf 0 lo, boundOf 0 hi, boundOf 0 mx with
  | some 0, some 0, some 0 => if mx.isSome = true → hi.isSome = true then some .nils else none
  | _, _, _ => none
 | _ => none
def rep0 (zero : List V) (n : Nat) : List V :=
 match zero with
 | [z] => List.replicate n z
 | zs => (List.replicate n zs).flatten
def opMake (s bytes : Nat) (zero : List V) (S : Store) : V → V → Option (V × Store)
 | .int .i64 l, .int .i64 c => if 0 ≤ l ∧ l ≤ c ∧ c * bytes ≤ 140737488355328 ∧ c ≤ 140737488355328 then some (.slice S.nx 0 l.toNat, S.add (s, rep0 zero c.toNat)) else none
 | _, _ => none
def opBin : BinOp → V → V → Option V
 | .add, .int k a, .int k' b => if k = k' then some (.int k (k.wrap (a + b))) else none
 | .sub, .int k a, .int k' b => if k = k' then some (.int k (k.wrap (a - b))) else none
 | .mul, .int k a, .int k' b => if k = k' then some (.int k (k.wrap (a * b))) else none
 | .quo, .int k a, .int k' b => if k = k' ∧ b ≠ 0 then some (.int k (k.wrap (a.tdiv b))) else none
 | .rem, .int k a, .int k' b => if k = k' ∧ b ≠ 0 then some (.int k (a.tmod b)) else none
 | .and, .int k a, .int k' b => if k = k' then some (.int k (k.wrap (BitVec.ofInt k.bits a &&& BitVec.ofInt k.bits b).toNat)) else none
 | .or, .int k a, .int k' b => if k = k' then some (.int k (k.wrap (BitVec.ofInt k.bits a ||| BitVec.ofInt k.bits b).toNat)) else none
 | .xor, .int k a, .int k' b => if k = k' then some (.int k (k.wrap (BitVec.ofInt k.bits a ^^^ BitVec.ofInt k.bits b).toNat)) else none
 | .shl, .int k a, .int _ b => if 0 ≤ b then some (.int k (k.wrap (a * 2 ^ min b.toNat k.bits))) else none
 | .shr, .int k a, .int _ b => if 0 ≤ b then some (.int k (a.fdiv (2 ^ min b.toNat k.bits))) else none
 | .eql, .int k a, .int k' b => if k = k' then some (.bool (a == b)) else none
 | .neq, .int k a, .int k' b => if k = k' then some (.bool (a != b)) else none
 | .lss, .int k a, .int k' b => if k = k' then some (.bool (decide (a < b))) else none
 | .leq, .int k a, .int k' b => if k = k' then some (.bool (decide (a ≤ b))) else none
 | .gtr, .int k a, .int k' b => if k = k' then some (.bool (decide (a > b))) else none
 | .geq, .int k a, .int k' b => if k = k' then some (.bool (decide (a ≥ b))) else none
 | _, _, _ => none
def opUn : UnOp → V → Option V
 | .not, .bool b => some (.bool !b)
 | .neg, .int k n => some (.int k (k.wrap (0 - n)))
 | _, _ => none
def opBeq (neg : Bool) : V → V → Option V
 | .bool a, .bool b => some (.bool (if neg then a != b else a == b))
 | _, _ => none
def opBuild (ρ : Arg → V) (cells : List V) : List (Nat × Nat × Arg) → Option (List V)
 | [] => some cells
 | (off, sz, x) :: r => if (ρ x).ncells = sz ∧ off + sz ≤ cells.length ∧ ((ρ x).cells.all V.one) = true then opBuild ρ (splice cells off (ρ x).cells) r else none
def keySame : V → V → Option Bool
 | .int k a, .int k' b => if k = k' then some (a == b) else none
 | .agg [.int .i64 a, .int .i64 b], .agg [.int .i64 a', .int .i64 b'] => some (a == a' && b == b')
 | _, _ => none
def lookV (k : V) : List V → Nat → Option (Option (Nat × V))
 | [], _ => some none
 | .tuple [k', v] :: r, i => match keySame k k' with
  | some true => some (some (i, v))
  | some false => lookV k r (i + 1)
  | none => none
 | _, _ => none
def opLookup (zero : V) (ok : Bool) (S : Store) : V → V → Option V
 | .map o, .int kk n => match S.get o with
  | some c => match lookV (.int kk n) c.2 0 with
   | some (some (_, v)) => some (if ok then .tuple [v, .bool true] else v)
   | some none => some (if ok then .tuple [zero, .bool false] else zero)
   | none => none
  | none => none
 | _, _ => none
def opMapUpdate (S : Store) : V → V → V → Option Store
 | .map o, .int kk n, v => match S.get o with
   | some c => match lookV (.int kk n) c.2 0 with
    | some (some (j, _)) => some (S.upd o (c.1, c.2.set j (.tuple [.int kk n, v])))
    | some none => some (S.upd o (c.1, c.2 ++ [.tuple [.int kk n, v]]))
    | none => none
   | none => none
 | _, _, _ => none
def opLookup2 (g : Bool) (zero : V) (ok : Bool) (S : Store) : V → V → Option V
 | .map o, .agg [.int .i64 a, .int .i64 b] => if g = true then match S.get o with
  | some c => match lookV (.agg [.int .i64 a, .int .i64 b]) c.2 0 with
   | some (some (_, v)) => some (if ok then .tuple [v, .bool true] else v)
   | some none => some (if ok then .tuple [zero, .bool false] else zero)
   | none => none
  | none => none
  else none
 | _, _ => none
def opMapUpdate2 (g : Bool) (S : Store) : V → V → V → Option Store
 | .map o, .agg [.int .i64 a, .int .i64 b], v => if g = true then match S.get o with
   | some c => match lookV (.agg [.int .i64 a, .int .i64 b]) c.2 0 with
    | some (some (j, _)) => some (S.upd o (c.1, c.2.set j (.tuple [.agg [.int .i64 a, .int .i64 b], v])))
    | some none => some (S.upd o (c.1, c.2 ++ [.tuple [.agg [.int .i64 a, .int .i64 b], v]]))
    | none => none
   | none => none
   else none
 | _, _, _ => none
def opClear (s : Nat) (zero : List V) (S : Store) : V → Option Store
 | .nils => some S
 | .slice o off len => match S.get o with
  | some c => if off + len * s ≤ c.2.length then some (S.upd o (c.1, splice c.2 off (rep0 zero len))) else none
  | none => none
 | _ => none
def unflat (s : Nat) : Nat → List V → List V
 | 0, _ => []
 | n + 1, l => (if s = 1 then (l.take 1).headD .nils else .agg (l.take s)) :: unflat s n (l.drop s)
def opList (s len : Nat) (cs : Option (List V)) : Option V :=
 match cs with
 | some cs => if cs.length = len * s ∧ cs.all V.closed1 = true then some (.list (unflat s len cs)) else none
 | none => none
def evalOp (ρ : Arg → V) (S : Store) : COp → Option (V × Store)
 | .move x => some (ρ x, S)
 | .pick c a b => match ρ c with | .bool t => some (if t then ρ a else ρ b, S) | _ => none
 | .alloc zero => some (.ptr S.nx 0, S.add (zero.length, zero))
 | .box x => if (ρ x).cells.all V.one then some (.ptr S.nx 0, S.add ((ρ x).ncells, (ρ x).cells)) else none
 | .build zero parts => (opBuild ρ zero parts).map fun cs => (.agg cs, S)
 | .buildSlice s len zero parts => (opBuild ρ (rep0 zero len) parts).map fun cs => (.slice S.nx 0 len, S.add (s, cs))
 | .buildList s len zero parts => (opList s len (opBuild ρ (rep0 zero len) parts)).map fun v => (v, S)
 | .load sz x => (opLoad sz S (ρ x)).map fun v => (v, S)
 | .store sz p v => (opStore sz S (ρ p) (ρ v)).map fun S' => (.tuple [], S')
 | .nilCheck x => match ρ x with | .ptr o p => if (S.get o).isSome = true then some (.ptr o p, S) else none | .ref y => some (.ref y, S) | _ => none
 | .bin op x y => (opBin op (ρ x) (ρ y)).map fun v => (v, S)
 | .beq neg x y => (opBeq neg (ρ x) (ρ y)).map fun v => (v, S)
 | .un op x => (opUn op (ρ x)).map fun v => (v, S)
 | .conv k x => match ρ x with | .int _ n => some (.int k (k.wrap n), S) | _ => none
 | .makeFunc f caps => some (.func f (caps.map (ρ)), S)
 | .makeSlice s bytes zero l c => opMake s bytes zero S (ρ l) (ρ c)
 | .slice s x lo hi mx => (opSlice s S (ρ x) (lo.map (ρ)) (hi.map (ρ)) (mx.map (ρ))).map fun v => (v, S)
 | .fieldAddr off sz x => (opFieldAddr off sz S (ρ x)).map fun v => (v, S)
 | .field off sz x => (opField off sz (ρ x)).map fun v => (v, S)
 | .indexAddr s x i => (opIndex s S (ρ x) (ρ i)).map fun v => (v, S)
 | .len x => (opLen S (ρ x)).map fun v => (v, S)
 | .lenS x => match ρ x with | .str s => some (.int .i64 s.size, S) | _ => none
 | .append s bytes x y => opAppend s bytes S (ρ x) (ρ y)
 | .copy s x y => opCopy s S (ρ x) (ρ y)
 | .extract x i => match ρ x with | .tuple xs => (xs[i]?).map fun v => (v, S) | _ => none
 | .makeMap => some (.map S.nx, S.add (0, []))
 | .lookup z ok x k => (opLookup z ok S (ρ x) (ρ k)).map fun v => (v, S)
 | .mapUpdate x k v => (opMapUpdate S (ρ x) (ρ k) (ρ v)).map fun S' => (.tuple [], S')
 | .lookup2 g z ok x k => (opLookup2 g z ok S (ρ x) (ρ k)).map fun v => (v, S)
 | .mapUpdate2 g x k v => (opMapUpdate2 g S (ρ x) (ρ k) (ρ v)).map fun S' => (.tuple [], S')
 | .clear s z x => (opClear s z S (ρ x)).map fun S' => (.tuple [], S')
 | _ => none
/-! ### From the model's operations -/
def Program.slc (P : Program) (t : TypeId) : Option (TypeId × TypeInfo) :=
 match P.underlying t with
 | some (.slice e) => match P.info? e with
  | some i => some (e, i)
  | none => none
 | _ => none
def Program.szOf (P : Program) (t : TypeId) : Option (Option Nat) :=
 match P.underlying t, P.info? t with
 | some (.struct _), some i => some (some i.size)
 | some (.array _ _), some i => some (some i.size)
 | some _, some i => if i.size = 1 then some none else none
 | _, _ => none
def Program.zeroV (P : Program) (t : TypeId) : Option (List V) :=
 match P.info? t with
 | some i => match i.zero with
  | some z => if z.cells.size = i.size then z.cells.toList.mapM constV1 else none
  | none => none
 | none => none
def Program.zero1 (P : Program) (t : TypeId) : Option V :=
 match P.info? t with
 | some i => match i.zero with
  | some z => constV z
  | none => none
 | none => none
def Program.fld (P : Program) (t : TypeId) (i : Nat) : Option (Nat × Option Nat) :=
 match P.underlying t with
 | some (.struct fs) => match fs[i]? with
  | some f => match szOf P f.type, P.info? f.type with
   | some sz, some j => if j.size = 0 then none else some (f.offset, sz)
   | _, _ => none
  | none => none
 | _ => none
def Program.flds (P : Program) (t : TypeId) : Option (List (Nat × Nat)) :=
 match P.underlying t with
 | some (.struct fs) => fs.toList.mapM fun f => match P.info? f.type with
  | some j => some (f.offset, j.size)
  | none => none
 | _ => none
def Program.isInt (P : Program) (t : TypeId) : Bool := match P.underlying t with | some (.int _) => true | _ => false
def Program.pairKey (P : Program) (kt : TypeId) : Bool := match P.underlying kt with
 | some (.struct fs) => !P.stoodInHeld kt && (match fs.toList with
  | [f, g] => f.name != "_" && g.name != "_" && f.offset == 0 && g.offset == 1 && Program.isInt P f.type && Program.isInt P g.type
  | _ => false)
 | _ => false
def pairOkN {P : Program} {kt : TypeId} (n : Nat) : Bool := if n = 0 then Program.pairKey P kt else pairOkN (P := P) (kt := kt) (n - 1)
termination_by n
decreasing_by omega
theorem pairOk_iff {P : Program} {kt : TypeId} : pairOkN (P := P) (kt := kt) 0 = Program.pairKey P kt := by rw [pairOkN, if_pos rfl]
def compCall (P : Program) (c : Call) : Option COp :=
 match c.callee, c.args.toList, c.argTypes.toList with
 | .builtin .len, [x], [t] => match P.underlying t with
  | some (.slice _) => (argOf x).map .len
  | some .string => (argOf x).map .lenS
  | _ => none
 | .builtin .append, [x, y], [t, u] => if u = t then match Program.slc P t, argOf x, argOf y with
   | some (e, i), some x, some y => match Program.zeroV P e with
    | some _ => if 0 < i.size then some (.append i.size i.bytes x y) else none
    | none => none
   | _, _, _ => none
  else none
 | .builtin .copy, [x, y], [t, u] => if u = t then match Program.slc P t, argOf x, argOf y with
   | some (e, i), some x, some y => some (.copy i.size x y)
   | _, _, _ => none
  else none
 | .builtin .clear, [x], [t] => match Program.slc P t, argOf x with
  | some (e, i), some x => match Program.zeroV P e with
   | some z => some (.clear i.size z x)
   | none => none
  | _, _ => none
 | .value (.func f), args, _ => match P.funcs[f]? with
  | some fn => if fn.name == "runtime.NumGoroutine" || fn.body.isNone then none else (args.mapM argOf).map (.call f)
  | none => none
 | .value f, args, _ => match argOf f, args.mapM argOf with
  | some f, some args => some (.callv f args)
  | _, _ => none
 | _, _, _ => none
def compOp (P : Program) (o : Oper) : Option COp :=
 match o.op with
 | .move x | .assign x => (argOf x).map .move
 | .pick c a b => match argOf c, argOf a, argOf b with
  | some c, some a, some b => some (.pick c a b)
  | _, _, _ => none
 | .alloc t => match P.underlying t, Program.zeroV P t with
  | some _, some z => some (.alloc z)
  | _, _ => none
 | .box t x => (argOf x).map .box
 | .build t parts => match Program.flds P t, Program.zeroV P t with
  | some fs, some z => (parts.toList.mapM fun (p : Nat × Operand) => match fs[p.1]?, argOf p.2 with
   | some f, some x => some ((f.1, f.2, x) : Nat × Nat × Arg)
   | _, _ => none).map (.build z)
  | _, _ => none
 | .buildSlice t len parts => match Program.slc P t with
  | some (e, i) => match Program.zeroV P e with
   | some z => if len * i.size ≤ 65536 ∧ 0 < i.size then (parts.toList.mapM fun (p : Nat × Operand) => match argOf p.2 with
     | some x => some ((p.1 * i.size, i.size, x) : Nat × Nat × Arg)
     | none => none).map (.buildSlice i.size len z) else none
   | none => none
  | none => none
 | .load t x => match Program.szOf P t, argOf x with
  | some sz, some x => some (.load sz x)
  | _, _ => none
 | .store t p v => match Program.szOf P t, argOf p, argOf v with
  | some sz, some p, some v => some (.store sz p v)
  | _, _, _ => none
 | .nilCheck x => (argOf x).map .nilCheck
 | .binOp op t x y _ => match argOf x, argOf y with
  | some x, some y => (match op, P.underlying t with
   | .eql, some .bool => some (.beq false x y)
   | .neq, some .bool => some (.beq true x y)
   | _, _ => some (.bin op x y))
  | _, _ => none
 | .unOp op _ x => (argOf x).map (.un op)
 | .convert s d x => match P.underlying s, P.underlying d with
  | some _, some (.int k) => (argOf x).map (.conv k)
  | _, _ => none
 | .makeFunc fn first caps => match fn, first.toList with
  | .func f, [] => (caps.toList.mapM argOf).map (.makeFunc f)
  | _, _ => none
 | .makeSlice t l c => match Program.slc P t, argOf l, argOf c with
  | some (e, i), some l, some c => match Program.zeroV P e with
   | some z => some (.makeSlice i.size i.bytes z l c)
   | none => none
  | _, _, _ => none
 | .slice t x lo hi mx => match Program.slc P t, argOf x, lo.mapM argOf, hi.mapM argOf, mx.mapM argOf with
  | some (e, i), some x, some lo, some hi, some mx => some (.slice i.size x lo hi mx)
  | _, _, _, _, _ => none
 | .fieldAddr t x f => match Program.fld P t f, argOf x with
  | some (off, sz), some x => some (.fieldAddr off sz x)
  | _, _ => none
 | .field t x f => match Program.fld P t f, argOf x with
  | some (off, sz), some x => some (.field off sz x)
  | _, _ => none
 | .indexAddr t x i => match Program.slc P t, argOf x, argOf i with
  | some (e, j), some x, some i => some (.indexAddr j.size x i)
  | _, _, _ => none
 | .extract x i => (argOf x).map fun x => .extract x i
 | .call c => compCall P c
 | .makeMap _ none => some .makeMap
 | .lookup t x i ok => match P.underlying t, argOf x, argOf i with
  | some (.map kt e), some x, some i => match P.underlying kt, Program.zero1 P e with
   | some (.int _), some z => some (.lookup z ok x i)
   | _, some z => some (.lookup2 (pairOkN (P := P) (kt := kt) 0) z ok x i)
   | _, _ => none
  | _, _, _ => none
 | .mapUpdate t x k v | .insert t x k v => match P.underlying t, argOf x, argOf k, argOf v with
  | some (.map kt _), some x, some k, some v => match P.underlying kt with
   | some (.int _) => some (.mapUpdate x k v)
   | _ => some (.mapUpdate2 (pairOkN (P := P) (kt := kt) 0) x k v)
  | _, _, _, _ => none
 | _ => none
end Go.Vw
