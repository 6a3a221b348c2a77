import Derived.Test.YtenhhokhkkfgbaaGreatC0
/- Part of the proof. -/
set_option linter.unusedVariables false
set_option linter.unusedSimpArgs false
/-
 The operations of a function's body over values without addresses: what each does, and what the model's operation is turned into.
-/
namespace Go.Vw
open Go.RowKit
def V.closed1:V->Bool
 | .bool _ | .int _ _ | .str _ | .nils | .nilp | .nilf | .nilm | .list _ | .ref _=>true
 | _=>false
inductive Arg where
 | tmp (t:Nat)
 | val (x:V)
deriving Inhabited
def ev (σ:Fr):Arg->V
 | .tmp t=>σ.look t
 | .val x=>x
def Wu:Value->Option V
 | .bool b=>some (.bool b)
 | .int k n=>some (.int k n)
 | .string s=>some (.str s)
 | .slice none 0 0=>some .nils
 | .pointer none=>some .nilp
 | .nilFunc=>some .nilf
 | .map none=>some .nilm
 | _=>none
def constV:Value->Option V
 | .agg cs=>(cs.toList.mapM Wu).map .agg
 | v=>Wu v
def jr:Operand->Option Arg
 | .tmp t=>some (.tmp t)
 | .const v=>match v with
  | .map none=>some (.val .junk)
  | v=>(constV v).map .val
 | .func f=>some (.val (.func f []))
 | .global _=>none
inductive COp where
 | move (x:Arg)
 | pick (c a b:Arg)
 | alloc (zero:List V)
 | box (x:Arg)
 | build (zero:List V) (parts:List (Nat × Nat × Arg))
 | buildSlice (s len:Nat) (zero:List V) (parts:List (Nat × Nat × Arg))
 | buildList (s len:Nat) (zero:List V) (parts:List (Nat × Nat × Arg))
 | load (sz:Option Nat) (x:Arg)
 | store (sz:Option Nat) (p v:Arg)
 | nilCheck (x:Arg)
 | bin (op:BinOp) (x y:Arg)
 | beq (neg:Bool) (x y:Arg)
 | un (op:UnOp) (x:Arg)
 | conv (k:IntKind) (x:Arg)
 | makeFunc (f:FuncId) (caps:List Arg)
 | makeSlice (s bytes:Nat) (zero:List V) (l c:Arg)
 | slice (s:Nat) (x:Arg) (lo hi mx:Option Arg)
 | fieldAddr (off:Nat) (sz:Option Nat) (x:Arg)
 | field (off:Nat) (sz:Option Nat) (x:Arg)
 | indexAddr (s:Nat) (x i:Arg)
 | len (x:Arg)
 | lenS (x:Arg)
 | toStr (x:Arg)
 | seq (neg:Bool) (x y:Arg)
 | bmin (x y:Arg)
 | appendN (s bytes:Nat) (zero:List V) (x n:Arg)
 | append (s bytes:Nat) (x y:Arg)
 | copy (s:Nat) (x y:Arg)
 | extract (x:Arg) (i:Nat)
 | makeMap
 | lookup (zero:V) (ok:Bool) (x k:Arg)
 | mapUpdate (x k v:Arg)
 | lookup2 (g:Bool) (zero:V) (ok:Bool) (x k:Arg)
 | mapUpdate2 (g:Bool) (x k v:Arg)
 | clear (s:Nat) (zero:List V) (x:Arg)
 | call (f:FuncId) (args:List Arg)
 | callv (f:Arg) (args:List Arg)
deriving Inhabited
def okSz:Option Nat->V->Bool
 | some n, .agg cs=>cs.length==n
 | none,x=>x.one
 | _,_=>false
def WK (cs:List V) (off:Nat):Option Nat->Option V
 | none=>cs[off]?
 | some n=>if off+n<=cs.length then some (.agg ((cs.drop off).take n)) else none
def jS (cs:List V) (off:Nat) (xs:List V):List V:=cs.take off++xs++cs.drop (off+xs.length)
def Jm (sz:Option Nat) (S:Store):V->Option V
 | .ref x=>if okSz sz x then some x else none
 | .ptr o off=>match S.get o with
  | some c=>WK c.2 off sz
  | none=>none
 | _=>none
def Yv (sz:Option Nat) (S:Store):V->V->Option Store
 | .ptr o off,v=>match S.get o,sz with
  | some c,none=>if off<c.2.length/\v.one=true then some (S.upd o (c.1,c.2.set off v)) else none
  | some c,some n=>match v with
   | .agg cs=>if cs.length=n/\off+n<=c.2.length then some (S.upd o (c.1,jS c.2 off cs)) else none
   | _=>none
  | none,_=>none
 | _,_=>none
def jB (s:Nat) (S:Store):V->V->Option V
 | .list xs, .int _ n=>if 0<=n then (match xs[n.toNat]? with | some x=>if x.ncells=s then some (.ref x) else none | none=>none) else none
 | .slice o off len, .int _ n=>if (S.get o).isSome=true/\0<=n/\n<len then some (.ptr o (off+n.toNat*s)) else none
 | _,_=>none
def jD (off:Nat) (sz:Option Nat) (S:Store):V->Option V
 | .ptr o p=>if (S.get o).isSome=true then some (.ptr o (p+off)) else none
 | .ref (.agg cs)=>(WK cs off sz).map .ref
 | _=>none
def Yx (off:Nat) (sz:Option Nat):V->Option V
 | .agg cs=>WK cs off sz
 | _=>none
def KY (S:Store):V->Option V
 | .list xs=>some (.int .i64 xs.length)
 | .slice o _ len=>if (S.get o).isSome=true then some (.int .i64 len) else none
 | .nils=>some (.int .i64 0)
 | _=>none
def jO (s:Nat) (S:Store):V->Option (List V × Nat)
 | .nils=>some ([],0)
 | .list xs=>if xs.all (fun x=>x.ncells==s) then some (xs.flatMap V.cells,xs.length) else none
 | .slice o off len=>match S.get o with
  | some c=>if off+len*s<=c.2.length then some ((c.2.drop off).take (len*s),len) else none
  | none=>none
 | _=>none
def jR (s bytes:Nat) (S:Store) (x y:V):Option (V × Store) :=
 match jO s S y with
 | none=>none
 | some (new,k)=>match x with
  | .nils=>if k*bytes<=140737488355328/\k<=140737488355328 then some (.slice S.nx 0 k,S.add (s,new)) else none
  | .slice o off len=>match S.get o with
   | some c=>if c.1=s/\off+len*s<=c.2.length/\(len+k)*bytes<=140737488355328/\len+k<=140737488355328 then
     some (.slice S.nx 0 (len+k),(S.del o).add (s,(c.2.drop off).take (len*s)++new)) else none
   | none=>none
  | _=>none
def jat (s:Nat) (S:Store) (x y:V):Option (V × Store) :=
 match jO s S y with
 | none=>none
 | some (new,k)=>match x with
  | .slice o off len=>match S.get o with
   | some c=>if off+len*s<=c.2.length then some (.int .i64 (min k len:Nat),S.upd o (c.1,jS c.2 off (new.take (min k len*s)))) else none
   | none=>none
  | .nils=>some (.int .i64 0,S)
  | _=>none
def qF (d:Nat):Option V->Option Nat
 | none=>some d
 | some (.int _ n)=>if 0<=n then some n.toNat else none
 | _=>none
def qp (s:Nat) (S:Store) (x:V) (lo hi mx:Option V):Option V :=
 match x with
 | .list xs=>match qF 0 lo,qF xs.length hi,qF xs.length mx with
  | some l,some h,some m=>if l<=h/\h<=m/\m<=xs.length/\(mx.isSome=true->hi.isSome=true)/\(l=0\/xs.all (fun x=>x.ncells==s)=true) then (if m=0/\mx.isSome=true then some .nils else some (.list ((xs.take h).drop l))) else none
  | _,_,_=>none
 | .slice o off len=>match qF 0 lo,qF len hi,qF len mx with
  | some l,some h,some m=>if (S.get o).map (·.1)=some s/\l<=h/\h<=m/\m<=len/\(mx.isSome=true->hi.isSome=true) then some (.slice o (off+l*s) (h-l)) else none
  | _,_,_=>none
 | .nils=>match qF 0 lo,qF 0 hi,qF 0 mx with
  | some 0,some 0,some 0=>if mx.isSome=true->hi.isSome=true then some .nils else none
  | _,_,_=>none
 | _=>none
def rep0 (zero:List V) (n:Nat):List V :=
 match zero with
 | [z]=>List.replicate n z
 | zs=>(List.replicate n zs).flatten
def WL (s bytes:Nat) (zero:List V) (S:Store):V->V->Option (V × Store)
 | .int .i64 l, .int .i64 c=>if 0<=l/\l<=c/\c*bytes<=140737488355328/\c<=140737488355328 then some (.slice S.nx 0 l.toNat,S.add (s,rep0 zero c.toNat)) else none
 | _,_=>none
def jbh:BinOp->V->V->Option V
 | .add, .int k a, .int k' b=>if k=k' then some (.int k (k.wrap (a+b))) else none
 | .sub, .int k a, .int k' b=>if k=k' then some (.int k (k.wrap (a-b))) else none
 | .mul, .int k a, .int k' b=>if k=k' then some (.int k (k.wrap (a*b))) else none
 | .quo, .int k a, .int k' b=>if k=k'/\b≠0 then some (.int k (k.wrap (a.tdiv b))) else none
 | .rem, .int k a, .int k' b=>if k=k'/\b≠0 then some (.int k (a.tmod b)) else none
 | .and, .int k a, .int k' b=>if k=k' then some (.int k (k.wrap (BitVec.ofInt k.bits a &&& BitVec.ofInt k.bits b).toNat)) else none
 | .or, .int k a, .int k' b=>if k=k' then some (.int k (k.wrap (BitVec.ofInt k.bits a ||| BitVec.ofInt k.bits b).toNat)) else none
 | .xor, .int k a, .int k' b=>if k=k' then some (.int k (k.wrap (BitVec.ofInt k.bits a ^^^ BitVec.ofInt k.bits b).toNat)) else none
 | .shl, .int k a, .int _ b=>if 0<=b then some (.int k (k.wrap (a*2^min b.toNat k.bits))) else none
 | .shr, .int k a, .int _ b=>if 0<=b then some (.int k (a.fdiv (2^min b.toNat k.bits))) else none
 | .eql, .int k a, .int k' b=>if k=k' then some (.bool (a==b)) else none
 | .neq, .int k a, .int k' b=>if k=k' then some (.bool (a != b)) else none
 | .lss, .int k a, .int k' b=>if k=k' then some (.bool (decide (a<b))) else none
 | .leq, .int k a, .int k' b=>if k=k' then some (.bool (decide (a<=b))) else none
 | .gtr, .int k a, .int k' b=>if k=k' then some (.bool (decide (a > b))) else none
 | .geq, .int k a, .int k' b=>if k=k' then some (.bool (decide (a≥b))) else none
 | _,_,_=>none
def opUn:UnOp->V->Option V
 | .not, .bool b=>some (.bool !b)
 | .neg, .int k n=>some (.int k (k.wrap (0-n)))
 | _,_=>none
def opBeq (neg:Bool):V->V->Option V
 | .bool a, .bool b=>some (.bool (if neg then a != b else a==b))
 | _,_=>none
def opSeq (neg:Bool):V->V->Option V
 | .str a, .str b=>some (.bool (if neg then !(a.toList==b.toList) else a.toList==b.toList))
 | _,_=>none
def jcA:V->V->Option V
 | .int k a, .int k' b=>if k=k' then some (.int k (if b<a then b else a)) else none
 | _,_=>none
def strV (xs:List Int):ByteArray:=xs.foldl (fun r n=>r.push (UInt8.ofNat n.toNat)) ByteArray.empty
def numV:V->Int
 | .int _ n=>n
 | _=>0
def YE:V->Bool
 | .int .u8 _=>true
 | _=>false
def Kv:V->Option V
 | .list xs=>if xs.all YE=true then some (.str (strV (xs.map numV))) else none
 | _=>none
def zV (s bytes:Nat) (zero:List V) (S:Store):V->V->Option (V × Store)
 | .slice o off len, .int .i64 n=>match S.get o with
  | some c=>if 0<=n/\c.1=s/\off+len*s<=c.2.length/\(len+n.toNat)*bytes<=140737488355328/\len+n.toNat<=140737488355328 then
    some (.slice S.nx 0 (len+n.toNat),(S.del o).add (s,(c.2.drop off).take (len*s)++rep0 zero n.toNat)) else none
  | none=>none
 | _,_=>none
def qj (ρ:Arg->V) (cells:List V):List (Nat × Nat × Arg)->Option (List V)
 | []=>some cells
 | (off,sz,x)::r=>if (ρ x).ncells=sz/\off+sz<=cells.length/\((ρ x).cells.all V.one)=true then qj ρ (jS cells off (ρ x).cells) r else none
def zF:V->V->Option Bool
 | .int k a, .int k' b=>if k=k' then some (a==b) else none
 | .agg [.int .i64 a, .int .i64 b], .agg [.int .i64 a', .int .i64 b']=>some (a==a'&&b==b')
 | _,_=>none
def zp (k:V):List V->Nat->Option (Option (Nat × V))
 | [],_=>some none
 | .tuple [k',v]::r,i=>match zF k k' with
  | some true=>some (some (i,v))
  | some false=>zp k r (i+1)
  | none=>none
 | _,_=>none
def qW (zero:V) (ok:Bool) (S:Store):V->V->Option V
 | .map o, .int kk n=>match S.get o with
  | some c=>match zp (.int kk n) c.2 0 with
   | some (some (_,v))=>some (if ok then .tuple [v, .bool true] else v)
   | some none=>some (if ok then .tuple [zero, .bool false] else zero)
   | none=>none
  | none=>none
 | _,_=>none
def qq (S:Store):V->V->V->Option Store
 | .map o, .int kk n,v=>match S.get o with
   | some c=>match zp (.int kk n) c.2 0 with
    | some (some (j,_))=>some (S.upd o (c.1,c.2.set j (.tuple [.int kk n,v])))
    | some none=>some (S.upd o (c.1,c.2++[.tuple [.int kk n,v]]))
    | none=>none
   | none=>none
 | _,_,_=>none
def Jl (g:Bool) (zero:V) (ok:Bool) (S:Store):V->V->Option V
 | .map o, .agg [.int .i64 a, .int .i64 b]=>if g=true then match S.get o with
  | some c=>match zp (.agg [.int .i64 a, .int .i64 b]) c.2 0 with
   | some (some (_,v))=>some (if ok then .tuple [v, .bool true] else v)
   | some none=>some (if ok then .tuple [zero, .bool false] else zero)
   | none=>none
  | none=>none
  else none
 | _,_=>none
def zU (g:Bool) (S:Store):V->V->V->Option Store
 | .map o, .agg [.int .i64 a, .int .i64 b],v=>if g=true then match S.get o with
   | some c=>match zp (.agg [.int .i64 a, .int .i64 b]) c.2 0 with
    | some (some (j,_))=>some (S.upd o (c.1,c.2.set j (.tuple [.agg [.int .i64 a, .int .i64 b],v])))
    | some none=>some (S.upd o (c.1,c.2++[.tuple [.agg [.int .i64 a, .int .i64 b],v]]))
    | none=>none
   | none=>none
   else none
 | _,_,_=>none
def Jz (s:Nat) (zero:List V) (S:Store):V->Option Store
 | .nils=>some S
 | .slice o off len=>match S.get o with
  | some c=>if off+len*s<=c.2.length then some (S.upd o (c.1,jS c.2 off (rep0 zero len))) else none
  | none=>none
 | _=>none
def Kc (s:Nat):Nat->List V->List V
 | 0,_=>[]
 | n+1,l=>(if s=1 then (l.take 1).headD .nils else .agg (l.take s))::Kc s n (l.drop s)
def opList (s len:Nat) (cs:Option (List V)):Option V :=
 match cs with
 | some cs=>if cs.length=len*s/\cs.all V.closed1=true then some (.list (Kc s len cs)) else none
 | none=>none
def ji (ρ:Arg->V) (S:Store):COp->Option (V × Store)
 | .move x=>some (ρ x,S)
 | .pick c a b=>match ρ c with | .bool t=>some (if t then ρ a else ρ b,S) | _=>none
 | .alloc zero=>some (.ptr S.nx 0,S.add (zero.length,zero))
 | .box x=>if (ρ x).cells.all V.one then some (.ptr S.nx 0,S.add ((ρ x).ncells,(ρ x).cells)) else none
 | .build zero parts=>(qj ρ zero parts).map fun cs=>(.agg cs,S)
 | .buildSlice s len zero parts=>(qj ρ (rep0 zero len) parts).map fun cs=>(.slice S.nx 0 len,S.add (s,cs))
 | .buildList s len zero parts=>(opList s len (qj ρ (rep0 zero len) parts)).map fun v=>(v,S)
 | .load sz x=>(Jm sz S (ρ x)).map fun v=>(v,S)
 | .store sz p v=>(Yv sz S (ρ p) (ρ v)).map fun S'=>(.tuple [],S')
 | .nilCheck x=>match ρ x with | .ptr o p=>if (S.get o).isSome=true then some (.ptr o p,S) else none | .ref y=>some (.ref y,S) | _=>none
 | .bin op x y=>(jbh op (ρ x) (ρ y)).map fun v=>(v,S)
 | .beq neg x y=>(opBeq neg (ρ x) (ρ y)).map fun v=>(v,S)
 | .un op x=>(opUn op (ρ x)).map fun v=>(v,S)
 | .conv k x=>match ρ x with | .int _ n=>some (.int k (k.wrap n),S) | _=>none
 | .makeFunc f caps=>some (.func f (caps.map (ρ)),S)
 | .makeSlice s bytes zero l c=>WL s bytes zero S (ρ l) (ρ c)
 | .slice s x lo hi mx=>(qp s S (ρ x) (lo.map (ρ)) (hi.map (ρ)) (mx.map (ρ))).map fun v=>(v,S)
 | .fieldAddr off sz x=>(jD off sz S (ρ x)).map fun v=>(v,S)
 | .field off sz x=>(Yx off sz (ρ x)).map fun v=>(v,S)
 | .indexAddr s x i=>(jB s S (ρ x) (ρ i)).map fun v=>(v,S)
 | .len x=>(KY S (ρ x)).map fun v=>(v,S)
 | .lenS x=>match ρ x with | .str s=>some (.int .i64 s.size,S) | _=>none
 | .toStr x=>(Kv (ρ x)).map fun v=>(v,S)
 | .seq neg x y=>(opSeq neg (ρ x) (ρ y)).map fun v=>(v,S)
 | .bmin x y=>(jcA (ρ x) (ρ y)).map fun v=>(v,S)
 | .appendN s bytes zero x n=>zV s bytes zero S (ρ x) (ρ n)
 | .append s bytes x y=>jR s bytes S (ρ x) (ρ y)
 | .copy s x y=>jat s S (ρ x) (ρ y)
 | .extract x i=>match ρ x with | .tuple xs=>(xs[i]?).map fun v=>(v,S) | _=>none
 | .makeMap=>some (.map S.nx,S.add (0,[]))
 | .lookup z ok x k=>(qW z ok S (ρ x) (ρ k)).map fun v=>(v,S)
 | .mapUpdate x k v=>(qq S (ρ x) (ρ k) (ρ v)).map fun S'=>(.tuple [],S')
 | .lookup2 g z ok x k=>(Jl g z ok S (ρ x) (ρ k)).map fun v=>(v,S)
 | .mapUpdate2 g x k v=>(zU g S (ρ x) (ρ k) (ρ v)).map fun S'=>(.tuple [],S')
 | .clear s z x=>(Jz s z S (ρ x)).map fun S'=>(.tuple [],S')
 | _=>none
/-! ### From the model's operations -/
def Program.slc (P:Program) (t:TypeId):Option (TypeId × TypeInfo) :=
 match P.underlying t with
 | some (.slice e)=>match P.info? e with
  | some i=>some (e,i)
  | none=>none
 | _=>none
def Program.szOf (P:Program) (t:TypeId):Option (Option Nat) :=
 match P.underlying t,P.info? t with
 | some (.struct _),some i=>some (some i.size)
 | some (.array _ _),some i=>some (some i.size)
 | some _,some i=>if i.size=1 then some none else none
 | _,_=>none
def Program.zeroV (P:Program) (t:TypeId):Option (List V) :=
 match P.info? t with
 | some i=>match i.zero with
  | some z=>if z.cells.size=i.size then z.cells.toList.mapM Wu else none
  | none=>none
 | none=>none
def Program.zero1 (P:Program) (t:TypeId):Option V :=
 match P.info? t with
 | some i=>match i.zero with
  | some z=>constV z
  | none=>none
 | none=>none
def Program.fld (P:Program) (t:TypeId) (i:Nat):Option (Nat × Option Nat) :=
 match P.underlying t with
 | some (.struct fs)=>match fs[i]? with
  | some f=>match szOf P f.type,P.info? f.type with
   | some sz,some j=>if j.size=0 then none else some (f.offset,sz)
   | _,_=>none
  | none=>none
 | _=>none
def Program.flds (P:Program) (t:TypeId):Option (List (Nat × Nat)) :=
 match P.underlying t with
 | some (.struct fs)=>fs.toList.mapM fun f=>match P.info? f.type with
  | some j=>some (f.offset,j.size)
  | none=>none
 | _=>none
def Program.isInt (P:Program) (t:TypeId):Bool:=match P.underlying t with | some (.int _)=>true | _=>false
def Program.pairKey (P:Program) (kt:TypeId):Bool:=match P.underlying kt with
 | some (.struct fs) => !P.stoodInHeld kt&&(match fs.toList with
  | [f, g] => f.name != "_" && g.name != "_" && f.offset == 0 && g.offset == 1 && Program.isInt P f.type && Program.isInt P g.type
  | _=>false)
 | _=>false
def Kt {P:Program} {kt:TypeId} (n:Nat):Bool:=if n=0 then Program.pairKey P kt else Kt (P:=P) (kt:=kt) (n-1)
termination_by n
decreasing_by omega
theorem jbI {P:Program} {kt:TypeId}:Kt (P:=P) (kt:=kt) 0=Program.pairKey P kt:=by rw [Kt,if_pos rfl]
def Ka (P:Program) (c:Call):Option COp :=
 match c.callee,c.args.toList,c.argTypes.toList with
 | .builtin .len,[x],[t]=>match P.underlying t with
  | some (.slice _)=>(jr x).map .len
  | some .string=>(jr x).map .lenS
  | _=>none
 | .builtin .append,[x,y],[t,u]=>if u=t then match Program.slc P t,jr x,jr y with
   | some (e,i),some x,some y=>match Program.zeroV P e with
    | some _=>if 0<i.size then some (.append i.size i.bytes x y) else none
    | none=>none
   | _,_,_=>none
  else match Program.slc P t,jr x,jr y,P.underlying u with
   | some (e,i),some x,some y,some (.int _)=>match Program.zeroV P e with
    | some z=>if 0<i.size then some (.appendN i.size i.bytes z x y) else none
    | none=>none
   | _,_,_,_=>none
 | .builtin .min,[x,y],_=>match jr x,jr y with
  | some x,some y=>some (.bmin x y)
  | _,_=>none
 | .builtin .copy,[x,y],[t,u]=>if u=t then match Program.slc P t,jr x,jr y with
   | some (e,i),some x,some y=>some (.copy i.size x y)
   | _,_,_=>none
  else none
 | .builtin .clear,[x],[t]=>match Program.slc P t,jr x with
  | some (e,i),some x=>match Program.zeroV P e with
   | some z=>some (.clear i.size z x)
   | none=>none
  | _,_=>none
 | .value (.func f),args,_=>match P.funcs[f]? with
  | some fn => if fn.name == "runtime.NumGoroutine" || fn.body.isNone then none else (args.mapM jr).map (.call f)
  | none=>none
 | .value f,args,_=>match jr f,args.mapM jr with
  | some f,some args=>some (.callv f args)
  | _,_=>none
 | _,_,_=>none
def WY (P:Program) (o:Oper):Option COp :=
 match o.op with
 | .move x | .assign x=>(jr x).map .move
 | .pick c a b=>match jr c,jr a,jr b with
  | some c,some a,some b=>some (.pick c a b)
  | _,_,_=>none
 | .alloc t=>match P.underlying t,Program.zeroV P t with
  | some _,some z=>some (.alloc z)
  | _,_=>none
 | .box t x=>(jr x).map .box
 | .build t parts=>match Program.flds P t,Program.zeroV P t with
  | some fs,some z=>(parts.toList.mapM fun (p:Nat × Operand)=>match fs[p.1]?,jr p.2 with
   | some f,some x=>some ((f.1,f.2,x):Nat × Nat × Arg)
   | _,_=>none).map (.build z)
  | _,_=>none
 | .buildSlice t len parts=>match Program.slc P t with
  | some (e,i)=>match Program.zeroV P e with
   | some z=>if len*i.size<=65536/\0<i.size then (parts.toList.mapM fun (p:Nat × Operand)=>match jr p.2 with
     | some x=>some ((p.1*i.size,i.size,x):Nat × Nat × Arg)
     | none=>none).map (.buildSlice i.size len z) else none
   | none=>none
  | none=>none
 | .load t x=>match Program.szOf P t,jr x with
  | some sz,some x=>some (.load sz x)
  | _,_=>none
 | .store t p v=>match Program.szOf P t,jr p,jr v with
  | some sz,some p,some v=>some (.store sz p v)
  | _,_,_=>none
 | .nilCheck x=>(jr x).map .nilCheck
 | .binOp op t x y _=>match jr x,jr y with
  | some x,some y=>(match op,P.underlying t with
   | .eql,some .bool=>some (.beq false x y)
   | .neq,some .bool=>some (.beq true x y)
   | .eql,some .string=>some (.seq false x y)
   | .neq,some .string=>some (.seq true x y)
   | _,_=>some (.bin op x y))
  | _,_=>none
 | .unOp op _ x=>(jr x).map (.un op)
 | .convert s d x=>match P.underlying s,P.underlying d with
  | some _,some (.int k)=>(jr x).map (.conv k)
  | some (.slice e),some .string=>match P.underlying e with
   | some (.int .u8)=>(jr x).map .toStr
   | _=>none
  | _,_=>none
 | .makeFunc fn first caps=>match fn,first.toList with
  | .func f,[]=>(caps.toList.mapM jr).map (.makeFunc f)
  | _,_=>none
 | .makeSlice t l c=>match Program.slc P t,jr l,jr c with
  | some (e,i),some l,some c=>match Program.zeroV P e with
   | some z=>some (.makeSlice i.size i.bytes z l c)
   | none=>none
  | _,_,_=>none
 | .slice t x lo hi mx=>match Program.slc P t,jr x,lo.mapM jr,hi.mapM jr,mx.mapM jr with
  | some (e,i),some x,some lo,some hi,some mx=>some (.slice i.size x lo hi mx)
  | _,_,_,_,_=>none
 | .fieldAddr t x f=>match Program.fld P t f,jr x with
  | some (off,sz),some x=>some (.fieldAddr off sz x)
  | _,_=>none
 | .field t x f=>match Program.fld P t f,jr x with
  | some (off,sz),some x=>some (.field off sz x)
  | _,_=>none
 | .indexAddr t x i=>match Program.slc P t,jr x,jr i with
  | some (e,j),some x,some i=>some (.indexAddr j.size x i)
  | _,_,_=>none
 | .extract x i=>(jr x).map fun x => .extract x i
 | .call c=>Ka P c
 | .makeMap _ none=>some .makeMap
 | .lookup t x i ok=>match P.underlying t,jr x,jr i with
  | some (.map kt e),some x,some i=>match P.underlying kt,Program.zero1 P e with
   | some (.int _),some z=>some (.lookup z ok x i)
   | _,some z=>some (.lookup2 (Kt (P:=P) (kt:=kt) 0) z ok x i)
   | _,_=>none
  | _,_,_=>none
 | .mapUpdate t x k v | .insert t x k v=>match P.underlying t,jr x,jr k,jr v with
  | some (.map kt _),some x,some k,some v=>match P.underlying kt with
   | some (.int _)=>some (.mapUpdate x k v)
   | _=>some (.mapUpdate2 (Kt (P:=P) (kt:=kt) 0) x k v)
  | _,_,_,_=>none
 | _=>none
end Go.Vw
/-
  Each operation over values without addresses is the model's.
-/
namespace Go.Vw
open Go.RowKit
theorem Ws {m:Imm} {v:Value} {x:V} (h:Wu v=some x):RepI m x v:=by
  unfold Wu at h;split at h<;>first | (cases h; first | exact .bool _ | exact .int _ _ | exact .str _ | exact .nils _ | exact .nilp | exact .nilf | exact .nilm) | cases h
theorem Wt {v:Value} {x:V} (h:Wu v=some x):v.oneCell'=true/\x.one=true:=by
  unfold Wu at h;split at h<;>first | (cases h; exact ⟨rfl,rfl⟩) | cases h
theorem ZC {α β:Type} {f:α->Option β} {l:List α} {r:List β} (h:l.mapM f=some r):l.length=r.length /\ ∀ (i:Nat) a b,l[i]? = some a->r[i]? = some b->f a=some b:=by
  induction l generalizing r with
  | nil=>simp at h; subst h; simp
  | cons a l ih =>
    simp only [List.mapM_cons,Option.bind_eq_bind,aN] at h;obtain ⟨b,hb,r',hr',h⟩:=h;simp at h;subst h;obtain ⟨h1,h2⟩:=ih hr';refine ⟨by simp [h1],fun i a' b' ha hb' => ?_⟩
    cases i with
    | zero=>simp at ha hb'; subst ha; subst hb'; exact hb
    | succ i=>simp at ha hb'; exact h2 i a' b' ha hb'
theorem jbR {m:Imm} {v:Value} {x:V} (h:constV v=some x):RepI m x v:=by
  unfold constV at h;split at h
  ·rename_i cs;simp only [av] at h;obtain ⟨xs,hxs,rfl⟩:=h;obtain ⟨h1,h2⟩:=ZC hxs;have:cs=cs.toList.toArray:=by simp
   rw [this];refine .agg xs cs.toList h1.symm (fun i x v hx hv=>Ws (h2 i v x hv hx)) fun v hv => ?_
   obtain ⟨i,hi,rfl⟩:=a9 hv;exact (Wt (h2 i _ xs[i] (ac hi) (ac (by omega)))).1
  ·exact Ws h
section
variable {P:Program} {N:Nat} {S:Store} {m:Imm} {β:Objs} {w:World} {σ:Fr} {a:Act}
theorem jA (hF:FrameRep N m β σ a) {x:Operand} {y:Arg} (h:jr x=some y):Rep m β (ev σ y) (a.eval x):=by
  cases x with
  | tmp t=>simp [jr] at h; subst h; exact hF.rep t
  | const v =>
    simp only [jr] at h;split at h
    ·cases h; exact .junk _
    ·obtain ⟨z,hz,rfl⟩:=av.1 h;exact .imm (jbR hz)
  | global g=>simp [jr] at h
  | func f =>
    simp [jr] at h; subst h;have:=Rep.func (m:=m) (β:=β) f [] [] rfl (by simp);simpa [ev,Act.eval] using this
theorem evs_rep (hF:FrameRep N m β σ a) {xs:List Operand} {ys:List Arg} (h:xs.mapM jr=some ys):RepL m β (ys.map (ev σ)) (xs.map a.eval):=by
  obtain ⟨h1,h2⟩:=ZC h;refine ⟨by simp [h1],fun i x v hx hv => ?_⟩;simp only [a8,av] at hx hv;obtain ⟨y,hy,rfl⟩:=hx;obtain ⟨z,hz,rfl⟩:=hv;exact jA hF (h2 i z y hz hy)
theorem zB (m:Imm) (β:Objs):Rep m β (.tuple []) undef:=Rep.tuple [] [] rfl (by simp)
def Does (P:Program) (r:Result Next) (x:V) (S':Store) (m:Imm) (β:Objs) (w:World):Prop :=
  ∃ v w' m' β',(r = .ok (.value v) w'\/(r = .ok .skip w'/\v=undef))/\Rep m' β' x v/\Holds S' m' β' w'/\Ext m β w m' β' w'
theorem Does.same {r:Result Next} {x:V} {v:Value} (hS:Holds S m β w) (hr:r = .ok (.value v) w) (hx:Rep m β x v):Does P r x S m β w :=
  ⟨v,w,m,β, .inl hr,hx,hS,Ext.refl _ _ _⟩
/-! inversions -/
theorem Rep.inv_bool {b:Bool} {v:Value} (h:Rep m β (.bool b) v):v = .bool b:=by cases h with | imm h=>cases h; rfl
theorem Rep.inv_int {k:IntKind} {n:Int} {v:Value} (h:Rep m β (.int k n) v):v = .int k n:=by cases h with | imm h=>cases h; rfl
theorem Rep.inv_str {s:ByteArray} {v:Value} (h:Rep m β (.str s) v):v = .string s:=by cases h with | imm h=>cases h; rfl
theorem Rep.inv_nils {v:Value} (h:Rep m β .nils v) : ∃ a,v = .slice a 0 0:=by cases h with | imm h=>cases h; exact ⟨_,rfl⟩
theorem Rep.inv_agg {xs:List V} {v:Value} (h:Rep m β (.agg xs) v) : ∃ vs:List Value,v = .agg vs.toArray/\xs.length=vs.length /\
    (∀ (i:Nat) x v,xs[i]? = some x->vs[i]? = some v->Rep m β x v) /\ ∀ v∈vs,v.oneCell'=true:=by
  cases h with
  | imm h=>cases h with | agg _ vs hl hr h1=>exact ⟨vs,rfl,hl,fun i x v hx hv => .imm (hr i x v hx hv),h1⟩
  | agg _ vs hl hr h1=>exact ⟨vs,rfl,hl,hr,h1⟩
theorem Rep.inv_tuple {xs:List V} {v:Value} (h:Rep m β (.tuple xs) v) : ∃ vs:List Value,v = .tuple vs.toArray/\xs.length=vs.length /\
    (∀ (i:Nat) x v,xs[i]? = some x->vs[i]? = some v->Rep m β x v):=by
  cases h with
  | imm h=>cases h
  | tuple _ vs hl hr=>exact ⟨vs,rfl,hl,hr⟩
theorem Rep.inv_func {f:FuncId} {xs:List V} {v:Value} (h:Rep m β (.func f xs) v) : ∃ vs:List Value,v = .func (.func f) #[] vs.toArray/\RepL m β xs vs:=by
  cases h with
  | imm h=>cases h
  | func _ _ vs hl hr=>exact ⟨vs,rfl,hl,hr⟩
theorem Rep.inv_ref {x:V} {v:Value} (h:Rep m β (.ref x) v) : ∃ u b off arr T fz,v = .pointer (some ⟨b,off,none⟩)/\m b=some (.cells arr T fz)/\RepI m x u /\ ∀ (j:Nat) c,u.cells[j]? = some c->arr[off+j]? = some c:=by
  cases h with
  | imm h=>cases h with | ref _ u b off arr T fz hm hr hc=>exact ⟨u,b,off,arr,T,fz,rfl,hm,hr,hc⟩
theorem Rep.inv_list {xs:List V} {v:Value} (h:Rep m β (.list xs) v):RepI m (.list xs) v:=by cases h with | imm h=>exact h
theorem Rep.inv_slice {o off len:Nat} {v:Value} (h:Rep m β (.slice o off len) v) (hd:β o ≠ .dead) : ∃ a cap,v = .slice a len cap/\len<=cap/\cap<=maxLen /\
    ((β o = .void/\len=0/\cap=0) \/ ∃ b base s n,β o = .lies b base s n/\(cap=0\/(a=some ⟨b,base+off,none⟩/\base+off+cap*s<=n))):=by
  cases h with
  | imm h=>cases h
  | sliceDead _ _ _ _ h=>exact absurd h hd
  | sliceVoid _ _ a h=>exact ⟨a,0,rfl,bf _,Nat.zero_le _, .inl ⟨h,rfl,rfl⟩⟩
  | slice _ _ _ b base s n cap a h hc hcm ha=>exact ⟨a,cap,rfl,hc,hcm, .inr ⟨b,base,s,n,h,ha⟩⟩
theorem Rep.inv_ptr {o off:Nat} {v:Value} (h:Rep m β (.ptr o off) v) (hd:β o ≠ .dead) : ∃ b base s n,β o = .lies b base s n/\v = .pointer (some ⟨b,base+off,none⟩):=by
  cases h with
  | imm h=>cases h
  | ptrDead _ _ _ h=>exact absurd h hd
  | ptr _ _ b base s n h=>exact ⟨b,base,s,n,h,rfl⟩
theorem Holds.alive (h:Holds S m β w) {o:Nat} {c} (ho:S.get o=some c):β o ≠ .dead:=by
  intro e;have:=h.live o c ho;rw [e] at this;exact this
theorem Jv (b off i:Nat):(⟨b,off,none⟩:Addr).add i=⟨b,off+i,none⟩:=by unfold Addr.add; split<;>simp_all
theorem YM {arr:Array Value} {T:TypeId} {fz:Nat × Nat} {b:Nat} (h:w.heap[b]? = some (.cells arr T fz)) (off:Nat):w.cell? ⟨b,off,none⟩=arr[off]? := by simp [World.cell?,h]
theorem ZY {t:TypeId} {sz:Option Nat} (h:Program.szOf P t=some sz) (w:World) :
    ∃ i,P.info? t=some i/\(isAgg t).run P w = .ok sz.isSome w/\(∀ n,sz=some n->i.size=n)/\(sz=none->i.size=1):=by
  unfold Program.szOf at h
  cases hu:P.underlying t with
  | none=>simp [hu] at h
  | some d =>
    cases hi:P.info? t with
    | none=>cases d<;>simp [hu,hi] at h
    | some i =>
      refine ⟨i,rfl, ?_⟩
      cases d<;>simp only [hu,hi] at h <;>
        first
        | (cases h; exact ⟨by simp [isAgg,run_underlying hu],(by intro n hn; cases hn; rfl),(by intro hn; cases hn)⟩)
        | (split at h
           ·rename_i hs; cases h; exact ⟨by simp [isAgg,run_underlying hu],(by intro n hn; cases hn),fun _=>hs⟩
           ·cases h)
theorem qm {t:TypeId} {sz:Option Nat} (hsz:Program.szOf P t=some sz) {arr:Array Value} {T:TypeId} {fz:Nat × Nat} {b off:Nat} (hb:w.heap[b]? = some (.cells arr T fz))
    (u:Value) (hu:(∀ n,sz=some n -> ∃ vs:List Value,u = .agg vs.toArray/\vs.length=n)/\(sz=none->u.cells = #[u])) (hc : ∀ (j:Nat) c,u.cells[j]? = some c->arr[off+j]? = some c) :
    (loadVar t ⟨b,off,none⟩).run P w = .ok u w:=by
  obtain ⟨i,hi,hagg,hsome,hnone⟩:=ZY hsz w
  cases sz with
  | none =>
    have e:=hu.2 rfl;have h0:=hc 0 u (by simp [e]);simp only [Nat.add_zero] at h0;simp at hagg;simp [loadVar,hagg,YM hb,h0]
  | some n =>
    obtain ⟨vs,rfl,hl⟩:=hu.1 n rfl;have hcs:=run_loadCells_list (P:=P) w ⟨b,off,none⟩ vs (fun j v hv=>by
      rw [Jv,YM hb];exact hc j v (by simpa [Value.cells] using hv))
    rw [hl] at hcs;simp at hagg;simp [loadVar,hagg,sizeOf,typeInfo,hi,hsome n rfl,hcs]
theorem Rep.cellwise {x:V} {v:Value} (h:Rep m β x v) (h1:x.cells.all V.one=true):x.cells.length=v.cells.size /\
    ∀ (i:Nat) c,x.cells[i]? = some c -> ∃ u,v.cells[i]? = some u/\Rep m β c u/\u.oneCell'=true:=by
  by_cases hx : ∃ xs,x = .agg xs
  ·obtain ⟨xs,rfl⟩:=hx;obtain ⟨vs,rfl,hl,hr,ho⟩:=h.inv_agg;refine ⟨by simpa [V.cells,Value.cells] using hl,fun i c hc => ?_⟩;simp only [V.cells] at hc;have hi:i<vs.length:=by have:=(ae.1 hc).1; omega
   exact ⟨vs[i],by simp [Value.cells,hi],hr i c _ hc (ac hi),ho _ (ah hi)⟩
  ·have e:x.cells=[x]:=by cases x<;>first | rfl | exact absurd ⟨_,rfl⟩ hx
   rw [e] at h1 ⊢;have h1':x.one=true:=by simpa using h1
   have ho:=h.oneCell h1';have ev:v.cells = #[v]:=by cases v<;>first | rfl | simp [Value.oneCell'] at ho
   refine ⟨by simp [ev],fun i c hc => ?_⟩;rw [List.getElem?_singleton] at hc;split at hc
   ·cases hc; rename_i hi; subst hi; exact ⟨v,by simp [ev],h,ho⟩
   ·cases hc
theorem Holds.cells_at (h:Holds S m β w) {o b base s n:Nat} {c:Nat × List V} (ho:S.get o=some c) (hob:β o = .lies b base s n) :
    c.1=s /\ ∃ arr T,w.heap[b]? = some (.cells arr T (0,0))/\arr.size=n/\base+c.2.length<=n /\ ∀ (i:Nat) x,c.2[i]? = some x -> ∃ v,arr[base+i]? = some v/\Rep m β x v/\v.oneCell'=true:=by
  have:=h.live o c ho;rw [hob] at this;exact this
theorem Jh {arr:Array Value} {base:Nat} {cells:List V} (h : ∀ (i:Nat) x,cells[i]? = some x -> ∃ v,arr[base+i]? = some v/\Rep m β x v/\v.oneCell'=true) (off n:Nat) (hle:off+n<=cells.length) :
    ∃ vs:List Value,vs.length=n/\(∀ (j:Nat) v,vs[j]? = some v->arr[base+off+j]? = some v)/\RepL m β ((cells.drop off).take n) vs /\ ∀ v∈vs,v.oneCell'=true:=by
  refine ⟨(List.range n).map fun j=>arr.getD (base+off+j) undef,by simp,fun j v hj => ?_,⟨by simp; omega,fun i x v hx hv => ?_⟩,fun v hv => ?_⟩
  ·simp only [a8,av] at hj;obtain ⟨j',hj',rfl⟩:=hj;obtain ⟨hlt,e⟩:=ae.1 hj';simp at e hlt; subst e;obtain ⟨u,hu,_⟩:=h (off+j) cells[off+j] (ac (by omega));rw [<-Nat.add_assoc] at hu;simp [a6,hu]
  ·simp only [a8,av] at hv;obtain ⟨j',hj',rfl⟩:=hv;obtain ⟨hlt,e⟩:=ae.1 hj';simp at e hlt; subst e;rw [List.getElem?_take,if_pos hlt,List.getElem?_drop] at hx;obtain ⟨u,hu,hr,_⟩:=h _ x hx;rw [<-Nat.add_assoc] at hu;simp [a6,hu,hr]
  ·simp only [bk,List.mem_range] at hv;obtain ⟨j,hj,rfl⟩:=hv;obtain ⟨u,hu,_,ho⟩:=h (off+j) cells[off+j] (ac (by omega));rw [<-Nat.add_assoc] at hu;simp [a6,hu,ho]
theorem does_load {o:Oper} {t:TypeId} {y:Operand} {z:Arg} {sz:Option Nat} {x:V} (ho:o.op = .load t y) (hsz:Program.szOf P t=some sz) (hz:jr y=some z) (hS:Holds S m β w) (hF:FrameRep N m β σ a)
    (he:Jm sz S (ev σ z)=some x):Does P ((execOp a.eval o).run P w) x S m β w:=by
  have hr:=jA hF hz;generalize ev σ z=p at he hr;have run : ∀ (b off:Nat) u,a.eval y = .pointer (some ⟨b,off,none⟩)->(loadVar t ⟨b,off,none⟩).run P w = .ok u w->(execOp a.eval o).run P w = .ok (.value u) w:=by
    intro b off u h1 h2;simp [execOp,ho,h1,Instr.loadAt,Instr.sureAddr,h2]
  cases p with
  | ref x' =>
    simp only [Jm] at he;split at he
    ·rename_i hok
     cases he
     obtain ⟨u,b,off,arr,T,fz,e,hm,hu,hc⟩:=hr.inv_ref;refine Does.same hS (run b off u e (qm hsz (hS.imm _ _ hm) u ?_ hc)) (.imm hu);refine ⟨fun n hn => ?_,fun hn => ?_⟩
     ·subst hn
      cases x<;>simp [okSz] at hok
      cases hu with | agg xs vs hl _ _=>exact ⟨vs,rfl,by omega⟩
     ·subst hn;simp only [okSz] at hok;have:=(Rep.imm (β:=β) hu).oneCell hok
      cases u<;>first | rfl | simp [Value.oneCell'] at this
    ·cases he
  | ptr o' off =>
    simp only [Jm] at he
    cases hc:S.get o' with
    | none=>simp [hc] at he
    | some c =>
      simp only [hc] at he;obtain ⟨b,base,s,n,hob,e⟩:=hr.inv_ptr (hS.alive hc);obtain ⟨_,arr,T,h1,h2,h3,h4⟩:=hS.cells_at hc hob
      cases sz with
      | none =>
        simp only [WK] at he;obtain ⟨v,hv,hrv,hone⟩:=h4 off x he;have ec:v.cells = #[v]:=by cases v<;>first | rfl | simp [Value.oneCell'] at hone
        refine Does.same hS (run b (base+off) v e (qm hsz h1 v ⟨(by intro n hn; cases hn),fun _=>ec⟩ fun j c' hj => ?_)) hrv;rw [ec] at hj
        cases j with
        | zero=>simp at hj; subst hj; simpa using hv
        | succ j=>simp at hj
      | some k =>
        simp only [WK] at he;split at he
        ·rename_i hle
         cases he
         obtain ⟨vs,hl,hcs,hrl,hone⟩:=Jh h4 off k hle;refine Does.same hS (run b (base+off) (.agg vs.toArray) e (qm hsz h1 _ ⟨(by intro n hn; cases hn; exact ⟨vs,rfl,hl⟩),(by intro hn; cases hn)⟩ fun j c' hj => ?_)) (.agg _ vs hrl.1 hrl.2 hone);exact hcs j c' (by simpa [Value.cells] using hj)
        ·cases he
  | _=>simp [Jm] at he
theorem Yn (cs xs:List V) (off:Nat) (h:off+xs.length<=cs.length) (i:Nat):(jS cs off xs)[i]? = if i<off then cs[i]? else if i<off+xs.length then xs[i-off]? else cs[i]? := by
  simp only [jS,List.append_assoc,List.getElem?_append,List.length_take,List.getElem?_take,List.getElem?_drop];have e:min off cs.length=off:=by omega
  simp only [e];split
  ·simp [*]
  ·split
   ·rename_i h1 h2;rw [if_pos (by omega)]
   ·rename_i h1 h2;rw [if_neg (by omega)]
    congr 1
    omega
theorem JT (cs xs:List V) (off:Nat) (h:off+xs.length<=cs.length):(jS cs off xs).length=cs.length:=by
  simp [jS]; omega
theorem JS (cs xs:List Value) (off:Nat) (h:off+xs.length<=cs.length) (i:Nat):(cs.take off++xs++cs.drop (off+xs.length))[i]? = if i<off then cs[i]? else if i<off+xs.length then xs[i-off]? else cs[i]? := by
  simp only [List.append_assoc,List.getElem?_append,List.length_take,List.getElem?_take,List.getElem?_drop];have e:min off cs.length=off:=by omega
  simp only [e];split
  ·simp [*]
  ·split
   ·rename_i h1 h2;rw [if_pos (by omega)]
   ·rename_i h1 h2;rw [if_neg (by omega)]
    congr 1
    omega
theorem Holds.store (hS:Holds S m β w) {o b base s n:Nat} {c:Nat × List V} (ho:S.get o=some c) (hob:β o = .lies b base s n) (off:Nat) (xs:List V) (vs:List Value) (hr:RepL m β xs vs)
    (hone : ∀ v∈vs,v.oneCell'=true) (hle:off+xs.length<=c.2.length) :
    ∃ w',(storeCells ⟨b,base+off,none⟩ vs 0).run P w = .ok () w'/\Holds (S.upd o (c.1,jS c.2 off xs)) m β w'/\Ext m β w m β w':=by
  obtain ⟨hs,arr,T,h1,h2,h3,h4⟩:=hS.cells_at ho hob;have hl:=hr.1;have hst:=run_storeCells_at P b (base+off) T vs 0 arr w h1 (by simp; omega) hone;refine ⟨_,hst, ?_⟩;rw [hs];refine hS.setRow ho hob _ ?_ (jS c.2 off xs) (by rw [JT _ _ _ hle]; exact h3) fun i x hx => ?_
  ·simp; omega
  ·rw [Yn _ _ _ hle] at hx;simp only [List.getElem?_toArray,Nat.add_zero];rw [JS _ _ _ (by simp; omega)]
   by_cases hi:i<off
   ·rw [if_pos hi] at hx;rw [if_pos (by omega)];obtain ⟨v,e1,e2,e3⟩:=h4 i x hx;exact ⟨v,by simpa using e1,e2,e3⟩
   ·rw [if_neg hi] at hx;rw [if_neg (by omega)]
    by_cases hi2:i<off+xs.length
    ·rw [if_pos hi2] at hx;rw [if_pos (by omega)];have hlt:i-off<vs.length:=by omega
     refine ⟨vs[i-off], ?_,hr.2 _ x _ hx (ac hlt),hone _ (ah hlt)⟩;rw [show base+i-(base+off)=i-off from by omega];exact ac hlt
    ·rw [if_neg hi2] at hx;rw [if_neg (by omega)];obtain ⟨v,e1,e2,e3⟩:=h4 i x hx;exact ⟨v,by simpa using e1,e2,e3⟩
theorem set_splice (cs:List V) (off:Nat) (x:V) (h:off<cs.length):cs.set off x=jS cs off [x]:=by
  apply List.ext_getElem?
  intro i;rw [Yn cs [x] off (by simp; omega),List.getElem?_set]
  by_cases h1:off=i
  ·subst h1; simp [h]
  ·rw [if_neg h1]
   by_cases h2:i<off
   ·rw [if_pos h2]
   ·rw [if_neg h2,if_neg (by simp; omega)]
theorem does_store {o:Oper} {t:TypeId} {p u:Operand} {pz uz:Arg} {sz:Option Nat} {S':Store} (ho:o.op = .store t p u) (hsz:Program.szOf P t=some sz) (hp:jr p=some pz) (hu:jr u=some uz)
    (hS:Holds S m β w) (hF:FrameRep N m β σ a) (he:Yv sz S (ev σ pz) (ev σ uz)=some S'):Does P ((execOp a.eval o).run P w) (.tuple []) S' m β w:=by
  have hrp:=jA hF hp;have hru:=jA hF hu;generalize ev σ pz=p' at he hrp;generalize ev σ uz=u' at he hru
  cases p' with
  | ptr o' off =>
    simp only [Yv] at he
    cases hc:S.get o' with
    | none=>simp [hc] at he
    | some c =>
      obtain ⟨b,base,s,n,hob,e⟩:=hrp.inv_ptr (hS.alive hc);obtain ⟨i,hi,hagg,hsome,hnone⟩:=ZY hsz w
      -- the cells stored
      have go : ∀ (xs:List V) (vs:List Value),RepL m β xs vs->(∀ v∈vs,v.oneCell'=true)->(a.eval u).cells=vs.toArray->vs.length=i.size->off+xs.length<=c.2.length ->
          Does P ((execOp a.eval o).run P w) (.tuple []) (S.upd o' (c.1,jS c.2 off xs)) m β w:=by
        intro xs vs h1 h2 h3 h4 h5;obtain ⟨w',g1,g2,g3⟩:=hS.store (P:=P) hc hob off xs vs h1 h2 h5;refine ⟨undef,w',m,β, .inr ⟨?_,rfl⟩,zB m β,g2,g3⟩;simp [execOp,ho,e,Instr.storeAt,Instr.sureAddr,storeVar,h3,sizeOf,typeInfo,hi,h4,g1]
      cases sz with
      | none =>
        simp only [hc] at he;split at he
        ·rename_i hok
         cases he
         rw [set_splice _ _ _ hok.1];have hone:=hru.oneCell hok.2;have ec:(a.eval u).cells = #[a.eval u]:=by
           cases hv:a.eval u<;>first | rfl | (rw [hv] at hone; simp [Value.oneCell'] at hone)
         exact go [u'] [a.eval u] (RepL.cons hru (RepL.nil _ _)) (by simpa using hone) (by simpa using ec) (by simp [hnone rfl]) (by simp; omega)
        ·cases he
      | some k =>
        simp only [hc] at he
        cases u' with
        | agg cs =>
          simp only at he;split at he
          ·rename_i hok
           cases he
           obtain ⟨vs,e2,hl,hr,hone⟩:=hru.inv_agg;exact go cs vs ⟨hl,hr⟩ hone (by simp [e2,Value.cells]) (by rw [hsome k rfl]; omega) (by omega)
          ·cases he
        | _=>simp at he
  | _=>simp [Yv] at he
end
end Go.Vw
