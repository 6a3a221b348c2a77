import Derived.WalkKit
import Derived.Deep.Quiet
import Derived.BigQuiet
/- Part of the proof. -/
set_option linter.unusedVariables false
set_option linter.unusedSimpArgs false
namespace Go.Vw
end Go.Vw
theorem aa {α:Type _} {l:List α} {i:Nat} (h:i<l.length):l[i]?=some l[i]:=List.getElem?_eq_getElem h
theorem ab {α:Type _} {i:Nat} {a:α} {l:List α}:l[i]?=some a↔∃ (h:i<l.length),l[i]=a:=List.getElem?_eq_some_iff
theorem ae (a b:Bool):((a&&b)=true)=(a=true/\b=true):=Bool.and_eq_true a b
theorem af {α:Type _} {l:List α} {i:Nat} {a:α}:l.getD i a=l[i]?.getD a:=List.getD_eq_getElem?_getD
theorem ah {α:Type _} {l:List α} {n:Nat} (h:n<l.length):l[n]∈l:=List.getElem_mem h
theorem ai {p:Prop} [Decidable p]:(decide p=true)=p:=decide_eq_true_eq
theorem aj {α:Type _} {i:Nat} {l:List α} (h:i<l.length):List.drop i l=l[i]::List.drop (i+1) l:=List.drop_eq_getElem_cons h
theorem al {k m n:Nat} (h:k<m) (g:k<n):m-n<m-k:=Nat.sub_lt_sub_left h g
theorem am {α:Type _} {x:α} {xs:List α} {i:Nat} {a:α}:(x::xs).set (i+1) a=x::xs.set i a:=rfl
theorem ao {α:Type _} {x:α} {xs:List α} {a:α}:(x::xs).set 0 a=a::xs:=rfl
theorem aq {α:Type _} {b:α} {β:Type _} {x:Option β} {f:β->α}:Option.map f x=some b↔∃ (a:β),x=some a/\f a=b:=Option.map_eq_some_iff
theorem ar {α:Type _} (a b:α):(some a=some b)=(a=b):=Option.some.injEq a b
theorem au {α:Type _} {l:List α} {i:Nat} {a:α} (h:l[i]?=some a):a∈l:=List.mem_of_getElem? h
theorem av {α:Type _} {a:α} {l:List α}:(a::l).length=l.length+1:=rfl
theorem ax {α:Type _} {p:α->Bool} {l:List α}:l.all p=true↔∀ (x:α),x∈l->p x=true:=List.all_eq_true
theorem ay :(false=true)=False:=Bool.false_eq_true
theorem az {α:Type _} {a:α} {s t:List α}:a∈s++t↔a∈s\/a∈t:=List.mem_append
theorem aA {α:Type _} {l:List α} {i:Nat}:List.drop i l=[]↔l.length<=i:=List.drop_eq_nil_iff
theorem aB {α:Type _} {β:Type _} {l:List α} (f:α->β):(List.map f l).length=l.length:=List.length_map f
theorem aC {α:Type _} {l:List α} {i:Nat} (h:l.length<=i):l[i]?=none:=List.getElem?_eq_none h
theorem aD {α:Type _} {a:α} {l:List α}:(a::l)[0]?=some a:=rfl
theorem aE {α:Type _} {b:α} {l:List α} {a:α}:a∈b::l↔a=b\/a∈l:=List.mem_cons
theorem aF {α:Type _}:([]:List α).length=0:=rfl
theorem aG {α:Type _} {b:α} {β:Type _} {x:Option β} {f:β->Option α}:x.bind f=some b↔∃ (a:β),x=some a/\f a=some b:=Option.bind_eq_some_iff
theorem aH {α:Type _} {l:List α} (h:l.length=0):l=[]:=List.eq_nil_of_length_eq_zero h
theorem aI {p:Prop} [Decidable p] (h:decide p=true):p:=of_decide_eq_true h
theorem aJ {α:Type _} {a b:α}:(some a).getD b=a:=rfl
theorem aK {n m k:Nat} (h:n<m) (g:m<=k):n<k:=Nat.lt_of_lt_of_le h g
theorem aL {α:Type _} {l m:List α} {i:Nat} (h:i<l.length):(l++m)[i]?=l[i]?:=List.getElem?_append_left h
theorem aM {α:Type _} {a b:α}:a∈[b]↔a=b:=List.mem_singleton
theorem aN (n:Nat):n<n.succ:=Nat.lt_succ_self n
theorem aO {α:Type _} {l:Array α} {i:Nat} {a:α}:l.getD i a=l[i]?.getD a:=Array.getD_eq_getD_getElem?
theorem aP {α:Type _} {l:List α} {β:Type _} {f g:α->β} (h:∀ (a:α),a∈l->f a=g a):List.map f l=List.map g l:=List.map_congr_left h
theorem aQ {α:Type _} {β:Type _} {f:α->β} {l:List α} {i:Nat}:(List.map f l)[i]?=Option.map f l[i]?:=List.getElem?_map
theorem aR {α:Type _} {a:α} {l:List α} (h:a∈l):∃ (i:Nat),∃ (h:i<l.length),l[i]=a:=List.getElem_of_mem h
theorem aS (n:Nat):0+n=n:=Nat.zero_add n
theorem aT (n:Nat):n<=n:=Nat.le_refl n
theorem aU {n m k:Nat} (h:n<=m) (g:m<=k):n<=k:=Nat.le_trans h g
theorem aV {α:Type _} {l m:List α} {i:Nat} (h:l.length<=i):(l++m)[i]?=m[i-l.length]?:=List.getElem?_append_right h
theorem aW {α β:Type _} {a:α} {f:α->β}:(some a).map f=some (f a):=rfl
theorem aX (a b:Bool):((a||b)=true)=(a=true\/b=true):=Bool.or_eq_true a b
theorem aY {α:Type _} {a:α} {l m:List α}:(a::l)++m=a::(l++m):=rfl
theorem aZ {α:Type _} (l:List α):[]++l=l:=rfl
theorem ba (n:Nat):(n:Int).toNat=n:=Int.toNat_natCast n
theorem bc (a b:Nat):a<b\/a≥b:=Nat.lt_or_ge a b
theorem bf {p:Prop} [Decidable p] (h:p):decide p=true:=decide_eq_true h
theorem bg {p:Prop} [Decidable p] (h:¬p):decide p=false:=decide_eq_false h
theorem bh :(true=false)=False:=Bool.true_eq_false
namespace Go.Vw
open Go.RowKit
inductive V where
 | bool (b:Bool)
 | int (k:IntKind) (n:Int)
 | str (s:ByteArray)
 | nils
 | nilp
 | nilf
 | nilm
 | agg (xs:List V)
 | list (xs:List V)
 | ref (x:V)
 | slice (o off len:Nat)
 | ptr (o off:Nat)
 | func (f:FuncId) (caps:List V)
 | meth (f:FuncId) (x:V)
 | tuple (xs:List V)
 | map (o:Nat)
 | raw (v:Value)
 | junk
deriving Inhabited
def V.cells:V->List V
 | .agg xs=>xs
 | x=>[x]
def V.ncells:V->Nat
 | .agg xs=>xs.length
 | _=>1
def V.one:V->Bool
 | .agg _ | .tuple _ | .junk=>false
 | .raw v=>v.oneCell'
 | _=>true
abbrev Imm:=Nat->Option Obj
inductive RepI (m:Imm):V->Value->Prop
 | bool (b):RepI m (.bool b) (.bool b)
 | int (k n):RepI m (.int k n) (.int k n)
 | str (s):RepI m (.str s) (.string s)
 | nils (a):RepI m .nils (.slice a 0 0)
 | nilp:RepI m .nilp (.pointer none)
 | nilf:RepI m .nilf .nilFunc
 | nilm:RepI m .nilm (.map none)
 | agg (xs:List V) (vs:List Value) (hl:xs.length=vs.length)
   (hr : ∀ (i:Nat) x v,xs[i]? = some x->vs[i]? = some v->RepI m x v) (h1 : ∀ v∈vs,v.oneCell'=true):RepI m (.agg xs) (.agg vs.toArray)
 | list0 (a cap) (hc:cap<=maxLen):RepI m (.list []) (.slice a 0 cap)
 | list (xs:List V) (vs:List Value) (b off cap s:Nat) (arr:Array Value) (T:TypeId) (fz:Nat × Nat)
   (hm:m b=some (.cells arr T fz)) (hl:xs.length=vs.length) (hc:xs.length<=cap) (hcm:cap<=maxLen)
   (hs : ∀ v∈vs,v.cells.size=s) (hr : ∀ (i:Nat) x v,xs[i]? = some x->vs[i]? = some v->RepI m x v)
   (hcells : ∀ (i:Nat) v (j:Nat) c,vs[i]? = some v->v.cells[j]? = some c->arr[off+i*s+j]? = some c) :
   RepI m (.list xs) (.slice (some ⟨b,off,none⟩) xs.length cap)
 | ref (x:V) (v:Value) (b off:Nat) (arr:Array Value) (T:TypeId) (fz:Nat × Nat)
   (hm:m b=some (.cells arr T fz)) (hr:RepI m x v) (hcells : ∀ (j:Nat) c,v.cells[j]? = some c->arr[off+j]? = some c) :
   RepI m (.ref x) (.pointer (some ⟨b,off,none⟩))
inductive Loc where
 | fresh
 | dead
 | void
 | lies (b base s n:Nat)
 | mp (b:Nat)
def Loc.block? : Loc->Option Nat
 | .lies b _ _ _=>some b
 | .mp b=>some b
 | _=>none
abbrev Objs:=Nat->Loc
inductive Rep (m:Imm) (β:Objs):V->Value->Prop
 | imm {x v} (h:RepI m x v):Rep m β x v
 | agg (xs:List V) (vs:List Value) (hl:xs.length=vs.length)
   (hr : ∀ (i:Nat) x v,xs[i]? = some x->vs[i]? = some v->Rep m β x v) (h1 : ∀ v∈vs,v.oneCell'=true):Rep m β (.agg xs) (.agg vs.toArray)
 | tuple (xs:List V) (vs:List Value) (hl:xs.length=vs.length)
   (hr : ∀ (i:Nat) x v,xs[i]? = some x->vs[i]? = some v->Rep m β x v):Rep m β (.tuple xs) (.tuple vs.toArray)
 | func (f:FuncId) (xs:List V) (vs:List Value) (hl:xs.length=vs.length)
   (hr : ∀ (i:Nat) x v,xs[i]? = some x->vs[i]? = some v->Rep m β x v):Rep m β (.func f xs) (.func (.func f) #[] vs.toArray)
 | meth (f:FuncId) (x:V) (v:Value) (hr:Rep m β x v):Rep m β (.meth f x) (.func (.func f) #[v] #[])
 | sliceDead (o off len v) (h:β o = .dead) (h1:v.oneCell'=true):Rep m β (.slice o off len) v
 | sliceVoid (o off a) (h:β o = .void):Rep m β (.slice o off 0) (.slice a 0 0)
 | slice (o off len b base s n cap a) (h:β o = .lies b base s n) (hc:len<=cap) (hcm:cap<=maxLen)
   (ha:cap=0\/(a=some ⟨b,base+off,none⟩/\base+off+cap*s<=n)):Rep m β (.slice o off len) (.slice a len cap)
 | ptrDead (o off v) (h:β o = .dead) (h1:v.oneCell'=true):Rep m β (.ptr o off) v
 | ptr (o off b base s n) (h:β o = .lies b base s n):Rep m β (.ptr o off) (.pointer (some ⟨b,base+off,none⟩))
 | mapDead (o v) (h:β o = .dead) (h1:v.oneCell'=true):Rep m β (.map o) v
 | map (o b) (h:β o = .mp b):Rep m β (.map o) (.map (some b))
 | raw (v):Rep m β (.raw v) v
 | junk (v):Rep m β .junk v
theorem RepI.mono {m m':Imm} (hm : ∀ b o,m b=some o->m' b=some o) {x:V} {v:Value} (h:RepI m x v):RepI m' x v:=by
 induction h with
 | bool b=>exact .bool b
 | int k n=>exact .int k n
 | str s=>exact .str s
 | nils a=>exact .nils a
 | nilp=>exact .nilp
 | nilf=>exact .nilf
 | nilm=>exact .nilm
 | agg xs vs hl hr h1 ih=>exact .agg xs vs hl ih h1
 | list0 a cap hc=>exact .list0 a cap hc
 | list xs vs b off cap s arr T fz hm' hl hc hcm hs hr hcells ih=>exact .list xs vs b off cap s arr T fz (hm _ _ hm') hl hc hcm hs ih hcells
 | ref x v b off arr T fz hm' hr hcells ih=>exact .ref x v b off arr T fz (hm _ _ hm') ih hcells
def Step (β β':Objs):Prop := ∀ o,β o ≠ .fresh->β' o=β o\/β' o = .dead
theorem Step.refl (β:Objs):Step β β:=fun _ _ => .inl rfl
theorem Step.trans {a b c:Objs} (h:Step a b) (k:Step b c):Step a c:=by
 intro o ho;rcases h o ho with h1 | h1
 .rcases k o (by rw [h1]; exact ho) with k1 | k1
  .exact .inl (k1.trans h1)
  .exact .inr k1
 .rcases k o (by rw [h1]; exact Loc.noConfusion) with k1 | k1
  .exact .inr (k1.trans h1)
  .exact .inr k1
theorem Rep.oneCell {m:Imm} {β:Objs} {x:V} {v:Value} (h:Rep m β x v) (h1:x.one=true):v.oneCell'=true:=by
 cases h with
 | imm h=>cases h<;>first | rfl | (simp [V.one] at h1)
 | agg | tuple | junk=>simp [V.one] at h1
 | func=>rfl
 | meth=>rfl
 | sliceDead _ _ _ _ _ h=>exact h
 | sliceVoid=>rfl
 | slice=>rfl
 | ptrDead _ _ _ _ h=>exact h
 | ptr=>rfl
 | mapDead _ _ _ h=>exact h
 | map=>rfl
 | raw=>simpa [V.one] using h1
theorem Rep.mono {m m':Imm} {β β':Objs} (hm : ∀ b o,m b=some o->m' b=some o) (hβ:Step β β') {x:V} {v:Value} (h:Rep m β x v):Rep m' β' x v:=by
 induction h with
 | imm h=>exact .imm (h.mono hm)
 | agg xs vs hl hr h1 ih=>exact .agg xs vs hl ih h1
 | tuple xs vs hl hr ih=>exact .tuple xs vs hl ih
 | func f xs vs hl hr ih=>exact .func f xs vs hl ih
 | meth f x v hr ih=>exact .meth f x v ih
 | sliceDead o off len v h h1 =>
  rcases hβ o (by rw [h]; exact Loc.noConfusion) with h' | h'
  .exact .sliceDead o off len v (h'.trans h) h1
  .exact .sliceDead o off len v h' h1
 | sliceVoid o off a h =>
  rcases hβ o (by rw [h]; exact Loc.noConfusion) with h' | h'
  .exact .sliceVoid o off a (h'.trans h)
  .exact .sliceDead o off 0 _ h' rfl
 | slice o off len b base s n cap a h hc hcm ha =>
  rcases hβ o (by rw [h]; exact Loc.noConfusion) with h' | h'
  .exact .slice o off len b base s n cap a (h'.trans h) hc hcm ha
  .exact .sliceDead o off len _ h' rfl
 | ptrDead o off v h h1 =>
  rcases hβ o (by rw [h]; exact Loc.noConfusion) with h' | h'
  .exact .ptrDead o off v (h'.trans h) h1
  .exact .ptrDead o off v h' h1
 | ptr o off b base s n h =>
  rcases hβ o (by rw [h]; exact Loc.noConfusion) with h' | h'
  .exact .ptr o off b base s n (h'.trans h)
  .exact .ptrDead o off _ h' rfl
 | mapDead o v h h1 =>
  rcases hβ o (by rw [h]; exact Loc.noConfusion) with h' | h'
  .exact .mapDead o v (h'.trans h) h1
  .exact .mapDead o v h' h1
 | map o b h =>
  rcases hβ o (by rw [h]; exact Loc.noConfusion) with h' | h'
  .exact .map o b (h'.trans h)
  .exact .mapDead o _ h' rfl
 | raw v=>exact .raw v
 | junk v=>exact .junk v
theorem RepI.cells_size {m:Imm} {x:V} {v:Value} (h:RepI m x v):v.cells.size=x.ncells:=by
 cases h<;>simp [Value.cells,V.ncells, *]
structure Store where
 get:Nat->Option (Nat × List V)
 nx:Nat
def EntryRep (m:Imm) (β:Objs) (c:V) (e:MapEntry):Prop :=
 ∃ k v,c = .tuple [k,v]/\RepI m k e.key/\Rep m β v e.val
def FzOk (n:Nat) (fz:Nat × Nat):Prop:=fz=(0,0)\/fz=(n,n+1)
def Live (m:Imm) (β:Objs) (w:World):Loc->Nat × List V->Prop
 | .void,c=>c.2=[]
 | .lies b base s n,c=>c.1=s /\ ∃ arr T,(∃ fz,FzOk arr.size fz/\w.heap[b]? = some (.cells arr T fz))/\arr.size=n/\base+c.2.length<=n /\
   ∀ (i:Nat) x,c.2[i]? = some x -> ∃ v,arr[base+i]? = some v/\Rep m β x v/\v.oneCell'=true
 | .mp b,c => ∃ es clock,w.heap[b]? = some (.map es clock)/\c.2.length=es.size/\(∀ (i:Nat) (x:V) (e:MapEntry),c.2[i]? = some x->es[i]? = some e->EntryRep m β x e)
 | _,_=>False
structure Holds (S:Store) (m:Imm) (β:Objs) (w:World):Prop where
 imm : ∀ b o,m b=some o->w.heap[b]? = some o
 apart : ∀ o b,(β o).block? = some b->m b=none
 inj : ∀ o o' b,(β o).block? = some b->(β o').block? = some b->o=o'
 fresh : ∀ o,β o = .fresh↔S.nx<=o
 gone : ∀ o,S.nx<=o->S.get o=none
 dead : ∀ o,o<S.nx->S.get o=none->β o = .dead
 live : ∀ o cells,S.get o=some cells->Live m β w (β o) cells
structure Ext (m:Imm) (β:Objs) (w:World) (m':Imm) (β':Objs) (w':World):Prop where
 imm : ∀ b o,m b=some o->m' b=some o
 step:Step β β'
 size:w.heap.size<=w'.heap.size
 keep : ∀ b,b<w.heap.size->m b=none->(∀ o,(β o).block? ≠ some b)->w'.heap[b]? = w.heap[b]? /\ m' b=none/\(∀ o,(β' o).block? ≠ some b)
 os:w'.os=w.os
 tape:w'.tape=w.tape
 output:w'.output=w.output
theorem Ext.refl (m:Imm) (β:Objs) (w:World):Ext m β w m β w :=
 ⟨fun _ _ h=>h,Step.refl β,aT _,fun b _ h1 h2=>⟨rfl,h1,h2⟩,rfl,rfl,rfl⟩
theorem Ext.trans {m m' m'':Imm} {β β' β'':Objs} {w w' w'':World} (h:Ext m β w m' β' w') (k:Ext m' β' w' m'' β'' w''):Ext m β w m'' β'' w'':=by
 refine ⟨fun b o hb=>k.imm b o (h.imm b o hb),h.step.trans k.step,aU h.size k.size,fun b hb h1 h2 => ?_,k.os.trans h.os,k.tape.trans h.tape,k.output.trans h.output⟩;obtain ⟨e1,e2,e3⟩:=h.keep b hb h1 h2;obtain ⟨f1,f2,f3⟩:=k.keep b (aK hb h.size) e2 e3;exact ⟨f1.trans e1,f2,f3⟩
theorem Ext.rep {m m':Imm} {β β':Objs} {w w':World} (h:Ext m β w m' β' w') {x:V} {v:Value} (hr:Rep m β x v):Rep m' β' x v:=hr.mono h.imm h.step
structure ExtB (b:Nat) (m:Imm) (β:Objs) (w:World) (m':Imm) (β':Objs) (w':World):Prop where
 imm : ∀ b o,m b=some o->m' b=some o
 step : ∀ o,o<b->β o ≠ .fresh->β' o=β o\/β' o = .dead
 size:w.heap.size<=w'.heap.size
 keep : ∀ b,b<w.heap.size->m b=none->(∀ o,(β o).block? ≠ some b)->w'.heap[b]? = w.heap[b]? /\ m' b=none/\(∀ o,(β' o).block? ≠ some b)
 os:w'.os=w.os
 tape:w'.tape=w.tape
 output:w'.output=w.output
theorem Ext.toB {m m':Imm} {β β':Objs} {w w':World} (h:Ext m β w m' β' w') (b:Nat):ExtB b m β w m' β' w' :=
 ⟨h.imm,fun o _ ho=>h.step o ho,h.size,h.keep,h.os,h.tape,h.output⟩
theorem ExtB.refl (b:Nat) (m:Imm) (β:Objs) (w:World):ExtB b m β w m β w:=(Ext.refl m β w).toB b
theorem ExtB.trans {b:Nat} {m m' m'':Imm} {β β' β'':Objs} {w w' w'':World} (h:ExtB b m β w m' β' w') (k:ExtB b m' β' w' m'' β'' w''):ExtB b m β w m'' β'' w'':=by
 refine ⟨fun b o hb=>k.imm b o (h.imm b o hb),fun o hob ho => ?_,aU h.size k.size,fun b hb h1 h2 => ?_,k.os.trans h.os,k.tape.trans h.tape,k.output.trans h.output⟩
 .rcases h.step o hob ho with h1 | h1
  .rcases k.step o hob (by rw [h1]; exact ho) with k1 | k1
   .exact .inl (k1.trans h1)
   .exact .inr k1
  .rcases k.step o hob (by rw [h1]; exact Loc.noConfusion) with k1 | k1
   .exact .inr (k1.trans h1)
   .exact .inr k1
 .obtain ⟨e1,e2,e3⟩:=h.keep b hb h1 h2;obtain ⟨f1,f2,f3⟩:=k.keep b (aK hb h.size) e2 e3;exact ⟨f1.trans e1,f2,f3⟩
abbrev Fr:=List (Nat × V)
def Fr.lk:Fr->Nat->V
 | [],_ => .junk
 | (k,v)::r,t=>if t=k then v else Fr.lk r t
def Fr.set:Fr->Nat->V->Fr
 | [],t,x=>[(t,x)]
 | (k,v)::r,t,x=>if t=k then (k,x)::r else (k,v)::Fr.set r t x
theorem Fr.look_set (σ:Fr) (t:Nat) (x:V) (u:Nat):(σ.set t x).lk u=if u=t then x else σ.lk u:=by
 induction σ with
 | nil=>simp [Fr.set,Fr.lk]
 | cons p r ih =>
  obtain ⟨k,v⟩:=p;simp only [Fr.set];split
  .rename_i h; subst h; simp only [Fr.lk]; split<;>simp_all
  .simp only [Fr.lk,ih]; split
   .rename_i h1 h2; subst h2; rw [if_neg (fun e=>h1 e.symm)]
   .rfl
def Fr.put (σ:Fr):Option Nat->V->Fr
 | some d,x=>σ.set d x
 | none,_=>σ
def Fr.oy (σ:Fr) (ks:List Nat):Fr:=ks.map fun k=>(k,σ.lk k)
theorem Fr.look_only (σ:Fr) (ks:List Nat) (t:Nat):(σ.oy ks).lk t=if t∈ks then σ.lk t else .junk:=by
 induction ks with
 | nil=>simp [Fr.oy,Fr.lk]
 | cons k r ih =>
  simp only [Fr.oy,List.map_cons,Fr.lk] at ih ⊢;by_cases h:t=k
  .subst h; simp
  .simp only [h,if_false,ih,aE,false_or]
structure FrameRep (N:Nat) (m:Imm) (β:Objs) (σ:Fr) (a:Act):Prop where
 size:a.tmps.size=N
 defers:a.defers=[]
 rep : ∀ t,Rep m β (σ.lk t) (a.tmps.getD t undef)
theorem FrameRep.mono {N:Nat} {m m':Imm} {β β':Objs} {σ:Fr} {a:Act} (h:FrameRep N m β σ a) (hm : ∀ b o,m b=some o->m' b=some o) (hβ:Step β β'):FrameRep N m' β' σ a :=
 ⟨h.size,h.defers,fun t=>(h.rep t).mono hm hβ⟩
theorem FrameRep.ext {N:Nat} {m m':Imm} {β β':Objs} {w w':World} {σ:Fr} {a:Act} (h:FrameRep N m β σ a) (he:Ext m β w m' β' w'):FrameRep N m' β' σ a:=h.mono he.imm he.step
theorem FrameRep.oy {N:Nat} {m:Imm} {β:Objs} {σ:Fr} {a:Act} (h:FrameRep N m β σ a) (ks:List Nat):FrameRep N m β (σ.oy ks) a :=
 ⟨h.size,h.defers,fun t=>by rw [Fr.look_only]; split; exact h.rep t; exact .junk _⟩
theorem FrameRep.put {N:Nat} {m:Imm} {β:Objs} {σ:Fr} {a:Act} (h:FrameRep N m β σ a) (d:Option Nat) (hd : ∀ t,d=some t->t<N) {x:V} {v:Value} (hx:Rep m β x v):FrameRep N m β (σ.put d x) (a.put d v):=by
 cases d with
 | none=>exact h
 | some t =>
  refine ⟨by simp [Act.put,h.size],by simp [Act.put,h.defers],fun u => ?_⟩;have hlt:=hd t rfl;simp only [Fr.put,Fr.look_set,Act.put];split
  .rename_i e; subst e;have:(a.tmps.setIfInBounds u v).getD u undef=v:=by simp [Array.getD,h.size,hlt]
   rw [this]; exact hx
  .rename_i e;have:(a.tmps.setIfInBounds t v).getD u undef=a.tmps.getD u undef:=by
    simp only [aO,Array.getElem?_setIfInBounds];rw [if_neg (fun h=>e h.symm)]
   rw [this]; exact h.rep u
def RepL (m:Imm) (β:Objs) (xs:List V) (vs:List Value):Prop :=
 xs.length=vs.length /\ ∀ (i:Nat) x v,xs[i]? = some x->vs[i]? = some v->Rep m β x v
theorem RepL.nil (m:Imm) (β:Objs):RepL m β [] []:=⟨rfl,by simp⟩
theorem RepL.cons {m:Imm} {β:Objs} {x:V} {v:Value} {xs:List V} {vs:List Value} (h:Rep m β x v) (hs:RepL m β xs vs):RepL m β (x::xs) (v::vs):=by
 refine ⟨by simp [hs.1],fun i y u hy hu => ?_⟩;cases i with
 | zero=>simp at hy hu; subst hy; subst hu; exact h
 | succ i=>simp at hy hu; exact hs.2 i y u hy hu
theorem RepL.mono {m m':Imm} {β β':Objs} (hm : ∀ b o,m b=some o->m' b=some o) (hβ:Step β β') {xs:List V} {vs:List Value} (h:RepL m β xs vs):RepL m' β' xs vs :=
 ⟨h.1,fun i x v hx hv=>(h.2 i x v hx hv).mono hm hβ⟩
theorem RepL.append {m:Imm} {β:Objs} {xs ys:List V} {vs us:List Value} (h:RepL m β xs vs) (k:RepL m β ys us):RepL m β (xs++ys) (vs++us):=by
 refine ⟨by simp [h.1,k.1],fun i x v hx hv => ?_⟩;rw [List.getElem?_append] at hx hv;rw [<-h.1] at hv;split at hx
 .rename_i hi; rw [if_pos hi] at hv; exact h.2 i x v hx hv
 .rename_i hi; rw [if_neg hi] at hv; exact k.2 _ x v hx hv
def VCalls (P:Program) (f:FuncId) (args:List V) (S:Store) (Q:V->Store->Prop):Prop :=
 ∀ m β w vs,Holds S m β w->RepL m β args vs->Calls P f vs.toArray w fun e w' =>
  ∃ v x S' m' β',e = .returned v/\Q x S'/\Rep m' β' x v/\Holds S' m' β' w'/\Ext m β w m' β' w'
theorem VCalls.mono {P:Program} {f:FuncId} {args:List V} {S:Store} {Q Q':V->Store->Prop} (h:VCalls P f args S Q) (hq : ∀ x S',Q x S'->Q' x S'):VCalls P f args S Q' :=
 fun m β w vs hS hr=>(h m β w vs hS hr).mono fun e w' ⟨v,x,S',m',β',he,hQ,rest⟩=>⟨v,x,S',m',β',he,hq _ _ hQ,rest⟩
abbrev OL:=List (Option (Nat × List V))
abbrev EP:=List PanicEntry->Store->Prop
theorem lA {α:Type _} {a b:List α}:(a++b).length=a.length+b.length:=List.length_append
def Store.upd (S:Store) (o:Nat) (c:Nat × List V):Store:=⟨fun o'=>if o'=o then some c else S.get o',S.nx⟩
def Store.del (S:Store) (o:Nat):Store:=⟨fun o'=>if o'=o then none else S.get o',S.nx⟩
def Store.add (S:Store) (c:Nat × List V):Store:=⟨fun o'=>if o'=S.nx then some c else S.get o',S.nx+1⟩
def Store.Sub (Z S:Store):Prop := ∀ o c,Z.get o=some c->S.get o=some c
theorem Store.ext' {S S':Store} (h1:S.get=S'.get) (h2:S.nx=S'.nx):S=S':=by cases S; cases S'; simp_all
def Objs.set (β:Objs) (o:Nat) (l:Loc):Objs:=fun o'=>if o'=o then l else β o'
theorem Objs.set_same (β:Objs) (o:Nat) (l:Loc):β.set o l o=l:=by simp [Objs.set]
theorem Objs.set_other (β:Objs) {o o':Nat} (l:Loc) (h:o'≠o):β.set o l o'=β o':=by simp [Objs.set,h]
theorem Step.fresh {β:Objs} {o:Nat} (h:β o = .fresh) (l:Loc):Step β (β.set o l):=by
 intro o' ho;by_cases e:o'=o
 .subst e; exact absurd h ho
 .exact .inl (Objs.set_other β l e)
theorem Step.kill (β:Objs) (o:Nat):Step β (β.set o .dead):=by
 intro o' ho;by_cases e:o'=o
 .subst e; exact .inr (Objs.set_same _ _ _)
 .exact .inl (Objs.set_other β _ e)
section
variable {S:Store} {m:Imm} {β:Objs} {w:World}
theorem Holds.lt (h:Holds S m β w) {o:Nat} {c} (ho:S.get o=some c):o<S.nx:=by
 rcases bc o S.nx with h' | h'
 .exact h'
 .rw [h.gone o h'] at ho; cases ho
theorem Holds.nx_fresh (h:Holds S m β w):β S.nx = .fresh:=(h.fresh S.nx).2 (aT _)
theorem EntryRep.mono {m':Imm} {β':Objs} (hm : ∀ b o,m b=some o->m' b=some o) (hβ:Step β β') {c:V} {e:MapEntry} (h:EntryRep m β c e):EntryRep m' β' c e:=by
 obtain ⟨k,v,h1,h2,h3⟩:=h;exact ⟨k,v,h1,h2.mono hm,h3.mono hm hβ⟩
theorem Live.mono {m':Imm} {β':Objs} {w':World} (hm : ∀ b o,m b=some o->m' b=some o) (hβ:Step β β') {l:Loc} {c} (hw : ∀ b,l.block? = some b->w'.heap[b]? = w.heap[b]?) (h:Live m β w l c):Live m' β' w' l c:=by
 cases l with
 | fresh=>exact h
 | dead=>exact h
 | void=>exact h
 | lies b base s n =>
  obtain ⟨h0,arr,T,⟨fz,hz,h1⟩,h2,h3,h4⟩:=h;refine ⟨h0,arr,T,⟨fz,hz,(hw b rfl).trans h1⟩,h2,h3,fun i x hx => ?_⟩;obtain ⟨v,e1,e2,e3⟩:=h4 i x hx;exact ⟨v,e1,e2.mono hm hβ,e3⟩
 | mp b =>
  obtain ⟨es,clock,h1,h2,h3⟩:=h;exact ⟨es,clock,(hw b rfl).trans h1,h2,fun i x e hx he=>(h3 i x e hx he).mono hm hβ⟩
theorem Holds.world (h:Holds S m β w) {w':World} (hi : ∀ b o,m b=some o->w'.heap[b]? = w.heap[b]?) (hb : ∀ o b,(β o).block? = some b->w'.heap[b]? = w.heap[b]?):Holds S m β w' :=
 ⟨fun b o hb'=>(hi b o hb').trans (h.imm b o hb'),h.apart,h.inj,h.fresh,h.gone,h.dead,fun o c ho=>(h.live o c ho).mono (fun _ _ h=>h) (Step.refl β) (hb o)⟩
theorem Holds.drop (h:Holds S m β w) (o:Nat) (ho:o<S.nx):Holds (S.del o) m (β.set o .dead) w:=by
 refine ⟨h.imm,fun o' b hb => ?_,fun o1 o2 b h1 h2 => ?_,fun o' => ?_,fun o' ho' => ?_,fun o' ho' hn => ?_,fun o' c hc => ?_⟩
 .by_cases e:o'=o
  .subst e; rw [Objs.set_same] at hb; cases hb
  .rw [Objs.set_other _ _ e] at hb; exact h.apart o' b hb
 .by_cases e1:o1=o
  .subst e1; rw [Objs.set_same] at h1; cases h1
  .by_cases e2:o2=o
   .subst e2; rw [Objs.set_same] at h2; cases h2
   .rw [Objs.set_other _ _ e1] at h1; rw [Objs.set_other _ _ e2] at h2; exact h.inj _ _ b h1 h2
 .by_cases e:o'=o
  .subst e; rw [Objs.set_same]; simp [Store.del]; omega
  .rw [Objs.set_other _ _ e]; exact h.fresh o'
 .simp only [Store.del] at ho' ⊢;split
  .rfl
  .exact h.gone o' ho'
 .simp only [Store.del] at ho' hn;by_cases e:o'=o
  .subst e; exact Objs.set_same _ _ _
  .rw [Objs.set_other _ _ e];rw [if_neg e] at hn;exact h.dead o' ho' hn
 .simp only [Store.del] at hc;by_cases e:o'=o
  .rw [if_pos e] at hc; cases hc
  .rw [if_neg e] at hc;rw [Objs.set_other _ _ e];exact (h.live o' c hc).mono (fun _ _ h=>h) (Step.kill β o) (fun _ _=>rfl)
theorem Holds.new (h:Holds S m β w) {w':World} {l:Loc} {c:Nat × List V} (hl:l ≠ .fresh)
  (hi : ∀ b o,m b=some o->w'.heap[b]? = w.heap[b]?) (hb : ∀ o b,(β o).block? = some b->w'.heap[b]? = w.heap[b]?)
  (hfree : ∀ b,l.block? = some b->m b=none /\ ∀ o,(β o).block? ≠ some b) (hlive:Live m (β.set S.nx l) w' l c):Holds (S.add c) m (β.set S.nx l) w':=by
 have h':=h.world hi hb;refine ⟨h'.imm,fun o' b hb => ?_,fun o1 o2 b h1 h2 => ?_,fun o' => ?_,fun o' ho' => ?_,fun o' ho' hn => ?_,fun o' c' hc => ?_⟩
 .by_cases e:o'=S.nx
  .subst e; rw [Objs.set_same] at hb; exact (hfree b hb).1
  .rw [Objs.set_other _ _ e] at hb; exact h.apart o' b hb
 .by_cases e1:o1=S.nx
  .by_cases e2:o2=S.nx
   .rw [e1,e2]
   .subst e1; rw [Objs.set_same] at h1; rw [Objs.set_other _ _ e2] at h2; exact absurd h2 ((hfree b h1).2 o2)
  .by_cases e2:o2=S.nx
   .subst e2; rw [Objs.set_same] at h2; rw [Objs.set_other _ _ e1] at h1; exact absurd h1 ((hfree b h2).2 o1)
   .rw [Objs.set_other _ _ e1] at h1; rw [Objs.set_other _ _ e2] at h2; exact h.inj _ _ b h1 h2
 .by_cases e:o'=S.nx
  .subst e; rw [Objs.set_same]; simp only [Store.add]; exact ⟨fun h=>absurd h hl,fun h=>by omega⟩
  .rw [Objs.set_other _ _ e,h.fresh o']; simp only [Store.add]; omega
 .simp only [Store.add] at ho' ⊢;rw [if_neg (by omega)];exact h.gone o' (by omega)
 .simp only [Store.add] at ho' hn;by_cases e:o'=S.nx
  .rw [if_pos e] at hn; cases hn
  .rw [if_neg e] at hn;rw [Objs.set_other _ _ e];exact h.dead o' (by omega) hn
 .simp only [Store.add] at hc;by_cases e:o'=S.nx
  .rw [if_pos e] at hc;cases hc;subst e; rw [Objs.set_same]; exact hlive
  .rw [if_neg e] at hc;rw [Objs.set_other _ _ e];exact (h'.live o' c' hc).mono (fun _ _ h=>h) (Step.fresh h.nx_fresh l) (fun _ _=>rfl)
theorem Holds.write (h:Holds S m β w) {w':World} {o b:Nat} {c c':Nat × List V} (ho:S.get o=some c) (hob:(β o).block? = some b)
  (hw : ∀ k,k≠b->w'.heap[k]? = w.heap[k]?) (hlive:Live m β w' (β o) c'):Holds (S.upd o c') m β w':=by
 refine ⟨fun k x hk => ?_,h.apart,h.inj,h.fresh,fun o' ho' => ?_,fun o' ho' hn => ?_,fun o' c1 hc => ?_⟩
 .by_cases e:k=b
  .subst e; rw [h.apart o k hob] at hk; cases hk
  .exact (hw k e).trans (h.imm k x hk)
 .simp only [Store.upd] at ho' ⊢;have:=h.lt ho;rw [if_neg (by omega)];exact h.gone o' ho'
 .simp only [Store.upd] at ho' hn;by_cases e:o'=o
  .rw [if_pos e] at hn; cases hn
  .rw [if_neg e] at hn; exact h.dead o' ho' hn
 .simp only [Store.upd] at hc;by_cases e:o'=o
  .rw [if_pos e] at hc; cases hc; subst e; exact hlive
  .rw [if_neg e] at hc;refine (h.live o' c1 hc).mono (fun _ _ h=>h) (Step.refl β) fun k hk=>hw k fun e2 => ?_;subst e2;exact e (h.inj o' o k hk hob)
theorem Holds.block_lt (h:Holds S m β w) {o b:Nat} (hb:(β o).block? = some b):b<w.heap.size:=by
 have hnf : ¬ S.nx<=o:=fun hle=>by rw [(h.fresh o).2 hle] at hb; cases hb
 cases hc:S.get o with
 | none=>rw [h.dead o (by omega) hc] at hb; cases hb
 | some c =>
  have hl:=h.live o c hc;cases hβ:β o with
  | fresh=>rw [hβ] at hb; cases hb
  | dead=>rw [hβ] at hb; cases hb
  | void=>rw [hβ] at hb; cases hb
  | lies b' base s n =>
   rw [hβ] at hb hl;cases hb;obtain ⟨_,arr,T,⟨fz,hz,h1⟩,_⟩:=hl;exact (Array.getElem?_eq_some_iff.1 h1).1
  | mp b' =>
   rw [hβ] at hb hl;cases hb;obtain ⟨es,clock,h1,_⟩:=hl;exact (Array.getElem?_eq_some_iff.1 h1).1
theorem Holds.imm_lt (h:Holds S m β w) {b:Nat} {o} (hb:m b=some o):b<w.heap.size :=
 (Array.getElem?_eq_some_iff.1 (h.imm b o hb)).1
theorem Holds.alloc (h:Holds S m β w) (arr:Array Value) (T:TypeId) (s:Nat) (cells:List V) (hl:cells.length<=arr.size)
  (hr : ∀ (i:Nat) x,cells[i]? = some x -> ∃ v,arr[i]? = some v/\Rep m β x v/\v.oneCell'=true) :
  Holds (S.add (s,cells)) m (β.set S.nx (.lies w.heap.size 0 s arr.size)) (w.alloc (.cells arr T)) /\
  Ext m β w m (β.set S.nx (.lies w.heap.size 0 s arr.size)) (w.alloc (.cells arr T)) /\
  (β.set S.nx (.lies w.heap.size 0 s arr.size)) S.nx = .lies w.heap.size 0 s arr.size:=by
 have hst:Step β (β.set S.nx (.lies w.heap.size 0 s arr.size)):=Step.fresh h.nx_fresh _;have hold : ∀ k,k<w.heap.size->(w.alloc (.cells arr T)).heap[k]? = w.heap[k]? := fun k hk=>_root_.Go.heap_alloc_old w _ hk;refine ⟨h.new (by intro h; cases h) (fun b o hb=>hold b (h.imm_lt hb)) (fun o b hb=>hold b (h.block_lt hb)) ?_ ?_,⟨fun _ _ h=>h,hst,by simp, ?_,rfl,rfl,rfl⟩,Objs.set_same _ _ _⟩
 .intro b hb;cases hb;refine ⟨?_,fun o ho => ?_⟩
  .cases hm:m w.heap.size with
   | none=>rfl
   | some o=>exact absurd (h.imm_lt hm) (Nat.lt_irrefl _)
  .exact absurd (h.block_lt ho) (Nat.lt_irrefl _)
 .refine ⟨rfl,arr,T,⟨(0,0), .inl rfl,heap_alloc_new w _⟩,rfl,by simpa using hl,fun i x hx => ?_⟩;obtain ⟨v,e1,e2,e3⟩:=hr i x hx;exact ⟨v,by simpa using e1,e2.mono (fun _ _ h=>h) hst,e3⟩
 .intro b hb hm hn;refine ⟨hold b hb,hm,fun o ho => ?_⟩;by_cases e:o=S.nx
  .subst e; rw [Objs.set_same] at ho; simp only [Loc.block?,ar] at ho; omega
  .rw [Objs.set_other _ _ e] at ho; exact hn o ho
theorem Holds.addVoid (h:Holds S m β w) (s:Nat):Holds (S.add (s,[])) m (β.set S.nx .void) w/\Ext m β w m (β.set S.nx .void) w/\(β.set S.nx .void) S.nx = .void:=by
 have hst:Step β (β.set S.nx .void):=Step.fresh h.nx_fresh _;refine ⟨h.new (by intro h; cases h) (fun _ _ _=>rfl) (fun _ _ _=>rfl) (by intro b hb; cases hb) rfl,⟨fun _ _ h=>h,hst,aT _,fun b hb hm hn=>⟨rfl,hm,fun o ho => ?_⟩,rfl,rfl,rfl⟩,Objs.set_same _ _ _⟩;by_cases e:o=S.nx
 .subst e; rw [Objs.set_same] at ho; cases ho
 .rw [Objs.set_other _ _ e] at ho; exact hn o ho
theorem Holds.drew (h:Holds S m β w):Holds S m β w.drew:=h.world (fun _ _ _=>rfl) (fun _ _ _=>rfl)
theorem Ext.drew (m:Imm) (β:Objs) (w:World):Ext m β w m β w.drew:=⟨fun _ _ h=>h,Step.refl β,aT _,fun b _ h1 h2=>⟨rfl,h1,h2⟩,rfl,rfl,rfl⟩
theorem Holds.setRow (h:Holds S m β w) {o b base s n:Nat} {c:Nat × List V} (ho:S.get o=some c) (hob:β o = .lies b base s n) (arr':Array Value) (hn:arr'.size=n)
  (cells':List V) (hl:base+cells'.length<=n) (hr : ∀ (i:Nat) x,cells'[i]? = some x -> ∃ v,arr'[base+i]? = some v/\Rep m β x v/\v.oneCell'=true) :
  Holds (S.upd o (s,cells')) m β (w.setRow b arr')/\Ext m β w m β (w.setRow b arr'):=by
 have hbl:(β o).block? = some b:=by rw [hob]; rfl
 have hl0:=h.live o c ho;rw [hob] at hl0;obtain ⟨_,arr,T,⟨fz,hz,h1⟩,h2,h3,h4⟩:=hl0;refine ⟨h.write ho hbl (fun k hk=>setRow_other w b k arr' hk) ?_,⟨fun _ _ h=>h,Step.refl β,by simp,fun k hk hm hnn=>⟨setRow_other w b k arr' (fun e=>hnn o (by rw [hbl,e])),hm,hnn⟩,rfl,rfl,rfl⟩⟩;rw [hob];exact ⟨rfl,arr',T,⟨fz,by rw [hn, <-h2]; exact hz,setRow_heap w b arr arr' T fz h1⟩,hn,hl,hr⟩
end
def V.bK:V->Bool
 | .bool _ | .int _ _ | .str _ | .nils | .nilp | .nilf | .nilm | .list _ | .ref _=>true
 | _=>false
inductive Arg where
 | tmp (t:Nat)
 | val (x:V)
deriving Inhabited
def ev (σ:Fr):Arg->V
 | .tmp t=>σ.lk t
 | .val x=>x
def jal:Value->Option V
 | .bool b=>some (.bool b)
 | .int k n=>some (.int k n)
 | .string s=>some (.str s)
 | .slice none 0 0=>some .nils
 | .pointer none=>some .nilp
 | .nilFunc=>some .nilf
 | .map none=>some .nilm
 | _=>none
def constV:Value->Option V
 | .agg cs=>(cs.toList.mapM jal).map .agg
 | v=>jal v
def jC:Operand->Option Arg
 | .tmp t=>some (.tmp t)
 | .const v=>match v with
  | .map none=>some (.val .junk)
  | v=>(constV v).map .val
 | .func f=>some (.val (.func f []))
 | .global _=>none
inductive COp where
 | move (x:Arg)
 | pick (c a b:Arg)
 | alloc (zero:List V)
 | box (x:Arg)
 | build (zero:List V) (parts:List (Nat × Nat × Arg))
 | buildSlice (s len:Nat) (zero:List V) (parts:List (Nat × Nat × Arg))
 | buildList (s len:Nat) (zero:List V) (parts:List (Nat × Nat × Arg))
 | load (sz:Option Nat) (x:Arg)
 | store (sz:Option Nat) (p v:Arg)
 | nilCheck (x:Arg)
 | bin (op:BinOp) (x y:Arg)
 | beq (neg:Bool) (x y:Arg)
 | un (op:UnOp) (x:Arg)
 | conv (k:IntKind) (x:Arg)
 | makeFunc (f:FuncId) (caps:List Arg)
 | makeSlice (s bytes:Nat) (zero:List V) (l c:Arg)
 | slice (s:Nat) (x:Arg) (lo hi mx:Option Arg)
 | fieldAddr (off:Nat) (sz:Option Nat) (x:Arg)
 | indexAddr (s:Nat) (x i:Arg)
 | len (x:Arg)
 | lenS (x:Arg)
 | toStr (x:Arg)
 | seq (neg:Bool) (x y:Arg)
 | append (s bytes:Nat) (x y:Arg)
 | copy (s:Nat) (x y:Arg)
 | extract (x:Arg) (i:Nat)
 | makeMap
 | lookup (zero:V) (ok:Bool) (x k:Arg)
 | mapUpdate (x k v:Arg)
 | lookup2 (g:Bool) (zero:V) (ok:Bool) (x k:Arg)
 | mapUpdate2 (g:Bool) (x k v:Arg)
 | call (f:FuncId) (args:List Arg)
 | callv (f:Arg) (args:List Arg)
 | makeMeth (f:FuncId) (x:Arg)
 | iface (t:TypeId) (x:Arg)
 | panic (x:Arg)
 | bmax (x:Arg) (xs:List Arg)
 | indexV (n:Nat) (x i:Arg)
 | indexP (n s:Nat) (x i:Arg)
 | indexS (x i:Arg)
 | appendS (x y:Arg)
 | aggEq (g neg:Bool) (ks:List Nat) (x y:Arg)
 | markS (x:Arg)
 | loadJ (sz:Option Nat) (x:Arg)
deriving Inhabited
def okSz:Option Nat->V->Bool
 | some n, .agg cs=>cs.length==n
 | none,x=>x.one
 | _,_=>false
def jcm (cs:List V) (off:Nat):Option Nat->Option V
 | none=>cs[off]?
 | some n=>if off+n<=cs.length then some (.agg ((cs.drop off).take n)) else none
def Jn (cs:List V) (off:Nat) (xs:List V):List V:=cs.take off++xs++cs.drop (off+xs.length)
def Jk (sz:Option Nat) (S:Store):V->Option V
 | .ref x=>if okSz sz x then some x else none
 | .ptr o off=>match S.get o with
  | some c=>jcm c.2 off sz
  | none=>none
 | _=>none
def jbr (sz:Option Nat) (S:Store):V->V->Option Store
 | .ptr o off,v=>match S.get o,sz with
  | some c,none=>if off<c.2.length/\v.one=true then some (S.upd o (c.1,c.2.set off v)) else none
  | some c,some n=>match v with
   | .agg cs=>if cs.length=n/\off+n<=c.2.length then some (S.upd o (c.1,Jn c.2 off cs)) else none
   | _=>none
  | none,_=>none
 | _,_=>none
def jz (s:Nat) (S:Store):V->V->Option V
 | .list xs, .int _ n=>if 0<=n then (match xs[n.toNat]? with | some x=>if x.ncells=s then some (.ref x) else none | none=>none) else none
 | .slice o off len, .int _ n=>if (S.get o).isSome=true/\0<=n/\n<len then some (.ptr o (off+n.toNat*s)) else none
 | _,_=>none
def qO (off:Nat) (sz:Option Nat) (S:Store):V->Option V
 | .ptr o p=>if (S.get o).isSome=true then some (.ptr o (p+off)) else none
 | .ref (.agg cs)=>(jcm cs off sz).map .ref
 | _=>none
def Yf (S:Store):V->Option V
 | .list xs=>some (.int .i64 xs.length)
 | .slice o _ len=>if (S.get o).isSome=true then some (.int .i64 len) else none
 | .nils=>some (.int .i64 0)
 | _=>none
def qb (s:Nat) (S:Store):V->Option (List V × Nat)
 | .nils=>some ([],0)
 | .list xs=>if xs.all (fun x=>x.ncells==s) then some (xs.flatMap V.cells,xs.length) else none
 | .slice o off len=>match S.get o with
  | some c=>if off+len*s<=c.2.length then some ((c.2.drop off).take (len*s),len) else none
  | none=>none
 | _=>none
def jB (s bytes:Nat) (S:Store) (x y:V):Option (V × Store) :=
 match qb s S y with
 | none=>none
 | some (new,k)=>match x with
  | .nils=>if k*bytes<=140737488355328/\k<=140737488355328 then some (.slice S.nx 0 k,S.add (s,new)) else none
  | .slice o off len=>match S.get o with
   | some c=>if c.1=s/\off+len*s<=c.2.length/\(len+k)*bytes<=140737488355328/\len+k<=140737488355328 then
     some (.slice S.nx 0 (len+k),(S.del o).add (s,(c.2.drop off).take (len*s)++new)) else none
   | none=>none
  | _=>none
def jcc (s:Nat) (S:Store) (x y:V):Option (V × Store) :=
 match qb s S y with
 | none=>none
 | some (new,k)=>match x with
  | .slice o off len=>match S.get o with
   | some c=>if off+len*s<=c.2.length then some (.int .i64 (min k len:Nat),S.upd o (c.1,Jn c.2 off (new.take (min k len*s)))) else none
   | none=>none
  | .nils=>some (.int .i64 0,S)
  | _=>none
def zd (d:Nat):Option V->Option Nat
 | none=>some d
 | some (.int _ n)=>if 0<=n then some n.toNat else none
 | _=>none
def qN (s:Nat) (S:Store) (x:V) (lo hi mx:Option V):Option V :=
 match x with
 | .list xs=>match zd 0 lo,zd xs.length hi,zd xs.length mx with
  | some l,some h,some m=>if l<=h/\h<=m/\m<=xs.length/\(mx.isSome=true->hi.isSome=true)/\(l=0\/xs.all (fun x=>x.ncells==s)=true) then (if m=0/\mx.isSome=true then some .nils else some (.list ((xs.take h).drop l))) else none
  | _,_,_=>none
 | .slice o off len=>match zd 0 lo,zd len hi,zd len mx with
  | some l,some h,some m=>if (S.get o).map (·.1)=some s/\l<=h/\h<=m/\m<=len/\(mx.isSome=true->hi.isSome=true) then some (.slice o (off+l*s) (h-l)) else none
  | _,_,_=>none
 | .nils=>match zd 0 lo,zd 0 hi,zd 0 mx with
  | some 0,some 0,some 0=>if mx.isSome=true->hi.isSome=true then some .nils else none
  | _,_,_=>none
 | _=>none
def rep0 (zero:List V) (n:Nat):List V :=
 match zero with
 | [z]=>List.replicate n z
 | zs=>(List.replicate n zs).flatten
def YN (s bytes:Nat) (zero:List V) (S:Store):V->V->Option (V × Store)
 | .int .i64 l, .int .i64 c=>if 0<=l/\l<=c/\c*bytes<=140737488355328/\c<=140737488355328 then some (.slice S.nx 0 l.toNat,S.add (s,rep0 zero c.toNat)) else none
 | _,_=>none
def opBin:BinOp->V->V->Option V
 | .add, .int k a, .int k' b=>if k=k' then some (.int k (k.wrap (a+b))) else none
 | .sub, .int k a, .int k' b=>if k=k' then some (.int k (k.wrap (a-b))) else none
 | .mul, .int k a, .int k' b=>if k=k' then some (.int k (k.wrap (a*b))) else none
 | .quo, .int k a, .int k' b=>if k=k'/\b≠0 then some (.int k (k.wrap (a.tdiv b))) else none
 | .rem, .int k a, .int k' b=>if k=k'/\b≠0 then some (.int k (a.tmod b)) else none
 | .and, .int k a, .int k' b=>if k=k' then some (.int k (k.wrap (BitVec.ofInt k.bits a &&& BitVec.ofInt k.bits b).toNat)) else none
 | .or, .int k a, .int k' b=>if k=k' then some (.int k (k.wrap (BitVec.ofInt k.bits a ||| BitVec.ofInt k.bits b).toNat)) else none
 | .xor, .int k a, .int k' b=>if k=k' then some (.int k (k.wrap (BitVec.ofInt k.bits a ^^^ BitVec.ofInt k.bits b).toNat)) else none
 | .shl, .int k a, .int _ b=>if 0<=b then some (.int k (k.wrap (a*2^min b.toNat k.bits))) else none
 | .shr, .int k a, .int _ b=>if 0<=b then some (.int k (a.fdiv (2^min b.toNat k.bits))) else none
 | .eql, .int k a, .int k' b=>if k=k' then some (.bool (a==b)) else none
 | .neq, .int k a, .int k' b=>if k=k' then some (.bool (a != b)) else none
 | .lss, .int k a, .int k' b=>if k=k' then some (.bool (decide (a<b))) else none
 | .leq, .int k a, .int k' b=>if k=k' then some (.bool (decide (a<=b))) else none
 | .gtr, .int k a, .int k' b=>if k=k' then some (.bool (decide (a > b))) else none
 | .geq, .int k a, .int k' b=>if k=k' then some (.bool (decide (a≥b))) else none
 | _,_,_=>none
def opUn:UnOp->V->Option V
 | .not, .bool b=>some (.bool !b)
 | .neg, .int k n=>some (.int k (k.wrap (0-n)))
 | _,_=>none
def opBeq (neg:Bool):V->V->Option V
 | .bool a, .bool b=>some (.bool (if neg then a != b else a==b))
 | _,_=>none
def opSeq (neg:Bool):V->V->Option V
 | .str a, .str b=>some (.bool (if neg then !(a.toList==b.toList) else a.toList==b.toList))
 | _,_=>none
def strV (xs:List Int):ByteArray:=xs.foldl (fun r n=>r.push (UInt8.ofNat n.toNat)) ByteArray.empty
def numV:V->Int
 | .int _ n=>n
 | _=>0
def jbF:V->Bool
 | .int .u8 _=>true
 | _=>false
def Zd:V->Option V
 | .list xs=>if xs.all jbF=true then some (.str (strV (xs.map numV))) else none
 | _=>none
def Ye:V->List V->Option V
 | x,[]=>some x
 | .int k a, .int k' b::r=>if k=k' then Ye (.int k (if b > a then b else a)) r else none
 | _,_=>none
def WC (n:Nat):V->V->Option V
 | .agg cs, .int _ i=>if 0<=i/\i<n/\cs.length=n then cs[i.toNat]? else none
 | _,_=>none
def zN (n s:Nat) (S:Store):V->V->Option V
 | .ptr o off, .int _ i=>if (S.get o).isSome=true/\0<=i/\i<n then some (.ptr o (off+i.toNat*s)) else none
 | _,_=>none
def WD:V->V->Option V
 | .str s, .int _ i=>if 0<=i then (s[i.toNat]?).map fun b => .int .u8 b.toNat else none
 | _,_=>none
def strL (s:ByteArray):List V:=s.data.toList.map fun b => .int .u8 b.toNat
def Yg (S:Store) (x:V):V->Option (V × Store)
 | .str s=>jB 1 1 S x (.list (strL s))
 | _=>none
def qq:Nat->V->V->Option Bool
 | 0, .int k a, .int k' b=>if k=k' then some (a==b) else none
 | 1, .bool a, .bool b=>some (a==b)
 | 2, .str a, .str b=>some (a==b)
 | _,_,_=>none
def qu:List Nat->List V->List V->Option Bool
 | [],[],[]=>some true
 | k::ks,x::xs,y::ys=>match qq k x y,qu ks xs ys with
  | some a,some b=>some (a&&b)
  | _,_=>none
 | _,_,_=>none
def qn (g neg:Bool) (ks:List Nat):V->V->Option V
 | .agg xs, .agg ys=>if g=true then (qu ks xs ys).map fun b => .bool (if neg then !b else b) else none
 | _,_=>none
def jcb (S:Store):V->Option V
 | .slice o off len=>match S.get o with
  | some c=>if 0<len/\off+len<=c.2.length/\c.1=1 then some (.slice o off len) else none
  | none=>none
 | _=>none
def V.nj1:V->Bool
 | .junk=>false
 | _=>true
def V.nj (x:V):Bool:=x.cells.all V.nj1
def jl (sz:Option Nat) (S:Store) (x:V):Option V :=
 match Jk sz S x with
 | some v=>if v.nj=true then some v else none
 | none=>none
def valV1:V->Option Value
 | .bool b=>some (.bool b)
 | .int k n=>some (.int k n)
 | .str s=>some (.string s)
 | _=>none
def valV:V->Option Value
 | .agg xs=>(xs.mapM valV1).map fun vs => .agg vs.toArray
 | x=>valV1 x
def qP (ρ:Arg->V) (cells:List V):List (Nat × Nat × Arg)->Option (List V)
 | []=>some cells
 | (off,sz,x)::r=>if (ρ x).ncells=sz/\off+sz<=cells.length/\((ρ x).cells.all V.one)=true then qP ρ (Jn cells off (ρ x).cells) r else none
def zB:V->V->Option Bool
 | .int k a, .int k' b=>if k=k' then some (a==b) else none
 | .str a, .str b=>some (a==b)
 | _,_=>none
def zi (k:V):List V->Nat->Option (Option (Nat × V))
 | [],_=>some none
 | .tuple [k',v]::r,i=>match zB k k' with
  | some true=>some (some (i,v))
  | some false=>zi k r (i+1)
  | none=>none
 | _,_=>none
def qQ (zero:V) (ok:Bool) (S:Store):V->V->Option V
 | .map o, .int kk n=>match S.get o with
  | some c=>match zi (.int kk n) c.2 0 with
   | some (some (_,v))=>some (if ok then .tuple [v, .bool true] else v)
   | some none=>some (if ok then .tuple [zero, .bool false] else zero)
   | none=>none
  | none=>none
 | _,_=>none
def qt (S:Store):V->V->V->Option Store
 | .map o, .int kk n,v=>match S.get o with
   | some c=>match zi (.int kk n) c.2 0 with
    | some (some (j,_))=>some (S.upd o (c.1,c.2.set j (.tuple [.int kk n,v])))
    | some none=>some (S.upd o (c.1,c.2++[.tuple [.int kk n,v]]))
    | none=>none
   | none=>none
 | _,_,_=>none
def zZ (g:Bool) (zero:V) (ok:Bool) (S:Store):V->V->Option V
 | .map o, .str s=>if g=true then match S.get o with
  | some c=>match zi (.str s) c.2 0 with
   | some (some (_,v))=>some (if ok then .tuple [v, .bool true] else v)
   | some none=>some (if ok then .tuple [zero, .bool false] else zero)
   | none=>none
  | none=>none
  else none
 | _,_=>none
def zJ (g:Bool) (S:Store):V->V->V->Option Store
 | .map o, .str s,v=>if g=true then match S.get o with
   | some c=>match zi (.str s) c.2 0 with
    | some (some (j,_))=>some (S.upd o (c.1,c.2.set j (.tuple [.str s,v])))
    | some none=>some (S.upd o (c.1,c.2++[.tuple [.str s,v]]))
    | none=>none
   | none=>none
   else none
 | _,_,_=>none
def YK (s:Nat):Nat->List V->List V
 | 0,_=>[]
 | n+1,l=>(if s=1 then (l.take 1).headD .nils else .agg (l.take s))::YK s n (l.drop s)
def opList (s len:Nat) (cs:Option (List V)):Option V :=
 match cs with
 | some cs=>if cs.length=len*s/\cs.all V.bK=true then some (.list (YK s len cs)) else none
 | none=>none
def jg (ρ:Arg->V) (S:Store):COp->Option (V × Store)
 | .move x=>some (ρ x,S)
 | .pick c a b=>match ρ c with | .bool t=>some (if t then ρ a else ρ b,S) | _=>none
 | .alloc zero=>some (.ptr S.nx 0,S.add (zero.length,zero))
 | .box x=>if (ρ x).cells.all V.one then some (.ptr S.nx 0,S.add ((ρ x).ncells,(ρ x).cells)) else none
 | .build zero parts=>(qP ρ zero parts).map fun cs=>(.agg cs,S)
 | .buildSlice s len zero parts=>(qP ρ (rep0 zero len) parts).map fun cs=>(.slice S.nx 0 len,S.add (s,cs))
 | .buildList s len zero parts=>(opList s len (qP ρ (rep0 zero len) parts)).map fun v=>(v,S)
 | .load sz x=>(Jk sz S (ρ x)).map fun v=>(v,S)
 | .store sz p v=>(jbr sz S (ρ p) (ρ v)).map fun S'=>(.tuple [],S')
 | .nilCheck x=>match ρ x with | .ptr o p=>if (S.get o).isSome=true then some (.ptr o p,S) else none | .ref y=>some (.ref y,S) | _=>none
 | .bin op x y=>(opBin op (ρ x) (ρ y)).map fun v=>(v,S)
 | .beq neg x y=>(opBeq neg (ρ x) (ρ y)).map fun v=>(v,S)
 | .un op x=>(opUn op (ρ x)).map fun v=>(v,S)
 | .conv k x=>match ρ x with | .int _ n=>some (.int k (k.wrap n),S) | _=>none
 | .makeFunc f caps=>some (.func f (caps.map (ρ)),S)
 | .makeSlice s bytes zero l c=>YN s bytes zero S (ρ l) (ρ c)
 | .slice s x lo hi mx=>(qN s S (ρ x) (lo.map (ρ)) (hi.map (ρ)) (mx.map (ρ))).map fun v=>(v,S)
 | .fieldAddr off sz x=>(qO off sz S (ρ x)).map fun v=>(v,S)
 | .indexAddr s x i=>(jz s S (ρ x) (ρ i)).map fun v=>(v,S)
 | .len x=>(Yf S (ρ x)).map fun v=>(v,S)
 | .lenS x=>match ρ x with | .str s=>some (.int .i64 s.size,S) | _=>none
 | .toStr x=>(Zd (ρ x)).map fun v=>(v,S)
 | .seq neg x y=>(opSeq neg (ρ x) (ρ y)).map fun v=>(v,S)
 | .append s bytes x y=>jB s bytes S (ρ x) (ρ y)
 | .copy s x y=>jcc s S (ρ x) (ρ y)
 | .extract x i=>match ρ x with | .tuple xs=>(xs[i]?).map fun v=>(v,S) | _=>none
 | .makeMap=>some (.map S.nx,S.add (0,[]))
 | .lookup z ok x k=>(qQ z ok S (ρ x) (ρ k)).map fun v=>(v,S)
 | .mapUpdate x k v=>(qt S (ρ x) (ρ k) (ρ v)).map fun S'=>(.tuple [],S')
 | .lookup2 g z ok x k=>(zZ g z ok S (ρ x) (ρ k)).map fun v=>(v,S)
 | .mapUpdate2 g x k v=>(zJ g S (ρ x) (ρ k) (ρ v)).map fun S'=>(.tuple [],S')
 | .makeMeth f x=>some (.meth f (ρ x),S)
 | .iface t x=>(valV (ρ x)).map fun v=>(.raw (.iface t v),S)
 | .bmax x xs=>(Ye (ρ x) (xs.map ρ)).map fun v=>(v,S)
 | .indexV n x i=>(WC n (ρ x) (ρ i)).map fun v=>(v,S)
 | .indexP n s x i=>(zN n s S (ρ x) (ρ i)).map fun v=>(v,S)
 | .indexS x i=>(WD (ρ x) (ρ i)).map fun v=>(v,S)
 | .appendS x y=>Yg S (ρ x) (ρ y)
 | .aggEq g neg ks x y=>(qn g neg ks (ρ x) (ρ y)).map fun v=>(v,S)
 | .markS x=>(jcb S (ρ x)).map fun v=>(v,S)
 | .loadJ sz x=>(jl sz S (ρ x)).map fun v=>(v,S)
 | _=>none
def Program.slc (P:Program) (t:TypeId):Option (TypeId × TypeInfo) :=
 match P.underlying t with
 | some (.slice e)=>match P.info? e with
  | some i=>some (e,i)
  | none=>none
 | _=>none
def Program.szOf (P:Program) (t:TypeId):Option (Option Nat) :=
 match P.underlying t,P.info? t with
 | some (.struct _),some i=>some (some i.size)
 | some (.array _ _),some i=>some (some i.size)
 | some _,some i=>if i.size=1 then some none else none
 | _,_=>none
def Program.zeroV (P:Program) (t:TypeId):Option (List V) :=
 match P.info? t with
 | some i=>match i.zero with
  | some z=>if z.cells.size=i.size then z.cells.toList.mapM jal else none
  | none=>none
 | none=>none
def Program.zero1 (P:Program) (t:TypeId):Option V :=
 match P.info? t with
 | some i=>match i.zero with
  | some z=>constV z
  | none=>none
 | none=>none
def Program.fld (P:Program) (t:TypeId) (i:Nat):Option (Nat × Option Nat) :=
 match P.underlying t with
 | some (.struct fs)=>match fs[i]? with
  | some f=>match szOf P f.type,P.info? f.type with
   | some sz,some j=>if j.size=0 then none else some (f.offset,sz)
   | _,_=>none
  | none=>none
 | _=>none
def Program.flds (P:Program) (t:TypeId):Option (List (Nat × Nat)) :=
 match P.underlying t with
 | some (.struct fs)=>fs.toList.mapM fun f=>match P.info? f.type with
  | some j=>some (f.offset,j.size)
  | none=>none
 | _=>none
def Program.isInt (P:Program) (t:TypeId):Bool:=match P.underlying t with | some (.int _)=>true | _=>false
def Program.pairKey (P:Program) (kt:TypeId):Bool:=match P.underlying kt with
 | some .string=>true
 | _=>false
def Wi {P:Program} {kt:TypeId} (n:Nat):Bool:=if n=0 then Program.pairKey P kt else Wi (P:=P) (kt:=kt) (n-1)
termination_by n
decreasing_by omega
theorem jbp {P:Program} {kt:TypeId}:Wi (P:=P) (kt:=kt) 0=Program.pairKey P kt:=by rw [Wi,if_pos rfl]
def zu (P:Program) (c:Call):Option COp :=
 match c.callee,c.args.toList,c.argTypes.toList with
 | .builtin .len,[x],[t]=>match P.underlying t with
  | some (.slice _)=>(jC x).map .len
  | some .string=>(jC x).map .lenS
  | _=>none
 | .builtin .append,[x,y],[t,u]=>if u=t then match Program.slc P t,jC x,jC y with
   | some (e,i),some x,some y=>match Program.zeroV P e with
    | some _=>if 0<i.size then some (.append i.size i.bytes x y) else none
    | none=>none
   | _,_,_=>none
  else none
 | .builtin .copy,[x,y],[t,u]=>if u=t then match Program.slc P t,jC x,jC y with
   | some (e,i),some x,some y=>some (.copy i.size x y)
   | _,_,_=>none
  else none
 | .value (.func f),args,_=>match P.funcs[f]? with
  | some fn => if fn.name == "runtime.NumGoroutine" || fn.body.isNone then none else (args.mapM jC).map (.call f)
  | none=>none
 | .value f,args,_=>match jC f,args.mapM jC with
  | some f,some args=>some (.callv f args)
  | _,_=>none
 | _,_,_=>none
def jan (P:Program) (o:Oper):Option COp :=
 match o.op with
 | .move x | .assign x=>(jC x).map .move
 | .pick c a b=>match jC c,jC a,jC b with
  | some c,some a,some b=>some (.pick c a b)
  | _,_,_=>none
 | .alloc t=>match P.underlying t,Program.zeroV P t with
  | some _,some z=>some (.alloc z)
  | _,_=>none
 | .box t x=>(jC x).map .box
 | .build t parts=>match Program.flds P t,Program.zeroV P t with
  | some fs,some z=>(parts.toList.mapM fun (p:Nat × Operand)=>match fs[p.1]?,jC p.2 with
   | some f,some x=>some ((f.1,f.2,x):Nat × Nat × Arg)
   | _,_=>none).map (.build z)
  | _,_=>none
 | .buildSlice t len parts=>match Program.slc P t with
  | some (e,i)=>match Program.zeroV P e with
   | some z=>if len*i.size<=65536/\0<i.size then (parts.toList.mapM fun (p:Nat × Operand)=>match jC p.2 with
     | some x=>some ((p.1*i.size,i.size,x):Nat × Nat × Arg)
     | none=>none).map (.buildSlice i.size len z) else none
   | none=>none
  | none=>none
 | .load t x=>match Program.szOf P t,jC x with
  | some sz,some x=>some (.load sz x)
  | _,_=>none
 | .store t p v=>match Program.szOf P t,jC p,jC v with
  | some sz,some p,some v=>some (.store sz p v)
  | _,_,_=>none
 | .nilCheck x=>(jC x).map .nilCheck
 | .binOp op t x y _=>match jC x,jC y with
  | some x,some y=>(match op,P.underlying t with
   | .eql,some .bool=>some (.beq false x y)
   | .neq,some .bool=>some (.beq true x y)
   | .eql,some .string=>some (.seq false x y)
   | .neq,some .string=>some (.seq true x y)
   | _,_=>some (.bin op x y))
  | _,_=>none
 | .unOp op _ x=>(jC x).map (.un op)
 | .convert s d x=>match P.underlying s,P.underlying d with
  | some _,some (.int k)=>(jC x).map (.conv k)
  | some (.slice e),some .string=>match P.underlying e with
   | some (.int .u8)=>(jC x).map .toStr
   | _=>none
  | _,_=>none
 | .makeFunc fn first caps=>match fn,first.toList with
  | .func f,[]=>(caps.toList.mapM jC).map (.makeFunc f)
  | _,_=>none
 | .makeSlice t l c=>match Program.slc P t,jC l,jC c with
  | some (e,i),some l,some c=>match Program.zeroV P e with
   | some z=>some (.makeSlice i.size i.bytes z l c)
   | none=>none
  | _,_,_=>none
 | .slice t x lo hi mx=>match Program.slc P t,jC x,lo.mapM jC,hi.mapM jC,mx.mapM jC with
  | some (e,i),some x,some lo,some hi,some mx=>some (.slice i.size x lo hi mx)
  | _,_,_,_,_=>none
 | .fieldAddr t x f=>match Program.fld P t f,jC x with
  | some (off,sz),some x=>some (.fieldAddr off sz x)
  | _,_=>none
 | .indexAddr t x i=>match Program.slc P t,jC x,jC i with
  | some (e,j),some x,some i=>some (.indexAddr j.size x i)
  | _,_,_=>none
 | .extract x i=>(jC x).map fun x => .extract x i
 | .call c=>zu P c
 | .makeMap _ none=>some .makeMap
 | .lookup t x i ok=>match P.underlying t,jC x,jC i with
  | some (.map kt e),some x,some i=>match P.underlying kt,Program.zero1 P e with
   | some (.int _),some z=>some (.lookup z ok x i)
   | _,some z=>some (.lookup2 (Wi (P:=P) (kt:=kt) 0) z ok x i)
   | _,_=>none
  | _,_,_=>none
 | .mapUpdate t x k v | .insert t x k v=>match P.underlying t,jC x,jC k,jC v with
  | some (.map kt _),some x,some k,some v=>match P.underlying kt with
   | some (.int _)=>some (.mapUpdate x k v)
   | _=>some (.mapUpdate2 (Wi (P:=P) (kt:=kt) 0) x k v)
  | _,_,_,_=>none
 | _=>none
def Program.kindOf (P:Program) (t:TypeId):Nat:=match P.underlying t with
 | some (.int _)=>0
 | some .bool=>1
 | some .string=>2
 | _=>3
def Program.flatEq (P:Program) (t:TypeId):Bool:=match P.underlying t with
 | some (.struct fs) => !P.stoodInHeld t && !P.eqGuardType P.depth t&&((List.range fs.toList.length).all fun i=>match fs.toList[i]? with
  | some f => f.name != "_" && f.offset == i && (match Program.szOf P f.type with | some none => true | _ => false)
  | none=>false)
 | _=>false
def WN {P:Program} {t:TypeId} (n:Nat):Bool:=if n=0 then Program.flatEq P t else WN (P:=P) (t:=t) (n-1)
termination_by n
decreasing_by omega
theorem Yl {P:Program} {t:TypeId}:WN (P:=P) (t:=t) 0=Program.flatEq P t:=by rw [WN,if_pos rfl]
def Zl (P:Program) (o:Oper):Option COp :=
 match o.op with
 | .makeFunc fn first caps=>match fn,first.toList,caps.toList with
  | .func f,[x],[]=>(jC x).map (.makeMeth f)
  | _,_,_=>none
 | .makeInterface t x=>match P.underlying t,jC x with
  | some (.interface _),_=>none
  | some _,some x=>some (.iface t x)
  | _,_=>none
 | .panic x=>(jC x).map .panic
 | .build t parts=>match P.underlying t,Program.zeroV P t with
  | some (.array _ e),some z=>match P.info? e with
   | some i=>if 0<i.size then (parts.toList.mapM fun (p:Nat × Operand)=>match jC p.2 with
    | some x=>some ((p.1*i.size,i.size,x):Nat × Nat × Arg)
    | none=>none).map (.build z) else none
   | none=>none
  | _,_=>none
 | .indexAddr t x i=>match P.underlying t,jC x,jC i with
  | some (.array n e),some x,some i=>match P.info? e with
   | some j=>some (.indexP n j.size x i)
   | none=>none
  | _,_,_=>none
 | .index t x i=>match P.underlying t,jC x,jC i with
  | some (.array n e),some x,some i=>match Program.szOf P e with
   | some none=>some (.indexV n x i)
   | _=>none
  | some .string,some x,some i=>some (.indexS x i)
  | _,_,_=>none
 | .convert s d x=>if s=d then match Program.slc P s,jC x with
   | some (e,_),some x=>match P.underlying e with
    | some (.int .u8)=>some (.markS x)
    | _=>none
   | _,_=>none
  else none
 | .call c=>match c.callee,c.args.toList,c.argTypes.toList with
  | .builtin .max,x::xs,_=>match jC x,xs.mapM jC with
   | some x,some xs=>some (.bmax x xs)
   | _,_=>none
  | .builtin .append,[x,y],[t,u]=>match Program.slc P t,P.underlying u,jC x,jC y with
   | some (e,i),some .string,some x,some y=>match Program.zeroV P e with
    | some _=>if i.size=1/\i.bytes=1 then some (.appendS x y) else none
    | none=>none
   | _,_,_,_=>none
  | _,_,_=>none
 | _=>none
def jdB (P:Program) (o:Oper):Option COp :=
 match o.op with
 | .binOp op t x y _=>match op,P.underlying t,jC x,jC y with
  | .eql,some (.struct fs),some x,some y=>some (.aggEq (WN (P:=P) (t:=t) 0) false (fs.toList.map fun f=>Program.kindOf P f.type) x y)
  | .neq,some (.struct fs),some x,some y=>some (.aggEq (WN (P:=P) (t:=t) 0) true (fs.toList.map fun f=>Program.kindOf P f.type) x y)
  | _,_,_,_=>none
 | _=>none
def Wt (P:Program) (o:Oper):Option COp :=
 match jdB P o with
 | some c=>some c
 | none=>match jan P o with
  | some c=>some c
  | none=>Zl P o
theorem jaj {m:Imm} {v:Value} {x:V} (h:jal v=some x):RepI m x v:=by
  unfold jal at h;split at h<;>first | (cases h; first | exact .bool _ | exact .int _ _ | exact .str _ | exact .nils _ | exact .nilp | exact .nilf | exact .nilm) | cases h
theorem jak {v:Value} {x:V} (h:jal v=some x):v.oneCell'=true/\x.one=true:=by
  unfold jal at h;split at h<;>first | (cases h; exact ⟨rfl,rfl⟩) | cases h
theorem jaK {α β:Type} {f:α->Option β} {l:List α} {r:List β} (h:l.mapM f=some r):l.length=r.length /\ ∀ (i:Nat) a b,l[i]? = some a->r[i]? = some b->f a=some b:=by
  induction l generalizing r with
  | nil=>simp at h; subst h; simp
  | cons a l ih =>
    simp only [List.mapM_cons,Option.bind_eq_bind,aG] at h;obtain ⟨b,hb,r',hr',h⟩:=h;simp at h;subst h;obtain ⟨h1,h2⟩:=ih hr';refine ⟨by simp [h1],fun i a' b' ha hb' => ?_⟩;cases i with
    | zero=>simp at ha hb'; subst ha; subst hb'; exact hb
    | succ i=>simp at ha hb'; exact h2 i a' b' ha hb'
theorem jeW {m:Imm} {v:Value} {x:V} (h:constV v=some x):RepI m x v:=by
  unfold constV at h;split at h
  .rename_i cs;simp only [aq] at h;obtain ⟨xs,hxs,rfl⟩:=h;obtain ⟨h1,h2⟩:=jaK hxs;have:cs=cs.toList.toArray:=by simp
   rw [this];refine .agg xs cs.toList h1.symm (fun i x v hx hv=>jaj (h2 i v x hv hx)) fun v hv => ?_;obtain ⟨i,hi,rfl⟩:=aR hv;exact (jak (h2 i _ xs[i] (aa hi) (aa (by omega)))).1
  .exact jaj h
section
variable {P:Program} {N:Nat} {S:Store} {m:Imm} {β:Objs} {w:World} {σ:Fr} {a:Act}
theorem jM (hF:FrameRep N m β σ a) {x:Operand} {y:Arg} (h:jC x=some y):Rep m β (ev σ y) (a.eval x):=by
  cases x with
  | tmp t=>simp [jC] at h; subst h; exact hF.rep t
  | const v =>
    simp only [jC] at h;split at h
    .cases h; exact .junk _
    .obtain ⟨z,hz,rfl⟩:=aq.1 h;exact .imm (jeW hz)
  | global g=>simp [jC] at h
  | func f =>
    simp [jC] at h; subst h;have:=Rep.func (m:=m) (β:=β) f [] [] rfl (by simp);simpa [ev,Act.eval] using this
theorem jbJ (hF:FrameRep N m β σ a) {xs:List Operand} {ys:List Arg} (h:xs.mapM jC=some ys):RepL m β (ys.map (ev σ)) (xs.map a.eval):=by
  obtain ⟨h1,h2⟩:=jaK h;refine ⟨by simp [h1],fun i x v hx hv => ?_⟩;simp only [aQ,aq] at hx hv;obtain ⟨y,hy,rfl⟩:=hx;obtain ⟨z,hz,rfl⟩:=hv;exact jM hF (h2 i z y hz hy)
theorem zR (m:Imm) (β:Objs):Rep m β (.tuple []) undef:=Rep.tuple [] [] rfl (by simp)
def Does (P:Program) (r:Result Next) (x:V) (S':Store) (m:Imm) (β:Objs) (w:World):Prop :=
  ∃ v w' m' β',(r = .ok (.value v) w'\/(r = .ok .skip w'/\v=undef))/\Rep m' β' x v/\Holds S' m' β' w'/\Ext m β w m' β' w'
theorem Does.same {r:Result Next} {x:V} {v:Value} (hS:Holds S m β w) (hr:r = .ok (.value v) w) (hx:Rep m β x v):Does P r x S m β w :=
  ⟨v,w,m,β, .inl hr,hx,hS,Ext.refl _ _ _⟩
theorem Rep.inv_bool {b:Bool} {v:Value} (h:Rep m β (.bool b) v):v = .bool b:=by cases h with | imm h=>cases h; rfl
theorem Rep.inv_int {k:IntKind} {n:Int} {v:Value} (h:Rep m β (.int k n) v):v = .int k n:=by cases h with | imm h=>cases h; rfl
theorem Rep.inv_str {s:ByteArray} {v:Value} (h:Rep m β (.str s) v):v = .string s:=by cases h with | imm h=>cases h; rfl
theorem Rep.inv_nils {v:Value} (h:Rep m β .nils v) : ∃ a,v = .slice a 0 0:=by cases h with | imm h=>cases h; exact ⟨_,rfl⟩
theorem Rep.inv_agg {xs:List V} {v:Value} (h:Rep m β (.agg xs) v) : ∃ vs:List Value,v = .agg vs.toArray/\xs.length=vs.length /\
    (∀ (i:Nat) x v,xs[i]? = some x->vs[i]? = some v->Rep m β x v) /\ ∀ v∈vs,v.oneCell'=true:=by
  cases h with
  | imm h=>cases h with | agg _ vs hl hr h1=>exact ⟨vs,rfl,hl,fun i x v hx hv => .imm (hr i x v hx hv),h1⟩
  | agg _ vs hl hr h1=>exact ⟨vs,rfl,hl,hr,h1⟩
theorem Rep.inv_tuple {xs:List V} {v:Value} (h:Rep m β (.tuple xs) v) : ∃ vs:List Value,v = .tuple vs.toArray/\xs.length=vs.length /\
    (∀ (i:Nat) x v,xs[i]? = some x->vs[i]? = some v->Rep m β x v):=by
  cases h with
  | imm h=>cases h
  | tuple _ vs hl hr=>exact ⟨vs,rfl,hl,hr⟩
theorem Rep.inv_func {f:FuncId} {xs:List V} {v:Value} (h:Rep m β (.func f xs) v) : ∃ vs:List Value,v = .func (.func f) #[] vs.toArray/\RepL m β xs vs:=by
  cases h with
  | imm h=>cases h
  | func _ _ vs hl hr=>exact ⟨vs,rfl,hl,hr⟩
theorem Rep.inv_meth {f:FuncId} {x:V} {v:Value} (h:Rep m β (.meth f x) v) : ∃ u,v = .func (.func f) #[u] #[]/\Rep m β x u:=by
  cases h with
  | imm h=>cases h
  | meth _ _ u hr=>exact ⟨u,rfl,hr⟩
theorem Rep.inv_raw {u v:Value} (h:Rep m β (.raw u) v):v=u:=by
  cases h with
  | imm h=>cases h
  | raw=>rfl
theorem Rep.inv_ref {x:V} {v:Value} (h:Rep m β (.ref x) v) : ∃ u b off arr T fz,v = .pointer (some ⟨b,off,none⟩)/\m b=some (.cells arr T fz)/\RepI m x u /\ ∀ (j:Nat) c,u.cells[j]? = some c->arr[off+j]? = some c:=by
  cases h with
  | imm h=>cases h with | ref _ u b off arr T fz hm hr hc=>exact ⟨u,b,off,arr,T,fz,rfl,hm,hr,hc⟩
theorem Rep.inv_list {xs:List V} {v:Value} (h:Rep m β (.list xs) v):RepI m (.list xs) v:=by cases h with | imm h=>exact h
theorem Rep.inv_slice {o off len:Nat} {v:Value} (h:Rep m β (.slice o off len) v) (hd:β o ≠ .dead) : ∃ a cap,v = .slice a len cap/\len<=cap/\cap<=maxLen /\
    ((β o = .void/\len=0/\cap=0) \/ ∃ b base s n,β o = .lies b base s n/\(cap=0\/(a=some ⟨b,base+off,none⟩/\base+off+cap*s<=n))):=by
  cases h with
  | imm h=>cases h
  | sliceDead _ _ _ _ h=>exact absurd h hd
  | sliceVoid _ _ a h=>exact ⟨a,0,rfl,aT _,Nat.zero_le _, .inl ⟨h,rfl,rfl⟩⟩
  | slice _ _ _ b base s n cap a h hc hcm ha=>exact ⟨a,cap,rfl,hc,hcm, .inr ⟨b,base,s,n,h,ha⟩⟩
theorem Rep.inv_ptr {o off:Nat} {v:Value} (h:Rep m β (.ptr o off) v) (hd:β o ≠ .dead) : ∃ b base s n,β o = .lies b base s n/\v = .pointer (some ⟨b,base+off,none⟩):=by
  cases h with
  | imm h=>cases h
  | ptrDead _ _ _ h=>exact absurd h hd
  | ptr _ _ b base s n h=>exact ⟨b,base,s,n,h,rfl⟩
theorem Holds.alive (h:Holds S m β w) {o:Nat} {c} (ho:S.get o=some c):β o ≠ .dead:=by
  intro e;have:=h.live o c ho;rw [e] at this;exact this
theorem KP (b off i:Nat):(⟨b,off,none⟩:Addr).add i=⟨b,off+i,none⟩:=by unfold Addr.add; split<;>simp_all
theorem jbQ {arr:Array Value} {T:TypeId} {fz:Nat × Nat} {b:Nat} (h:w.heap[b]? = some (.cells arr T fz)) (off:Nat):w.cell? ⟨b,off,none⟩=arr[off]? := by simp [World.cell?,h]
theorem jaw {t:TypeId} {sz:Option Nat} (h:Program.szOf P t=some sz) (w:World) :
    ∃ i,P.info? t=some i/\(isAgg t).run P w = .ok sz.isSome w/\(∀ n,sz=some n->i.size=n)/\(sz=none->i.size=1):=by
  unfold Program.szOf at h;cases hu:P.underlying t with
  | none=>simp [hu] at h
  | some d =>
    cases hi:P.info? t with
    | none=>cases d<;>simp [hu,hi] at h
    | some i =>
      refine ⟨i,rfl, ?_⟩;cases d<;>simp only [hu,hi] at h <;>
        first
        | (cases h; exact ⟨by simp [isAgg,run_underlying hu],(by intro n hn; cases hn; rfl),(by intro hn; cases hn)⟩)
        | (split at h
           .rename_i hs; cases h; exact ⟨by simp [isAgg,run_underlying hu],(by intro n hn; cases hn),fun _=>hs⟩
           .cases h)
theorem qV {t:TypeId} {sz:Option Nat} (hsz:Program.szOf P t=some sz) {arr:Array Value} {T:TypeId} {fz:Nat × Nat} {b off:Nat} (hb:w.heap[b]? = some (.cells arr T fz))
    (u:Value) (hu:(∀ n,sz=some n -> ∃ vs:List Value,u = .agg vs.toArray/\vs.length=n)/\(sz=none->u.cells = #[u])) (hc : ∀ (j:Nat) c,u.cells[j]? = some c->arr[off+j]? = some c) :
    (loadVar t ⟨b,off,none⟩).run P w = .ok u w:=by
  obtain ⟨i,hi,hagg,hsome,hnone⟩:=jaw hsz w;cases sz with
  | none =>
    have e:=hu.2 rfl;have h0:=hc 0 u (by simp [e]);simp only [Nat.add_zero] at h0;simp at hagg;simp [loadVar,hagg,jbQ hb,h0]
  | some n =>
    obtain ⟨vs,rfl,hl⟩:=hu.1 n rfl;have hcs:=run_loadCells_list (P:=P) w ⟨b,off,none⟩ vs (fun j v hv=>by
      rw [KP,jbQ hb];exact hc j v (by simpa [Value.cells] using hv))
    rw [hl] at hcs;simp at hagg;simp [loadVar,hagg,sizeOf,typeInfo,hi,hsome n rfl,hcs]
theorem Rep.cellwise {x:V} {v:Value} (h:Rep m β x v) (h1:x.cells.all V.one=true):x.cells.length=v.cells.size /\
    ∀ (i:Nat) c,x.cells[i]? = some c -> ∃ u,v.cells[i]? = some u/\Rep m β c u/\u.oneCell'=true:=by
  by_cases hx : ∃ xs,x = .agg xs
  .obtain ⟨xs,rfl⟩:=hx;obtain ⟨vs,rfl,hl,hr,ho⟩:=h.inv_agg;refine ⟨by simpa [V.cells,Value.cells] using hl,fun i c hc => ?_⟩;simp only [V.cells] at hc;have hi:i<vs.length:=by have:=(ab.1 hc).1; omega
   exact ⟨vs[i],by simp [Value.cells,hi],hr i c _ hc (aa hi),ho _ (ah hi)⟩
  .have e:x.cells=[x]:=by cases x<;>first | rfl | exact absurd ⟨_,rfl⟩ hx
   rw [e] at h1 ⊢;have h1':x.one=true:=by simpa using h1
   have ho:=h.oneCell h1';have ev:v.cells = #[v]:=by cases v<;>first | rfl | simp [Value.oneCell'] at ho
   refine ⟨by simp [ev],fun i c hc => ?_⟩;rw [List.getElem?_singleton] at hc;split at hc
   .cases hc; rename_i hi; subst hi; exact ⟨v,by simp [ev],h,ho⟩
   .cases hc
theorem Holds.cells_at (h:Holds S m β w) {o b base s n:Nat} {c:Nat × List V} (ho:S.get o=some c) (hob:β o = .lies b base s n) :
    c.1=s /\ ∃ arr T,(∃ fz,FzOk arr.size fz/\w.heap[b]? = some (.cells arr T fz))/\arr.size=n/\base+c.2.length<=n /\ ∀ (i:Nat) x,c.2[i]? = some x -> ∃ v,arr[base+i]? = some v/\Rep m β x v/\v.oneCell'=true:=by
  have:=h.live o c ho;rw [hob] at this;exact this
theorem KY {arr:Array Value} {base:Nat} {cells:List V} (h : ∀ (i:Nat) x,cells[i]? = some x -> ∃ v,arr[base+i]? = some v/\Rep m β x v/\v.oneCell'=true) (off n:Nat) (hle:off+n<=cells.length) :
    ∃ vs:List Value,vs.length=n/\(∀ (j:Nat) v,vs[j]? = some v->arr[base+off+j]? = some v)/\RepL m β ((cells.drop off).take n) vs /\ ∀ v∈vs,v.oneCell'=true:=by
  refine ⟨(List.range n).map fun j=>arr.getD (base+off+j) undef,by simp,fun j v hj => ?_,⟨by simp; omega,fun i x v hx hv => ?_⟩,fun v hv => ?_⟩
  .simp only [aQ,aq] at hj;obtain ⟨j',hj',rfl⟩:=hj;obtain ⟨hlt,e⟩:=ab.1 hj';simp at e hlt; subst e;obtain ⟨u,hu,_⟩:=h (off+j) cells[off+j] (aa (by omega));rw [<-Nat.add_assoc] at hu;simp [aO,hu]
  .simp only [aQ,aq] at hv;obtain ⟨j',hj',rfl⟩:=hv;obtain ⟨hlt,e⟩:=ab.1 hj';simp at e hlt; subst e;rw [List.getElem?_take,if_pos hlt,List.getElem?_drop] at hx;obtain ⟨u,hu,hr,_⟩:=h _ x hx;rw [<-Nat.add_assoc] at hu;simp [aO,hu,hr]
  .simp only [List.mem_map,List.mem_range] at hv;obtain ⟨j,hj,rfl⟩:=hv;obtain ⟨u,hu,_,ho⟩:=h (off+j) cells[off+j] (aa (by omega));rw [<-Nat.add_assoc] at hu;simp [aO,hu,ho]
theorem akg {o:Oper} {t:TypeId} {y:Operand} {z:Arg} {sz:Option Nat} {x:V} (ho:o.op = .load t y) (hsz:Program.szOf P t=some sz) (hz:jC y=some z) (hS:Holds S m β w) (hF:FrameRep N m β σ a)
    (he:Jk sz S (ev σ z)=some x):Does P ((execOp a.eval o).run P w) x S m β w:=by
  have hr:=jM hF hz;generalize ev σ z=p at he hr;have run : ∀ (b off:Nat) u,a.eval y = .pointer (some ⟨b,off,none⟩)->(loadVar t ⟨b,off,none⟩).run P w = .ok u w->(execOp a.eval o).run P w = .ok (.value u) w:=by
    intro b off u h1 h2;simp [execOp,ho,h1,Instr.loadAt,Instr.sureAddr,h2]
  cases p with
  | ref x' =>
    simp only [Jk] at he;split at he
    .rename_i hok;cases he;obtain ⟨u,b,off,arr,T,fz,e,hm,hu,hc⟩:=hr.inv_ref;refine Does.same hS (run b off u e (qV hsz (hS.imm _ _ hm) u ?_ hc)) (.imm hu);refine ⟨fun n hn => ?_,fun hn => ?_⟩
     .subst hn;cases x<;>simp [okSz] at hok
      cases hu with | agg xs vs hl _ _=>exact ⟨vs,rfl,by omega⟩
     .subst hn;simp only [okSz] at hok;have:=(Rep.imm (β:=β) hu).oneCell hok;cases u<;>first | rfl | simp [Value.oneCell'] at this
    .cases he
  | ptr o' off =>
    simp only [Jk] at he;cases hc:S.get o' with
    | none=>simp [hc] at he
    | some c =>
      simp only [hc] at he;obtain ⟨b,base,s,n,hob,e⟩:=hr.inv_ptr (hS.alive hc);obtain ⟨_,arr,T,⟨fz,hz,h1⟩,h2,h3,h4⟩:=hS.cells_at hc hob;cases sz with
      | none =>
        simp only [jcm] at he;obtain ⟨v,hv,hrv,hone⟩:=h4 off x he;have ec:v.cells = #[v]:=by cases v<;>first | rfl | simp [Value.oneCell'] at hone
        refine Does.same hS (run b (base+off) v e (qV hsz h1 v ⟨(by intro n hn; cases hn),fun _=>ec⟩ fun j c' hj => ?_)) hrv;rw [ec] at hj;cases j with
        | zero=>simp at hj; subst hj; simpa using hv
        | succ j=>simp at hj
      | some k =>
        simp only [jcm] at he;split at he
        .rename_i hle;cases he;obtain ⟨vs,hl,hcs,hrl,hone⟩:=KY h4 off k hle;refine Does.same hS (run b (base+off) (.agg vs.toArray) e (qV hsz h1 _ ⟨(by intro n hn; cases hn; exact ⟨vs,rfl,hl⟩),(by intro hn; cases hn)⟩ fun j c' hj => ?_)) (.agg _ vs hrl.1 hrl.2 hone);exact hcs j c' (by simpa [Value.cells] using hj)
        .cases he
  | _=>simp [Jk] at he
theorem jbm (cs xs:List V) (off:Nat) (h:off+xs.length<=cs.length) (i:Nat):(Jn cs off xs)[i]? = if i<off then cs[i]? else if i<off+xs.length then xs[i-off]? else cs[i]? := by
  simp only [Jn,List.append_assoc,List.getElem?_append,List.length_take,List.getElem?_take,List.getElem?_drop];have e:min off cs.length=off:=by omega
  simp only [e];split
  .simp [*]
  .split
   .rename_i h1 h2;rw [if_pos (by omega)]
   .rename_i h1 h2;rw [if_neg (by omega)]
    congr 1
    omega
theorem Yr (cs xs:List V) (off:Nat) (h:off+xs.length<=cs.length):(Jn cs off xs).length=cs.length:=by
  simp [Jn]; omega
theorem Yp (cs xs:List Value) (off:Nat) (h:off+xs.length<=cs.length) (i:Nat):(cs.take off++xs++cs.drop (off+xs.length))[i]? = if i<off then cs[i]? else if i<off+xs.length then xs[i-off]? else cs[i]? := by
  simp only [List.append_assoc,List.getElem?_append,List.length_take,List.getElem?_take,List.getElem?_drop];have e:min off cs.length=off:=by omega
  simp only [e];split
  .simp [*]
  .split
   .rename_i h1 h2;rw [if_pos (by omega)]
   .rename_i h1 h2;rw [if_neg (by omega)]
    congr 1
    omega
theorem Jg (P:Program) (g o:Nat) (t:TypeId) {fz:Nat × Nat} : ∀ (vs:List Value) (i:Nat) (cur:Array Value) (w:World),FzOk cur.size fz->w.heap[g]? = some (.cells cur t fz)->o+i+vs.length<=cur.size->(∀ v∈vs,v.oneCell'=true) ->
    (storeCells ⟨g,o,none⟩ vs i).run P w = .ok () (w.setRow g (cur.toList.take (o+i)++vs++cur.toList.drop (o+i+vs.length)).toArray)
  | [],i,cur,w,_,hg,_,_=>by
    simp only [storeCells,List.append_nil,aF,Nat.add_zero,List.take_append_drop,Array.toArray_toList];rw [setRow_self w g cur t fz hg]
    rfl
  | v::rest,i,cur,w,hz,hg,hl,h1=>by
    have hi:o+i<cur.size:=by simp at hl; omega
    have hadd:(⟨g,o,none⟩:Addr).add i=⟨g,o+i,none⟩:=by unfold Addr.add; split<;>simp_all
    have hcell:w.cell? ⟨g,o+i,none⟩=some cur[o+i]:=by simp [World.cell?,hg,hi]
    have hfro:w.frozen? ⟨g,o+i,none⟩=false:=by
      rcases hz with rfl | rfl<;>simp [World.frozen?,hg]
      omega
    have hst:(store ((⟨g,o,none⟩:Addr).add i) v).run P w = .ok () (w.setRow g (cur.setIfInBounds (o+i) v)):=by
      rw [hadd,run_store P w _ v _ (h1 v (by simp)),hcell];simp [hfro,setCell_eq_setRow w g (o+i) cur t fz v hg]
    have ih:=Jg P g o t rest (i+1) (cur.setIfInBounds (o+i) v) (w.setRow g (cur.setIfInBounds (o+i) v)) (by simpa using hz) (setRow_heap w g cur _ t _ hg) (by simp at hl ⊢; omega) (fun x hx=>h1 x (by simp [hx]));simp only [storeCells,Sem.run_bind,hst,Result.andThen_ok,ih,setRow_setRow]
    congr 3
    have e:=list_seg_step cur.toList (o+i) v rest (by simp at hl ⊢; omega);simpa [Array.toList_setIfInBounds,Nat.add_assoc] using e
theorem Holds.store (hS:Holds S m β w) {o b base s n:Nat} {c:Nat × List V} (ho:S.get o=some c) (hob:β o = .lies b base s n) (off:Nat) (xs:List V) (vs:List Value) (hr:RepL m β xs vs)
    (hone : ∀ v∈vs,v.oneCell'=true) (hle:off+xs.length<=c.2.length) :
    ∃ w',(storeCells ⟨b,base+off,none⟩ vs 0).run P w = .ok () w'/\Holds (S.upd o (c.1,Jn c.2 off xs)) m β w'/\Ext m β w m β w':=by
  obtain ⟨hs,arr,T,⟨fz,hz,h1⟩,h2,h3,h4⟩:=hS.cells_at ho hob;have hl:=hr.1;have hst:=Jg P b (base+off) T vs 0 arr w hz h1 (by simp; omega) hone;refine ⟨_,hst, ?_⟩;rw [hs];refine hS.setRow ho hob _ ?_ (Jn c.2 off xs) (by rw [Yr _ _ _ hle]; exact h3) fun i x hx => ?_
  .simp; omega
  .rw [jbm _ _ _ hle] at hx;simp only [List.getElem?_toArray,Nat.add_zero];rw [Yp _ _ _ (by simp; omega)];by_cases hi:i<off
   .rw [if_pos hi] at hx;rw [if_pos (by omega)];obtain ⟨v,e1,e2,e3⟩:=h4 i x hx;exact ⟨v,by simpa using e1,e2,e3⟩
   .rw [if_neg hi] at hx;rw [if_neg (by omega)];by_cases hi2:i<off+xs.length
    .rw [if_pos hi2] at hx;rw [if_pos (by omega)];have hlt:i-off<vs.length:=by omega
     refine ⟨vs[i-off], ?_,hr.2 _ x _ hx (aa hlt),hone _ (ah hlt)⟩;rw [show base+i-(base+off)=i-off from by omega];exact aa hlt
    .rw [if_neg hi2] at hx;rw [if_neg (by omega)];obtain ⟨v,e1,e2,e3⟩:=h4 i x hx;exact ⟨v,by simpa using e1,e2,e3⟩
theorem aid (cs:List V) (off:Nat) (x:V) (h:off<cs.length):cs.set off x=Jn cs off [x]:=by
  apply List.ext_getElem?
  intro i;rw [jbm cs [x] off (by simp; omega),List.getElem?_set];by_cases h1:off=i
  .subst h1; simp [h]
  .rw [if_neg h1];by_cases h2:i<off
   .rw [if_pos h2]
   .rw [if_neg h2,if_neg (by simp; omega)]
theorem ajj {o:Oper} {t:TypeId} {p u:Operand} {pz uz:Arg} {sz:Option Nat} {S':Store} (ho:o.op = .store t p u) (hsz:Program.szOf P t=some sz) (hp:jC p=some pz) (hu:jC u=some uz)
    (hS:Holds S m β w) (hF:FrameRep N m β σ a) (he:jbr sz S (ev σ pz) (ev σ uz)=some S'):Does P ((execOp a.eval o).run P w) (.tuple []) S' m β w:=by
  have hrp:=jM hF hp;have hru:=jM hF hu;generalize ev σ pz=p' at he hrp;generalize ev σ uz=u' at he hru;cases p' with
  | ptr o' off =>
    simp only [jbr] at he;cases hc:S.get o' with
    | none=>simp [hc] at he
    | some c =>
      obtain ⟨b,base,s,n,hob,e⟩:=hrp.inv_ptr (hS.alive hc);obtain ⟨i,hi,hagg,hsome,hnone⟩:=jaw hsz w
      -- the cells stored
      have go : ∀ (xs:List V) (vs:List Value),RepL m β xs vs->(∀ v∈vs,v.oneCell'=true)->(a.eval u).cells=vs.toArray->vs.length=i.size->off+xs.length<=c.2.length ->
          Does P ((execOp a.eval o).run P w) (.tuple []) (S.upd o' (c.1,Jn c.2 off xs)) m β w:=by
        intro xs vs h1 h2 h3 h4 h5;obtain ⟨w',g1,g2,g3⟩:=hS.store (P:=P) hc hob off xs vs h1 h2 h5;refine ⟨undef,w',m,β, .inr ⟨?_,rfl⟩,zR m β,g2,g3⟩;simp [execOp,ho,e,Instr.storeAt,Instr.sureAddr,storeVar,h3,sizeOf,typeInfo,hi,h4,g1]
      cases sz with
      | none =>
        simp only [hc] at he;split at he
        .rename_i hok;cases he;rw [aid _ _ _ hok.1];have hone:=hru.oneCell hok.2;have ec:(a.eval u).cells = #[a.eval u]:=by
           cases hv:a.eval u<;>first | rfl | (rw [hv] at hone; simp [Value.oneCell'] at hone)
         exact go [u'] [a.eval u] (RepL.cons hru (RepL.nil _ _)) (by simpa using hone) (by simpa using ec) (by simp [hnone rfl]) (by simp; omega)
        .cases he
      | some k =>
        simp only [hc] at he;cases u' with
        | agg cs =>
          simp only at he;split at he
          .rename_i hok;cases he;obtain ⟨vs,e2,hl,hr,hone⟩:=hru.inv_agg;exact go cs vs ⟨hl,hr⟩ hone (by simp [e2,Value.cells]) (by rw [hsome k rfl]; omega) (by omega)
          .cases he
        | _=>simp at he
  | _=>simp [jbr] at he
end
end Go.Vw
