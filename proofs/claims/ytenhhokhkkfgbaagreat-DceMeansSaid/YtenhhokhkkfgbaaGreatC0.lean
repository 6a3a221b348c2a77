import Derived.WalkKit
import Derived.Deep.Quiet
import Derived.BigQuiet
/- Part of the proof. -/
set_option linter.unusedVariables false
set_option linter.unusedSimpArgs false
/-
 Short names.
-/
namespace Go.Vw
end Go.Vw
theorem ac {α:Type _} {l:List α} {i:Nat} (h:i<l.length):l[i]?=some l[i]:=List.getElem?_eq_getElem h
theorem ae {α:Type _} {i:Nat} {a:α} {l:List α}:l[i]?=some a↔∃ (h:i<l.length),l[i]=a:=List.getElem?_eq_some_iff
theorem af (a b:Bool):((a&&b)=true)=(a=true/\b=true):=Bool.and_eq_true a b
theorem ag {α:Type _} {l:List α} {i:Nat} {a:α}:l.getD i a=l[i]?.getD a:=List.getD_eq_getElem?_getD
theorem ah {α:Type _} {l:List α} {n:Nat} (h:n<l.length):l[n]∈l:=List.getElem_mem h
theorem aj {p:Prop} [Decidable p]:(decide p=true)=p:=decide_eq_true_eq
theorem am {α:Type _} {i:Nat} {l:List α} (h:i<l.length):List.drop i l=l[i]::List.drop (i+1) l:=List.drop_eq_getElem_cons h
theorem ao {k m n:Nat} (h:k<m) (g:k<n):m-n<m-k:=Nat.sub_lt_sub_left h g
theorem aq {α:Type _} {x:α} {xs:List α} {i:Nat} {a:α}:(x::xs).set (i+1) a=x::xs.set i a:=rfl
theorem au {α:Type _} {x:α} {xs:List α} {a:α}:(x::xs).set 0 a=a::xs:=rfl
theorem av {α:Type _} {b:α} {β:Type _} {x:Option β} {f:β->α}:Option.map f x=some b↔∃ (a:β),x=some a/\f a=b:=Option.map_eq_some_iff
theorem ay {α:Type _} (a b:α):(some a=some b)=(a=b):=Option.some.injEq a b
theorem aA {α:Type _} {l:List α} {i:Nat} {a:α} (h:l[i]?=some a):a∈l:=List.mem_of_getElem? h
theorem aB {α:Type _} {a:α} {l:List α}:a∈l↔∃ (i:Nat),l[i]?=some a:=List.mem_iff_getElem?
theorem aC {α:Type _} {a:α} {l:List α}:(a::l).length=l.length+1:=rfl
theorem aD {α:Type _} {p:α->Bool} {l:List α}:l.all p=true↔∀ (x:α),x∈l->p x=true:=List.all_eq_true
theorem aE (b:Bool):(true&&b)=b:=Bool.true_and b
theorem aF :(false=true)=False:=Bool.false_eq_true
theorem aG {α:Type _} {a:α} {s t:List α}:a∈s++t↔a∈s\/a∈t:=List.mem_append
theorem aH {α:Type _} {l:List α} {i:Nat}:List.drop i l=[]↔l.length<=i:=List.drop_eq_nil_iff
theorem aI {α:Type _} {β:Type _} {l:List α} (f:α->β):(List.map f l).length=l.length:=List.length_map f
theorem aJ {α:Type _} {l:List α} {i:Nat} (h:l.length<=i):l[i]?=none:=List.getElem?_eq_none h
theorem aK {α:Type _} {a:α} {l:List α}:(a::l)[0]?=some a:=rfl
theorem aL {α:Type _} {b:α} {l:List α} {a:α}:a∈b::l↔a=b\/a∈l:=List.mem_cons
theorem aM {α:Type _}:([]:List α).length=0:=rfl
theorem aN {α:Type _} {b:α} {β:Type _} {x:Option β} {f:β->Option α}:x.bind f=some b↔∃ (a:β),x=some a/\f a=some b:=Option.bind_eq_some_iff
theorem aO {α:Type _} {l:List α} (h:l.length=0):l=[]:=List.eq_nil_of_length_eq_zero h
theorem aQ {p:Prop} [Decidable p] (h:decide p=true):p:=of_decide_eq_true h
theorem aR {α:Type _} {l:List α} {i j:Nat} (h:i≠j) {a:α}:(l.set i a)[j]?=l[j]?:=List.getElem?_set_ne h
theorem aS {α:Type _} {a b:α}:(some a).getD b=a:=rfl
theorem aU {n m k:Nat} (h:n<m) (g:m<=k):n<k:=Nat.lt_of_lt_of_le h g
theorem aV {α:Type _} {l m:List α} {i:Nat} (h:i<l.length):(l++m)[i]?=l[i]?:=List.getElem?_append_left h
theorem aW {α:Type _} {a b:α}:a∈[b]↔a=b:=List.mem_singleton
theorem aX (b:Bool):(false&&b)=false:=Bool.false_and b
theorem aY (n:Nat):n<n.succ:=Nat.lt_succ_self n
theorem aZ {α:Type _} {l:List α} {i:Nat} {a:α} (h:i<l.length):(l.set i a)[i]?=some a:=List.getElem?_set_self h
theorem a6 {α:Type _} {l:Array α} {i:Nat} {a:α}:l.getD i a=l[i]?.getD a:=Array.getD_eq_getD_getElem?
theorem a7 {α:Type _} {l:List α} {β:Type _} {f g:α->β} (h:∀ (a:α),a∈l->f a=g a):List.map f l=List.map g l:=List.map_congr_left h
theorem a8 {α:Type _} {β:Type _} {f:α->β} {l:List α} {i:Nat}:(List.map f l)[i]?=Option.map f l[i]?:=List.getElem?_map
theorem a9 {α:Type _} {a:α} {l:List α} (h:a∈l):∃ (i:Nat),∃ (h:i<l.length),l[i]=a:=List.getElem_of_mem h
theorem bd (n:Nat):0+n=n:=Nat.zero_add n
theorem bf (n:Nat):n<=n:=Nat.le_refl n
theorem bh {n m k:Nat} (h:n<=m) (g:m<=k):n<=k:=Nat.le_trans h g
theorem bi {α:Type _} {l m:List α} {i:Nat} (h:l.length<=i):(l++m)[i]?=m[i-l.length]?:=List.getElem?_append_right h
theorem bj {α β:Type _} {f:α->List β} {b:β} {l:List α}:b∈l.flatMap f↔∃ a,a∈l/\b∈f a:=List.mem_flatMap
theorem bk {α β:Type _} {b:β} {f:α->β} {l:List α}:b∈l.map f↔∃ a,a∈l/\f a=b:=List.mem_map
theorem bl {α β:Type _} {a:α} {f:α->β}:(some a).map f=some (f a):=rfl
theorem bq (a b:Bool):((a||b)=true)=(a=true\/b=true):=Bool.or_eq_true a b
/-
 Values without addresses: the levels' bottom. What a Go value reads as, over an immutable part of the heap and objects of the call's own.
-/
namespace Go.Vw
open Go.RowKit
inductive V where
 | bool (b:Bool)
 | int (k:IntKind) (n:Int)
 | str (s:ByteArray)
 | nils
 | nilp
 | nilf
 | nilm
 | agg (xs:List V)
 | list (xs:List V)
 | ref (x:V)
 | slice (o off len:Nat)
 | ptr (o off:Nat)
 | func (f:FuncId) (caps:List V)
 | tuple (xs:List V)
 | map (o:Nat)
 | junk
deriving Inhabited
def V.cells:V->List V
 | .agg xs=>xs
 | x=>[x]
def V.ncells:V->Nat
 | .agg xs=>xs.length
 | _=>1
def V.one:V->Bool
 | .agg _ | .tuple _ | .junk=>false
 | _=>true
abbrev Imm:=Nat->Option Obj
inductive RepI (m:Imm):V->Value->Prop
 | bool (b):RepI m (.bool b) (.bool b)
 | int (k n):RepI m (.int k n) (.int k n)
 | str (s):RepI m (.str s) (.string s)
 | nils (a):RepI m .nils (.slice a 0 0)
 | nilp:RepI m .nilp (.pointer none)
 | nilf:RepI m .nilf .nilFunc
 | nilm:RepI m .nilm (.map none)
 | agg (xs:List V) (vs:List Value) (hl:xs.length=vs.length)
   (hr : ∀ (i:Nat) x v,xs[i]? = some x->vs[i]? = some v->RepI m x v) (h1 : ∀ v∈vs,v.oneCell'=true):RepI m (.agg xs) (.agg vs.toArray)
 | list0 (a cap) (hc:cap<=maxLen):RepI m (.list []) (.slice a 0 cap)
 | list (xs:List V) (vs:List Value) (b off cap s:Nat) (arr:Array Value) (T:TypeId) (fz:Nat × Nat)
   (hm:m b=some (.cells arr T fz)) (hl:xs.length=vs.length) (hc:xs.length<=cap) (hcm:cap<=maxLen)
   (hs : ∀ v∈vs,v.cells.size=s) (hr : ∀ (i:Nat) x v,xs[i]? = some x->vs[i]? = some v->RepI m x v)
   (hcells : ∀ (i:Nat) v (j:Nat) c,vs[i]? = some v->v.cells[j]? = some c->arr[off+i*s+j]? = some c) :
   RepI m (.list xs) (.slice (some ⟨b,off,none⟩) xs.length cap)
 | ref (x:V) (v:Value) (b off:Nat) (arr:Array Value) (T:TypeId) (fz:Nat × Nat)
   (hm:m b=some (.cells arr T fz)) (hr:RepI m x v) (hcells : ∀ (j:Nat) c,v.cells[j]? = some c->arr[off+j]? = some c) :
   RepI m (.ref x) (.pointer (some ⟨b,off,none⟩))
inductive Loc where
 | fresh
 | dead
 | void
 | lies (b base s n:Nat)
 | mp (b:Nat)
def Loc.block? : Loc->Option Nat
 | .lies b _ _ _=>some b
 | .mp b=>some b
 | _=>none
abbrev Objs:=Nat->Loc
inductive Rep (m:Imm) (β:Objs):V->Value->Prop
 | imm {x v} (h:RepI m x v):Rep m β x v
 | agg (xs:List V) (vs:List Value) (hl:xs.length=vs.length)
   (hr : ∀ (i:Nat) x v,xs[i]? = some x->vs[i]? = some v->Rep m β x v) (h1 : ∀ v∈vs,v.oneCell'=true):Rep m β (.agg xs) (.agg vs.toArray)
 | tuple (xs:List V) (vs:List Value) (hl:xs.length=vs.length)
   (hr : ∀ (i:Nat) x v,xs[i]? = some x->vs[i]? = some v->Rep m β x v):Rep m β (.tuple xs) (.tuple vs.toArray)
 | func (f:FuncId) (xs:List V) (vs:List Value) (hl:xs.length=vs.length)
   (hr : ∀ (i:Nat) x v,xs[i]? = some x->vs[i]? = some v->Rep m β x v):Rep m β (.func f xs) (.func (.func f) #[] vs.toArray)
 | sliceDead (o off len v) (h:β o = .dead) (h1:v.oneCell'=true):Rep m β (.slice o off len) v
 | sliceVoid (o off a) (h:β o = .void):Rep m β (.slice o off 0) (.slice a 0 0)
 | slice (o off len b base s n cap a) (h:β o = .lies b base s n) (hc:len<=cap) (hcm:cap<=maxLen)
   (ha:cap=0\/(a=some ⟨b,base+off,none⟩/\base+off+cap*s<=n)):Rep m β (.slice o off len) (.slice a len cap)
 | ptrDead (o off v) (h:β o = .dead) (h1:v.oneCell'=true):Rep m β (.ptr o off) v
 | ptr (o off b base s n) (h:β o = .lies b base s n):Rep m β (.ptr o off) (.pointer (some ⟨b,base+off,none⟩))
 | mapDead (o v) (h:β o = .dead) (h1:v.oneCell'=true):Rep m β (.map o) v
 | map (o b) (h:β o = .mp b):Rep m β (.map o) (.map (some b))
 | junk (v):Rep m β .junk v
theorem RepI.mono {m m':Imm} (hm : ∀ b o,m b=some o->m' b=some o) {x:V} {v:Value} (h:RepI m x v):RepI m' x v:=by
 induction h with
 | bool b=>exact .bool b
 | int k n=>exact .int k n
 | str s=>exact .str s
 | nils a=>exact .nils a
 | nilp=>exact .nilp
 | nilf=>exact .nilf
 | nilm=>exact .nilm
 | agg xs vs hl hr h1 ih=>exact .agg xs vs hl ih h1
 | list0 a cap hc=>exact .list0 a cap hc
 | list xs vs b off cap s arr T fz hm' hl hc hcm hs hr hcells ih=>exact .list xs vs b off cap s arr T fz (hm _ _ hm') hl hc hcm hs ih hcells
 | ref x v b off arr T fz hm' hr hcells ih=>exact .ref x v b off arr T fz (hm _ _ hm') ih hcells
def Step (β β':Objs):Prop := ∀ o,β o ≠ .fresh->β' o=β o\/β' o = .dead
theorem Step.refl (β:Objs):Step β β:=fun _ _ => .inl rfl
theorem Step.trans {a b c:Objs} (h:Step a b) (k:Step b c):Step a c:=by
 intro o ho;rcases h o ho with h1 | h1
 ·rcases k o (by rw [h1]; exact ho) with k1 | k1
  ·exact .inl (k1.trans h1)
  ·exact .inr k1
 ·rcases k o (by rw [h1]; exact Loc.noConfusion) with k1 | k1
  ·exact .inr (k1.trans h1)
  ·exact .inr k1
theorem Rep.oneCell {m:Imm} {β:Objs} {x:V} {v:Value} (h:Rep m β x v) (h1:x.one=true):v.oneCell'=true:=by
 cases h with
 | imm h=>cases h<;>first | rfl | (simp [V.one] at h1)
 | agg | tuple | junk=>simp [V.one] at h1
 | func=>rfl
 | sliceDead _ _ _ _ _ h=>exact h
 | sliceVoid=>rfl
 | slice=>rfl
 | ptrDead _ _ _ _ h=>exact h
 | ptr=>rfl
 | mapDead _ _ _ h=>exact h
 | map=>rfl
theorem Rep.mono {m m':Imm} {β β':Objs} (hm : ∀ b o,m b=some o->m' b=some o) (hβ:Step β β') {x:V} {v:Value} (h:Rep m β x v):Rep m' β' x v:=by
 induction h with
 | imm h=>exact .imm (h.mono hm)
 | agg xs vs hl hr h1 ih=>exact .agg xs vs hl ih h1
 | tuple xs vs hl hr ih=>exact .tuple xs vs hl ih
 | func f xs vs hl hr ih=>exact .func f xs vs hl ih
 | sliceDead o off len v h h1 =>
  rcases hβ o (by rw [h]; exact Loc.noConfusion) with h' | h'
  ·exact .sliceDead o off len v (h'.trans h) h1
  ·exact .sliceDead o off len v h' h1
 | sliceVoid o off a h =>
  rcases hβ o (by rw [h]; exact Loc.noConfusion) with h' | h'
  ·exact .sliceVoid o off a (h'.trans h)
  ·exact .sliceDead o off 0 _ h' rfl
 | slice o off len b base s n cap a h hc hcm ha =>
  rcases hβ o (by rw [h]; exact Loc.noConfusion) with h' | h'
  ·exact .slice o off len b base s n cap a (h'.trans h) hc hcm ha
  ·exact .sliceDead o off len _ h' rfl
 | ptrDead o off v h h1 =>
  rcases hβ o (by rw [h]; exact Loc.noConfusion) with h' | h'
  ·exact .ptrDead o off v (h'.trans h) h1
  ·exact .ptrDead o off v h' h1
 | ptr o off b base s n h =>
  rcases hβ o (by rw [h]; exact Loc.noConfusion) with h' | h'
  ·exact .ptr o off b base s n (h'.trans h)
  ·exact .ptrDead o off _ h' rfl
 | mapDead o v h h1 =>
  rcases hβ o (by rw [h]; exact Loc.noConfusion) with h' | h'
  ·exact .mapDead o v (h'.trans h) h1
  ·exact .mapDead o v h' h1
 | map o b h =>
  rcases hβ o (by rw [h]; exact Loc.noConfusion) with h' | h'
  ·exact .map o b (h'.trans h)
  ·exact .mapDead o _ h' rfl
 | junk v=>exact .junk v
theorem RepI.cells_size {m:Imm} {x:V} {v:Value} (h:RepI m x v):v.cells.size=x.ncells:=by
 cases h<;>simp [Value.cells,V.ncells, *]
structure Store where
 get:Nat->Option (Nat × List V)
 nx:Nat
def EntryRep (m:Imm) (β:Objs) (c:V) (e:MapEntry):Prop :=
 ∃ k v,c = .tuple [k,v]/\RepI m k e.key/\Rep m β v e.val
def Live (m:Imm) (β:Objs) (w:World):Loc->Nat × List V->Prop
 | .void,c=>c.2=[]
 | .lies b base s n,c=>c.1=s /\ ∃ arr T,w.heap[b]? = some (.cells arr T (0,0))/\arr.size=n/\base+c.2.length<=n /\
   ∀ (i:Nat) x,c.2[i]? = some x -> ∃ v,arr[base+i]? = some v/\Rep m β x v/\v.oneCell'=true
 | .mp b,c => ∃ es clock,w.heap[b]? = some (.map es clock)/\c.2.length=es.size/\(∀ (i:Nat) (x:V) (e:MapEntry),c.2[i]? = some x->es[i]? = some e->EntryRep m β x e)
 | _,_=>False
structure Holds (S:Store) (m:Imm) (β:Objs) (w:World):Prop where
 imm : ∀ b o,m b=some o->w.heap[b]? = some o
 apart : ∀ o b,(β o).block? = some b->m b=none
 inj : ∀ o o' b,(β o).block? = some b->(β o').block? = some b->o=o'
 fresh : ∀ o,β o = .fresh↔S.nx<=o
 gone : ∀ o,S.nx<=o->S.get o=none
 dead : ∀ o,o<S.nx->S.get o=none->β o = .dead
 live : ∀ o cells,S.get o=some cells->Live m β w (β o) cells
structure Ext (m:Imm) (β:Objs) (w:World) (m':Imm) (β':Objs) (w':World):Prop where
 imm : ∀ b o,m b=some o->m' b=some o
 step:Step β β'
 size:w.heap.size<=w'.heap.size
 keep : ∀ b,b<w.heap.size->m b=none->(∀ o,(β o).block? ≠ some b)->w'.heap[b]? = w.heap[b]? /\ m' b=none/\(∀ o,(β' o).block? ≠ some b)
 os:w'.os=w.os
 tape:w'.tape=w.tape
 output:w'.output=w.output
theorem Ext.refl (m:Imm) (β:Objs) (w:World):Ext m β w m β w :=
 ⟨fun _ _ h=>h,Step.refl β,bf _,fun b _ h1 h2=>⟨rfl,h1,h2⟩,rfl,rfl,rfl⟩
theorem Ext.trans {m m' m'':Imm} {β β' β'':Objs} {w w' w'':World} (h:Ext m β w m' β' w') (k:Ext m' β' w' m'' β'' w''):Ext m β w m'' β'' w'':=by
 refine ⟨fun b o hb=>k.imm b o (h.imm b o hb),h.step.trans k.step,bh h.size k.size,fun b hb h1 h2 => ?_,k.os.trans h.os,k.tape.trans h.tape,k.output.trans h.output⟩;obtain ⟨e1,e2,e3⟩:=h.keep b hb h1 h2;obtain ⟨f1,f2,f3⟩:=k.keep b (aU hb h.size) e2 e3;exact ⟨f1.trans e1,f2,f3⟩
theorem Ext.rep {m m':Imm} {β β':Objs} {w w':World} (h:Ext m β w m' β' w') {x:V} {v:Value} (hr:Rep m β x v):Rep m' β' x v:=hr.mono h.imm h.step
structure ExtB (b:Nat) (m:Imm) (β:Objs) (w:World) (m':Imm) (β':Objs) (w':World):Prop where
 imm : ∀ b o,m b=some o->m' b=some o
 step : ∀ o,o<b->β o ≠ .fresh->β' o=β o\/β' o = .dead
 size:w.heap.size<=w'.heap.size
 keep : ∀ b,b<w.heap.size->m b=none->(∀ o,(β o).block? ≠ some b)->w'.heap[b]? = w.heap[b]? /\ m' b=none/\(∀ o,(β' o).block? ≠ some b)
 os:w'.os=w.os
 tape:w'.tape=w.tape
 output:w'.output=w.output
theorem Ext.toB {m m':Imm} {β β':Objs} {w w':World} (h:Ext m β w m' β' w') (b:Nat):ExtB b m β w m' β' w' :=
 ⟨h.imm,fun o _ ho=>h.step o ho,h.size,h.keep,h.os,h.tape,h.output⟩
theorem ExtB.refl (b:Nat) (m:Imm) (β:Objs) (w:World):ExtB b m β w m β w:=(Ext.refl m β w).toB b
theorem ExtB.trans {b:Nat} {m m' m'':Imm} {β β' β'':Objs} {w w' w'':World} (h:ExtB b m β w m' β' w') (k:ExtB b m' β' w' m'' β'' w''):ExtB b m β w m'' β'' w'':=by
 refine ⟨fun b o hb=>k.imm b o (h.imm b o hb),fun o hob ho => ?_,bh h.size k.size,fun b hb h1 h2 => ?_,k.os.trans h.os,k.tape.trans h.tape,k.output.trans h.output⟩
 ·rcases h.step o hob ho with h1 | h1
  ·rcases k.step o hob (by rw [h1]; exact ho) with k1 | k1
   ·exact .inl (k1.trans h1)
   ·exact .inr k1
  ·rcases k.step o hob (by rw [h1]; exact Loc.noConfusion) with k1 | k1
   ·exact .inr (k1.trans h1)
   ·exact .inr k1
 ·obtain ⟨e1,e2,e3⟩:=h.keep b hb h1 h2;obtain ⟨f1,f2,f3⟩:=k.keep b (aU hb h.size) e2 e3;exact ⟨f1.trans e1,f2,f3⟩
/-! ### Frames -/
abbrev Fr:=List (Nat × V)
def Fr.look:Fr->Nat->V
 | [],_ => .junk
 | (k,v)::r,t=>if t=k then v else Fr.look r t
def Fr.set:Fr->Nat->V->Fr
 | [],t,x=>[(t,x)]
 | (k,v)::r,t,x=>if t=k then (k,x)::r else (k,v)::Fr.set r t x
theorem Fr.look_set (σ:Fr) (t:Nat) (x:V) (u:Nat):(σ.set t x).look u=if u=t then x else σ.look u:=by
 induction σ with
 | nil=>simp [Fr.set,Fr.look]
 | cons p r ih =>
  obtain ⟨k,v⟩:=p;simp only [Fr.set];split
  ·rename_i h; subst h; simp only [Fr.look]; split<;>simp_all
  ·simp only [Fr.look,ih]; split
   ·rename_i h1 h2; subst h2; rw [if_neg (fun e=>h1 e.symm)]
   ·rfl
def Fr.put (σ:Fr):Option Nat->V->Fr
 | some d,x=>σ.set d x
 | none,_=>σ
def Fr.only (σ:Fr) (ks:List Nat):Fr:=ks.map fun k=>(k,σ.look k)
theorem Fr.look_only (σ:Fr) (ks:List Nat) (t:Nat):(σ.only ks).look t=if t∈ks then σ.look t else .junk:=by
 induction ks with
 | nil=>simp [Fr.only,Fr.look]
 | cons k r ih =>
  simp only [Fr.only,List.map_cons,Fr.look] at ih ⊢
  by_cases h:t=k
  ·subst h; simp
  ·simp only [h,if_false,ih,aL,false_or]
structure FrameRep (N:Nat) (m:Imm) (β:Objs) (σ:Fr) (a:Act):Prop where
 size:a.tmps.size=N
 defers:a.defers=[]
 rep : ∀ t,Rep m β (σ.look t) (a.tmps.getD t undef)
theorem FrameRep.mono {N:Nat} {m m':Imm} {β β':Objs} {σ:Fr} {a:Act} (h:FrameRep N m β σ a) (hm : ∀ b o,m b=some o->m' b=some o) (hβ:Step β β'):FrameRep N m' β' σ a :=
 ⟨h.size,h.defers,fun t=>(h.rep t).mono hm hβ⟩
theorem FrameRep.ext {N:Nat} {m m':Imm} {β β':Objs} {w w':World} {σ:Fr} {a:Act} (h:FrameRep N m β σ a) (he:Ext m β w m' β' w'):FrameRep N m' β' σ a:=h.mono he.imm he.step
theorem FrameRep.only {N:Nat} {m:Imm} {β:Objs} {σ:Fr} {a:Act} (h:FrameRep N m β σ a) (ks:List Nat):FrameRep N m β (σ.only ks) a :=
 ⟨h.size,h.defers,fun t=>by rw [Fr.look_only]; split; exact h.rep t; exact .junk _⟩
theorem FrameRep.put {N:Nat} {m:Imm} {β:Objs} {σ:Fr} {a:Act} (h:FrameRep N m β σ a) (d:Option Nat) (hd : ∀ t,d=some t->t<N) {x:V} {v:Value} (hx:Rep m β x v):FrameRep N m β (σ.put d x) (a.put d v):=by
 cases d with
 | none=>exact h
 | some t =>
  refine ⟨by simp [Act.put,h.size],by simp [Act.put,h.defers],fun u => ?_⟩;have hlt:=hd t rfl;simp only [Fr.put,Fr.look_set,Act.put];split
  ·rename_i e; subst e;have:(a.tmps.setIfInBounds u v).getD u undef=v:=by simp [Array.getD,h.size,hlt]
   rw [this]; exact hx
  ·rename_i e;have:(a.tmps.setIfInBounds t v).getD u undef=a.tmps.getD u undef:=by
    simp only [a6,Array.getElem?_setIfInBounds];rw [if_neg (fun h=>e h.symm)]
   rw [this]; exact h.rep u
/-! ### Calls -/
def RepL (m:Imm) (β:Objs) (xs:List V) (vs:List Value):Prop :=
 xs.length=vs.length /\ ∀ (i:Nat) x v,xs[i]? = some x->vs[i]? = some v->Rep m β x v
theorem RepL.nil (m:Imm) (β:Objs):RepL m β [] []:=⟨rfl,by simp⟩
theorem RepL.cons {m:Imm} {β:Objs} {x:V} {v:Value} {xs:List V} {vs:List Value} (h:Rep m β x v) (hs:RepL m β xs vs):RepL m β (x::xs) (v::vs):=by
 refine ⟨by simp [hs.1],fun i y u hy hu => ?_⟩
 cases i with
 | zero=>simp at hy hu; subst hy; subst hu; exact h
 | succ i=>simp at hy hu; exact hs.2 i y u hy hu
theorem RepL.append {m:Imm} {β:Objs} {xs ys:List V} {vs us:List Value} (h:RepL m β xs vs) (k:RepL m β ys us):RepL m β (xs++ys) (vs++us):=by
 refine ⟨by simp [h.1,k.1],fun i x v hx hv => ?_⟩;rw [List.getElem?_append] at hx hv;rw [<-h.1] at hv;split at hx
 ·rename_i hi; rw [if_pos hi] at hv; exact h.2 i x v hx hv
 ·rename_i hi; rw [if_neg hi] at hv; exact k.2 _ x v hx hv
def VCalls (P:Program) (f:FuncId) (args:List V) (S:Store) (Q:V->Store->Prop):Prop :=
 ∀ m β w vs,Holds S m β w->RepL m β args vs->Calls P f vs.toArray w fun e w' =>
  ∃ v x S' m' β',e = .returned v/\Q x S'/\Rep m' β' x v/\Holds S' m' β' w'/\Ext m β w m' β' w'
theorem VCalls.mono {P:Program} {f:FuncId} {args:List V} {S:Store} {Q Q':V->Store->Prop} (h:VCalls P f args S Q) (hq : ∀ x S',Q x S'->Q' x S'):VCalls P f args S Q' :=
 fun m β w vs hS hr=>(h m β w vs hS hr).mono fun e w' ⟨v,x,S',m',β',he,hQ,rest⟩=>⟨v,x,S',m',β',he,hq _ _ hQ,rest⟩
end Go.Vw
/-
 Steps of the store: a new object, an object dropped, an object written.
-/
namespace Go.Vw
open Go.RowKit
def Store.upd (S:Store) (o:Nat) (c:Nat × List V):Store:=⟨fun o'=>if o'=o then some c else S.get o',S.nx⟩
def Store.del (S:Store) (o:Nat):Store:=⟨fun o'=>if o'=o then none else S.get o',S.nx⟩
def Store.add (S:Store) (c:Nat × List V):Store:=⟨fun o'=>if o'=S.nx then some c else S.get o',S.nx+1⟩
def Store.Sub (Z S:Store):Prop := ∀ o c,Z.get o=some c->S.get o=some c
theorem Store.ext' {S S':Store} (h1:S.get=S'.get) (h2:S.nx=S'.nx):S=S':=by cases S; cases S'; simp_all
def Objs.set (β:Objs) (o:Nat) (l:Loc):Objs:=fun o'=>if o'=o then l else β o'
theorem Objs.set_same (β:Objs) (o:Nat) (l:Loc):β.set o l o=l:=by simp [Objs.set]
theorem Objs.set_other (β:Objs) {o o':Nat} (l:Loc) (h:o'≠o):β.set o l o'=β o':=by simp [Objs.set,h]
theorem Step.fresh {β:Objs} {o:Nat} (h:β o = .fresh) (l:Loc):Step β (β.set o l):=by
 intro o' ho
 by_cases e:o'=o
 ·subst e; exact absurd h ho
 ·exact .inl (Objs.set_other β l e)
theorem Step.kill (β:Objs) (o:Nat):Step β (β.set o .dead):=by
 intro o' ho
 by_cases e:o'=o
 ·subst e; exact .inr (Objs.set_same _ _ _)
 ·exact .inl (Objs.set_other β _ e)
section
variable {S:Store} {m:Imm} {β:Objs} {w:World}
theorem Holds.lt (h:Holds S m β w) {o:Nat} {c} (ho:S.get o=some c):o<S.nx:=by
 rcases Nat.lt_or_ge o S.nx with h' | h'
 ·exact h'
 ·rw [h.gone o h'] at ho; cases ho
theorem Holds.nx_fresh (h:Holds S m β w):β S.nx = .fresh:=(h.fresh S.nx).2 (bf _)
theorem EntryRep.mono {m':Imm} {β':Objs} (hm : ∀ b o,m b=some o->m' b=some o) (hβ:Step β β') {c:V} {e:MapEntry} (h:EntryRep m β c e):EntryRep m' β' c e:=by
 obtain ⟨k,v,h1,h2,h3⟩:=h;exact ⟨k,v,h1,h2.mono hm,h3.mono hm hβ⟩
theorem Live.mono {m':Imm} {β':Objs} {w':World} (hm : ∀ b o,m b=some o->m' b=some o) (hβ:Step β β') {l:Loc} {c} (hw : ∀ b,l.block? = some b->w'.heap[b]? = w.heap[b]?) (h:Live m β w l c):Live m' β' w' l c:=by
 cases l with
 | fresh=>exact h
 | dead=>exact h
 | void=>exact h
 | lies b base s n =>
  obtain ⟨h0,arr,T,h1,h2,h3,h4⟩:=h;refine ⟨h0,arr,T,(hw b rfl).trans h1,h2,h3,fun i x hx => ?_⟩;obtain ⟨v,e1,e2,e3⟩:=h4 i x hx;exact ⟨v,e1,e2.mono hm hβ,e3⟩
 | mp b =>
  obtain ⟨es,clock,h1,h2,h3⟩:=h;exact ⟨es,clock,(hw b rfl).trans h1,h2,fun i x e hx he=>(h3 i x e hx he).mono hm hβ⟩
theorem Holds.world (h:Holds S m β w) {w':World} (hi : ∀ b o,m b=some o->w'.heap[b]? = w.heap[b]?) (hb : ∀ o b,(β o).block? = some b->w'.heap[b]? = w.heap[b]?):Holds S m β w' :=
 ⟨fun b o hb'=>(hi b o hb').trans (h.imm b o hb'),h.apart,h.inj,h.fresh,h.gone,h.dead,fun o c ho=>(h.live o c ho).mono (fun _ _ h=>h) (Step.refl β) (hb o)⟩
theorem Holds.drop (h:Holds S m β w) (o:Nat) (ho:o<S.nx):Holds (S.del o) m (β.set o .dead) w:=by
 refine ⟨h.imm,fun o' b hb => ?_,fun o1 o2 b h1 h2 => ?_,fun o' => ?_,fun o' ho' => ?_,fun o' ho' hn => ?_,fun o' c hc => ?_⟩
 ·by_cases e:o'=o
  ·subst e; rw [Objs.set_same] at hb; cases hb
  ·rw [Objs.set_other _ _ e] at hb; exact h.apart o' b hb
 ·by_cases e1:o1=o
  ·subst e1; rw [Objs.set_same] at h1; cases h1
  ·by_cases e2:o2=o
   ·subst e2; rw [Objs.set_same] at h2; cases h2
   ·rw [Objs.set_other _ _ e1] at h1; rw [Objs.set_other _ _ e2] at h2; exact h.inj _ _ b h1 h2
 ·by_cases e:o'=o
  ·subst e; rw [Objs.set_same]; simp [Store.del]; omega
  ·rw [Objs.set_other _ _ e]; exact h.fresh o'
 ·simp only [Store.del] at ho' ⊢;split
  ·rfl
  ·exact h.gone o' ho'
 ·simp only [Store.del] at ho' hn
  by_cases e:o'=o
  ·subst e; exact Objs.set_same _ _ _
  ·rw [Objs.set_other _ _ e];rw [if_neg e] at hn;exact h.dead o' ho' hn
 ·simp only [Store.del] at hc
  by_cases e:o'=o
  ·rw [if_pos e] at hc; cases hc
  ·rw [if_neg e] at hc;rw [Objs.set_other _ _ e];exact (h.live o' c hc).mono (fun _ _ h=>h) (Step.kill β o) (fun _ _=>rfl)
theorem Holds.new (h:Holds S m β w) {w':World} {l:Loc} {c:Nat × List V} (hl:l ≠ .fresh)
  (hi : ∀ b o,m b=some o->w'.heap[b]? = w.heap[b]?) (hb : ∀ o b,(β o).block? = some b->w'.heap[b]? = w.heap[b]?)
  (hfree : ∀ b,l.block? = some b->m b=none /\ ∀ o,(β o).block? ≠ some b) (hlive:Live m (β.set S.nx l) w' l c):Holds (S.add c) m (β.set S.nx l) w':=by
 have h':=h.world hi hb;refine ⟨h'.imm,fun o' b hb => ?_,fun o1 o2 b h1 h2 => ?_,fun o' => ?_,fun o' ho' => ?_,fun o' ho' hn => ?_,fun o' c' hc => ?_⟩
 ·by_cases e:o'=S.nx
  ·subst e; rw [Objs.set_same] at hb; exact (hfree b hb).1
  ·rw [Objs.set_other _ _ e] at hb; exact h.apart o' b hb
 ·by_cases e1:o1=S.nx
  ·by_cases e2:o2=S.nx
   ·rw [e1,e2]
   ·subst e1; rw [Objs.set_same] at h1; rw [Objs.set_other _ _ e2] at h2; exact absurd h2 ((hfree b h1).2 o2)
  ·by_cases e2:o2=S.nx
   ·subst e2; rw [Objs.set_same] at h2; rw [Objs.set_other _ _ e1] at h1; exact absurd h1 ((hfree b h2).2 o1)
   ·rw [Objs.set_other _ _ e1] at h1; rw [Objs.set_other _ _ e2] at h2; exact h.inj _ _ b h1 h2
 ·by_cases e:o'=S.nx
  ·subst e; rw [Objs.set_same]; simp only [Store.add]; exact ⟨fun h=>absurd h hl,fun h=>by omega⟩
  ·rw [Objs.set_other _ _ e,h.fresh o']; simp only [Store.add]; omega
 ·simp only [Store.add] at ho' ⊢;rw [if_neg (by omega)];exact h.gone o' (by omega)
 ·simp only [Store.add] at ho' hn
  by_cases e:o'=S.nx
  ·rw [if_pos e] at hn; cases hn
  ·rw [if_neg e] at hn;rw [Objs.set_other _ _ e];exact h.dead o' (by omega) hn
 ·simp only [Store.add] at hc
  by_cases e:o'=S.nx
  ·rw [if_pos e] at hc
   cases hc
   subst e; rw [Objs.set_same]; exact hlive
  ·rw [if_neg e] at hc;rw [Objs.set_other _ _ e];exact (h'.live o' c' hc).mono (fun _ _ h=>h) (Step.fresh h.nx_fresh l) (fun _ _=>rfl)
theorem Holds.write (h:Holds S m β w) {w':World} {o b:Nat} {c c':Nat × List V} (ho:S.get o=some c) (hob:(β o).block? = some b)
  (hw : ∀ k,k≠b->w'.heap[k]? = w.heap[k]?) (hlive:Live m β w' (β o) c'):Holds (S.upd o c') m β w':=by
 refine ⟨fun k x hk => ?_,h.apart,h.inj,h.fresh,fun o' ho' => ?_,fun o' ho' hn => ?_,fun o' c1 hc => ?_⟩
 ·by_cases e:k=b
  ·subst e; rw [h.apart o k hob] at hk; cases hk
  ·exact (hw k e).trans (h.imm k x hk)
 ·simp only [Store.upd] at ho' ⊢;have:=h.lt ho;rw [if_neg (by omega)];exact h.gone o' ho'
 ·simp only [Store.upd] at ho' hn
  by_cases e:o'=o
  ·rw [if_pos e] at hn; cases hn
  ·rw [if_neg e] at hn; exact h.dead o' ho' hn
 ·simp only [Store.upd] at hc
  by_cases e:o'=o
  ·rw [if_pos e] at hc; cases hc; subst e; exact hlive
  ·rw [if_neg e] at hc;refine (h.live o' c1 hc).mono (fun _ _ h=>h) (Step.refl β) fun k hk=>hw k fun e2 => ?_
   subst e2;exact e (h.inj o' o k hk hob)
theorem Holds.block_lt (h:Holds S m β w) {o b:Nat} (hb:(β o).block? = some b):b<w.heap.size:=by
 have hnf : ¬ S.nx<=o:=fun hle=>by rw [(h.fresh o).2 hle] at hb; cases hb
 cases hc:S.get o with
 | none=>rw [h.dead o (by omega) hc] at hb; cases hb
 | some c =>
  have hl:=h.live o c hc
  cases hβ:β o with
  | fresh=>rw [hβ] at hb; cases hb
  | dead=>rw [hβ] at hb; cases hb
  | void=>rw [hβ] at hb; cases hb
  | lies b' base s n =>
   rw [hβ] at hb hl
   cases hb
   obtain ⟨_,arr,T,h1,_⟩:=hl;exact (Array.getElem?_eq_some_iff.1 h1).1
  | mp b' =>
   rw [hβ] at hb hl
   cases hb
   obtain ⟨es,clock,h1,_⟩:=hl;exact (Array.getElem?_eq_some_iff.1 h1).1
theorem Holds.imm_lt (h:Holds S m β w) {b:Nat} {o} (hb:m b=some o):b<w.heap.size :=
 (Array.getElem?_eq_some_iff.1 (h.imm b o hb)).1
theorem Holds.alloc (h:Holds S m β w) (arr:Array Value) (T:TypeId) (s:Nat) (cells:List V) (hl:cells.length<=arr.size)
  (hr : ∀ (i:Nat) x,cells[i]? = some x -> ∃ v,arr[i]? = some v/\Rep m β x v/\v.oneCell'=true) :
  Holds (S.add (s,cells)) m (β.set S.nx (.lies w.heap.size 0 s arr.size)) (w.alloc (.cells arr T)) /\
  Ext m β w m (β.set S.nx (.lies w.heap.size 0 s arr.size)) (w.alloc (.cells arr T)) /\
  (β.set S.nx (.lies w.heap.size 0 s arr.size)) S.nx = .lies w.heap.size 0 s arr.size:=by
 have hst:Step β (β.set S.nx (.lies w.heap.size 0 s arr.size)):=Step.fresh h.nx_fresh _;have hold : ∀ k,k<w.heap.size->(w.alloc (.cells arr T)).heap[k]? = w.heap[k]? := fun k hk=>_root_.Go.heap_alloc_old w _ hk
 refine ⟨h.new (by intro h; cases h) (fun b o hb=>hold b (h.imm_lt hb)) (fun o b hb=>hold b (h.block_lt hb)) ?_ ?_,⟨fun _ _ h=>h,hst,by simp, ?_,rfl,rfl,rfl⟩,Objs.set_same _ _ _⟩
 ·intro b hb
  cases hb
  refine ⟨?_,fun o ho => ?_⟩
  ·cases hm:m w.heap.size with
   | none=>rfl
   | some o=>exact absurd (h.imm_lt hm) (Nat.lt_irrefl _)
  ·exact absurd (h.block_lt ho) (Nat.lt_irrefl _)
 ·refine ⟨rfl,arr,T,heap_alloc_new w _,rfl,by simpa using hl,fun i x hx => ?_⟩;obtain ⟨v,e1,e2,e3⟩:=hr i x hx;exact ⟨v,by simpa using e1,e2.mono (fun _ _ h=>h) hst,e3⟩
 ·intro b hb hm hn;refine ⟨hold b hb,hm,fun o ho => ?_⟩
  by_cases e:o=S.nx
  ·subst e; rw [Objs.set_same] at ho; simp only [Loc.block?,ay] at ho; omega
  ·rw [Objs.set_other _ _ e] at ho; exact hn o ho
theorem Holds.addVoid (h:Holds S m β w) (s:Nat):Holds (S.add (s,[])) m (β.set S.nx .void) w/\Ext m β w m (β.set S.nx .void) w/\(β.set S.nx .void) S.nx = .void:=by
 have hst:Step β (β.set S.nx .void):=Step.fresh h.nx_fresh _;refine ⟨h.new (by intro h; cases h) (fun _ _ _=>rfl) (fun _ _ _=>rfl) (by intro b hb; cases hb) rfl,⟨fun _ _ h=>h,hst,bf _,fun b hb hm hn=>⟨rfl,hm,fun o ho => ?_⟩,rfl,rfl,rfl⟩,Objs.set_same _ _ _⟩
 by_cases e:o=S.nx
 ·subst e; rw [Objs.set_same] at ho; cases ho
 ·rw [Objs.set_other _ _ e] at ho; exact hn o ho
theorem Holds.drew (h:Holds S m β w):Holds S m β w.drew:=h.world (fun _ _ _=>rfl) (fun _ _ _=>rfl)
theorem Ext.drew (m:Imm) (β:Objs) (w:World):Ext m β w m β w.drew:=⟨fun _ _ h=>h,Step.refl β,bf _,fun b _ h1 h2=>⟨rfl,h1,h2⟩,rfl,rfl,rfl⟩
theorem Holds.setRow (h:Holds S m β w) {o b base s n:Nat} {c:Nat × List V} (ho:S.get o=some c) (hob:β o = .lies b base s n) (arr':Array Value) (hn:arr'.size=n)
  (cells':List V) (hl:base+cells'.length<=n) (hr : ∀ (i:Nat) x,cells'[i]? = some x -> ∃ v,arr'[base+i]? = some v/\Rep m β x v/\v.oneCell'=true) :
  Holds (S.upd o (s,cells')) m β (w.setRow b arr')/\Ext m β w m β (w.setRow b arr'):=by
 have hbl:(β o).block? = some b:=by rw [hob]; rfl
 have hl0:=h.live o c ho;rw [hob] at hl0;obtain ⟨_,arr,T,h1,h2,h3,h4⟩:=hl0;refine ⟨h.write ho hbl (fun k hk=>setRow_other w b k arr' hk) ?_,⟨fun _ _ h=>h,Step.refl β,by simp,fun k hk hm hnn=>⟨setRow_other w b k arr' (fun e=>hnn o (by rw [hbl,e])),hm,hnn⟩,rfl,rfl,rfl⟩⟩;rw [hob];exact ⟨rfl,arr',T,setRow_heap w b arr arr' T (0,0) h1,hn,hl,hr⟩
end
end Go.Vw
