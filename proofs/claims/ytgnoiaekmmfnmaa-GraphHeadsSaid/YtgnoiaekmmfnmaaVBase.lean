import Derived.WalkKit
import Derived.Deep.Quiet
import Derived.BigQuiet
/-
  Values without addresses: the levels' bottom. What a Go value reads as, over an immutable part of the heap and objects of the call's own.
-/
set_option linter.unusedVariables false
namespace Go.Vw
open Go.RowKit

/-- A value as the walk sees it. -/
inductive V where
  | bool (b : Bool)
  | int (k : IntKind) (n : Int)
  | str (s : ByteArray)
  | nils
  | nilp
  | nilf
  | agg (xs : List V)
  | list (xs : List V)
  | ref (x : V)
  | slice (o off len : Nat)
  | ptr (o off : Nat)
  | func (f : FuncId) (caps : List V)
  | tuple (xs : List V)
  | map (o : Nat)
  | junk
deriving Inhabited

def V.cells : V → List V
  | .agg xs => xs
  | x => [x]

def V.ncells : V → Nat
  | .agg xs => xs.length
  | _ => 1

/-- May it stand in one cell? -/
def V.one : V → Bool
  | .agg _ | .tuple _ | .junk => false
  | _ => true

/-- Immutable memory: a part of the heap. -/
abbrev Imm := Nat → Option Obj

/-- What a value reads as, off immutable memory alone. -/
inductive RepI (m : Imm) : V → Value → Prop
  | bool (b) : RepI m (.bool b) (.bool b)
  | int (k n) : RepI m (.int k n) (.int k n)
  | str (s) : RepI m (.str s) (.string s)
  | nils (a) : RepI m .nils (.slice a 0 0)
  | nilp : RepI m .nilp (.pointer none)
  | nilf : RepI m .nilf .nilFunc
  | agg (xs : List V) (vs : List Value) (hl : xs.length = vs.length)
      (hr : ∀ (i : Nat) x v, xs[i]? = some x → vs[i]? = some v → RepI m x v) (h1 : ∀ v ∈ vs, v.oneCell' = true) : RepI m (.agg xs) (.agg vs.toArray)
  | list0 (a cap) (hc : cap ≤ maxLen) : RepI m (.list []) (.slice a 0 cap)
  | list (xs : List V) (vs : List Value) (b off cap s : Nat) (arr : Array Value) (T : TypeId) (fz : Nat × Nat)
      (hm : m b = some (.cells arr T fz)) (hl : xs.length = vs.length) (hc : xs.length ≤ cap) (hcm : cap ≤ maxLen)
      (hs : ∀ v ∈ vs, v.cells.size = s) (hr : ∀ (i : Nat) x v, xs[i]? = some x → vs[i]? = some v → RepI m x v)
      (hcells : ∀ (i : Nat) v (j : Nat) c, vs[i]? = some v → v.cells[j]? = some c → arr[off + i * s + j]? = some c) :
      RepI m (.list xs) (.slice (some ⟨b, off, none⟩) xs.length cap)
  | ref (x : V) (v : Value) (b off : Nat) (arr : Array Value) (T : TypeId) (fz : Nat × Nat)
      (hm : m b = some (.cells arr T fz)) (hr : RepI m x v) (hcells : ∀ (j : Nat) c, v.cells[j]? = some c → arr[off + j]? = some c) :
      RepI m (.ref x) (.pointer (some ⟨b, off, none⟩))

/-- Where an object lies. -/
inductive Loc where
  | fresh
  | dead
  | void
  | lies (b base s n : Nat)
  | mp (b : Nat)

def Loc.block? : Loc → Option Nat
  | .lies b _ _ _ => some b
  | .mp b => some b
  | _ => none

abbrev Objs := Nat → Loc

/-- What a value reads as. -/
inductive Rep (m : Imm) (β : Objs) : V → Value → Prop
  | imm {x v} (h : RepI m x v) : Rep m β x v
  | agg (xs : List V) (vs : List Value) (hl : xs.length = vs.length)
      (hr : ∀ (i : Nat) x v, xs[i]? = some x → vs[i]? = some v → Rep m β x v) (h1 : ∀ v ∈ vs, v.oneCell' = true) : Rep m β (.agg xs) (.agg vs.toArray)
  | tuple (xs : List V) (vs : List Value) (hl : xs.length = vs.length)
      (hr : ∀ (i : Nat) x v, xs[i]? = some x → vs[i]? = some v → Rep m β x v) : Rep m β (.tuple xs) (.tuple vs.toArray)
  | func (f : FuncId) (xs : List V) (vs : List Value) (hl : xs.length = vs.length)
      (hr : ∀ (i : Nat) x v, xs[i]? = some x → vs[i]? = some v → Rep m β x v) : Rep m β (.func f xs) (.func (.func f) #[] vs.toArray)
  | sliceDead (o off len v) (h : β o = .dead) (h1 : v.oneCell' = true) : Rep m β (.slice o off len) v
  | sliceVoid (o off a) (h : β o = .void) : Rep m β (.slice o off 0) (.slice a 0 0)
  | slice (o off len b base s n cap a) (h : β o = .lies b base s n) (hc : len ≤ cap) (hcm : cap ≤ maxLen)
      (ha : cap = 0 ∨ (a = some ⟨b, base + off, none⟩ ∧ base + off + cap * s ≤ n)) : Rep m β (.slice o off len) (.slice a len cap)
  | ptrDead (o off v) (h : β o = .dead) (h1 : v.oneCell' = true) : Rep m β (.ptr o off) v
  | ptr (o off b base s n) (h : β o = .lies b base s n) : Rep m β (.ptr o off) (.pointer (some ⟨b, base + off, none⟩))
  | mapDead (o v) (h : β o = .dead) (h1 : v.oneCell' = true) : Rep m β (.map o) v
  | map (o b) (h : β o = .mp b) : Rep m β (.map o) (.map (some b))
  | junk (v) : Rep m β .junk v

theorem RepI.mono {m m' : Imm} (hm : ∀ b o, m b = some o → m' b = some o) {x : V} {v : Value} (h : RepI m x v) : RepI m' x v := by
  induction h with
  | bool b => exact .bool b
  | int k n => exact .int k n
  | str s => exact .str s
  | nils a => exact .nils a
  | nilp => exact .nilp
  | nilf => exact .nilf
  | agg xs vs hl hr h1 ih => exact .agg xs vs hl ih h1
  | list0 a cap hc => exact .list0 a cap hc
  | list xs vs b off cap s arr T fz hm' hl hc hcm hs hr hcells ih => exact .list xs vs b off cap s arr T fz (hm _ _ hm') hl hc hcm hs ih hcells
  | ref x v b off arr T fz hm' hr hcells ih => exact .ref x v b off arr T fz (hm _ _ hm') ih hcells

/-- A step of the objects: what was there is where it was, or is dead. -/
def Step (β β' : Objs) : Prop := ∀ o, β o ≠ .fresh → β' o = β o ∨ β' o = .dead

theorem Step.refl (β : Objs) : Step β β := fun _ _ => .inl rfl
theorem Step.trans {a b c : Objs} (h : Step a b) (k : Step b c) : Step a c := by
  intro o ho
  rcases h o ho with h1 | h1
  · rcases k o (by rw [h1]; exact ho) with k1 | k1
    · exact .inl (k1.trans h1)
    · exact .inr k1
  · rcases k o (by rw [h1]; exact Loc.noConfusion) with k1 | k1
    · exact .inr (k1.trans h1)
    · exact .inr k1

theorem Rep.oneCell {m : Imm} {β : Objs} {x : V} {v : Value} (h : Rep m β x v) (h1 : x.one = true) : v.oneCell' = true := by
  cases h with
  | imm h => cases h <;> first | rfl | (simp [V.one] at h1)
  | agg | tuple | junk => simp [V.one] at h1
  | func => rfl
  | sliceDead _ _ _ _ _ h => exact h
  | sliceVoid => rfl
  | slice => rfl
  | ptrDead _ _ _ _ h => exact h
  | ptr => rfl
  | mapDead _ _ _ h => exact h
  | map => rfl

theorem Rep.mono {m m' : Imm} {β β' : Objs} (hm : ∀ b o, m b = some o → m' b = some o) (hβ : Step β β') {x : V} {v : Value} (h : Rep m β x v) : Rep m' β' x v := by
  induction h with
  | imm h => exact .imm (h.mono hm)
  | agg xs vs hl hr h1 ih => exact .agg xs vs hl ih h1
  | tuple xs vs hl hr ih => exact .tuple xs vs hl ih
  | func f xs vs hl hr ih => exact .func f xs vs hl ih
  | sliceDead o off len v h h1 =>
    rcases hβ o (by rw [h]; exact Loc.noConfusion) with h' | h'
    · exact .sliceDead o off len v (h'.trans h) h1
    · exact .sliceDead o off len v h' h1
  | sliceVoid o off a h =>
    rcases hβ o (by rw [h]; exact Loc.noConfusion) with h' | h'
    · exact .sliceVoid o off a (h'.trans h)
    · exact .sliceDead o off 0 _ h' rfl
  | slice o off len b base s n cap a h hc hcm ha =>
    rcases hβ o (by rw [h]; exact Loc.noConfusion) with h' | h'
    · exact .slice o off len b base s n cap a (h'.trans h) hc hcm ha
    · exact .sliceDead o off len _ h' rfl
  | ptrDead o off v h h1 =>
    rcases hβ o (by rw [h]; exact Loc.noConfusion) with h' | h'
    · exact .ptrDead o off v (h'.trans h) h1
    · exact .ptrDead o off v h' h1
  | ptr o off b base s n h =>
    rcases hβ o (by rw [h]; exact Loc.noConfusion) with h' | h'
    · exact .ptr o off b base s n (h'.trans h)
    · exact .ptrDead o off _ h' rfl
  | mapDead o v h h1 =>
    rcases hβ o (by rw [h]; exact Loc.noConfusion) with h' | h'
    · exact .mapDead o v (h'.trans h) h1
    · exact .mapDead o v h' h1
  | map o b h =>
    rcases hβ o (by rw [h]; exact Loc.noConfusion) with h' | h'
    · exact .map o b (h'.trans h)
    · exact .mapDead o _ h' rfl
  | junk v => exact .junk v

/-- Cells of a value read as the value's cells. -/
theorem RepI.cells_size {m : Imm} {x : V} {v : Value} (h : RepI m x v) : v.cells.size = x.ncells := by
  cases h <;> simp [Value.cells, V.ncells, *]

/-- The store: what each object holds. -/
structure Store where
  get : Nat → Option (Nat × List V)
  nx : Nat

/-- One entry of a map. -/
def EntryRep (m : Imm) (β : Objs) (c : V) (e : MapEntry) : Prop :=
  ∃ k v, c = .tuple [k, v] ∧ RepI m k e.key ∧ Rep m β v e.val ∧ v.one = true

/-- An object's cells lie there. -/
def Live (m : Imm) (β : Objs) (w : World) : Loc → Nat × List V → Prop
  | .void, c => c.2 = []
  | .lies b base s n, c => c.1 = s ∧ ∃ arr T, w.heap[b]? = some (.cells arr T (0, 0)) ∧ arr.size = n ∧ base + c.2.length ≤ n ∧
      ∀ (i : Nat) x, c.2[i]? = some x → ∃ v, arr[base + i]? = some v ∧ Rep m β x v ∧ v.oneCell' = true
  | .mp b, c => ∃ es clock, w.heap[b]? = some (.map es clock) ∧ c.2.length = es.size ∧ (∀ (i : Nat) (x : V) (e : MapEntry), c.2[i]? = some x → es[i]? = some e → EntryRep m β x e)
  | _, _ => False

structure Holds (S : Store) (m : Imm) (β : Objs) (w : World) : Prop where
  imm : ∀ b o, m b = some o → w.heap[b]? = some o
  apart : ∀ o b, (β o).block? = some b → m b = none
  inj : ∀ o o' b, (β o).block? = some b → (β o').block? = some b → o = o'
  fresh : ∀ o, β o = .fresh ↔ S.nx ≤ o
  gone : ∀ o, S.nx ≤ o → S.get o = none
  dead : ∀ o, o < S.nx → S.get o = none → β o = .dead
  live : ∀ o cells, S.get o = some cells → Live m β w (β o) cells

structure Ext (m : Imm) (β : Objs) (w : World) (m' : Imm) (β' : Objs) (w' : World) : Prop where
  imm : ∀ b o, m b = some o → m' b = some o
  step : Step β β'
  size : w.heap.size ≤ w'.heap.size
  keep : ∀ b, b < w.heap.size → m b = none → (∀ o, (β o).block? ≠ some b) → w'.heap[b]? = w.heap[b]? ∧ m' b = none ∧ (∀ o, (β' o).block? ≠ some b)
  os : w'.os = w.os
  tape : w'.tape = w.tape
  output : w'.output = w.output

theorem Ext.refl (m : Imm) (β : Objs) (w : World) : Ext m β w m β w :=
  ⟨fun _ _ h => h, Step.refl β, Nat.le_refl _, fun b _ h1 h2 => ⟨rfl, h1, h2⟩, rfl, rfl, rfl⟩

theorem Ext.trans {m m' m'' : Imm} {β β' β'' : Objs} {w w' w'' : World} (h : Ext m β w m' β' w') (k : Ext m' β' w' m'' β'' w'') : Ext m β w m'' β'' w'' := by
  refine ⟨fun b o hb => k.imm b o (h.imm b o hb), h.step.trans k.step, Nat.le_trans h.size k.size, fun b hb h1 h2 => ?_, k.os.trans h.os, k.tape.trans h.tape, k.output.trans h.output⟩
  obtain ⟨e1, e2, e3⟩ := h.keep b hb h1 h2
  obtain ⟨f1, f2, f3⟩ := k.keep b (Nat.lt_of_lt_of_le hb h.size) e2 e3
  exact ⟨f1.trans e1, f2, f3⟩

theorem Ext.rep {m m' : Imm} {β β' : Objs} {w w' : World} (h : Ext m β w m' β' w') {x : V} {v : Value} (hr : Rep m β x v) : Rep m' β' x v := hr.mono h.imm h.step

/-- .. where the objects from b on may be named anew. -/
structure ExtB (b : Nat) (m : Imm) (β : Objs) (w : World) (m' : Imm) (β' : Objs) (w' : World) : Prop where
  imm : ∀ b o, m b = some o → m' b = some o
  step : ∀ o, o < b → β o ≠ .fresh → β' o = β o ∨ β' o = .dead
  size : w.heap.size ≤ w'.heap.size
  keep : ∀ b, b < w.heap.size → m b = none → (∀ o, (β o).block? ≠ some b) → w'.heap[b]? = w.heap[b]? ∧ m' b = none ∧ (∀ o, (β' o).block? ≠ some b)
  os : w'.os = w.os
  tape : w'.tape = w.tape
  output : w'.output = w.output

theorem Ext.toB {m m' : Imm} {β β' : Objs} {w w' : World} (h : Ext m β w m' β' w') (b : Nat) : ExtB b m β w m' β' w' :=
  ⟨h.imm, fun o _ ho => h.step o ho, h.size, h.keep, h.os, h.tape, h.output⟩

theorem ExtB.refl (b : Nat) (m : Imm) (β : Objs) (w : World) : ExtB b m β w m β w := (Ext.refl m β w).toB b

theorem ExtB.trans {b : Nat} {m m' m'' : Imm} {β β' β'' : Objs} {w w' w'' : World} (h : ExtB b m β w m' β' w') (k : ExtB b m' β' w' m'' β'' w'') : ExtB b m β w m'' β'' w'' := by
  refine ⟨fun b o hb => k.imm b o (h.imm b o hb), fun o hob ho => ?_, Nat.le_trans h.size k.size, fun b hb h1 h2 => ?_, k.os.trans h.os, k.tape.trans h.tape, k.output.trans h.output⟩
  · rcases h.step o hob ho with h1 | h1
    · rcases k.step o hob (by rw [h1]; exact ho) with k1 | k1
      · exact .inl (k1.trans h1)
      · exact .inr k1
    · rcases k.step o hob (by rw [h1]; exact Loc.noConfusion) with k1 | k1
      · exact .inr (k1.trans h1)
      · exact .inr k1
  · obtain ⟨e1, e2, e3⟩ := h.keep b hb h1 h2
    obtain ⟨f1, f2, f3⟩ := k.keep b (Nat.lt_of_lt_of_le hb h.size) e2 e3
    exact ⟨f1.trans e1, f2, f3⟩

/-! ### Frames -/
abbrev Fr := List (Nat × V)

def Fr.look : Fr → Nat → V
  | [], _ => .junk
  | (k, v) :: r, t => if t = k then v else Fr.look r t

def Fr.set : Fr → Nat → V → Fr
  | [], t, x => [(t, x)]
  | (k, v) :: r, t, x => if t = k then (k, x) :: r else (k, v) :: Fr.set r t x

theorem Fr.look_set (σ : Fr) (t : Nat) (x : V) (u : Nat) : (σ.set t x).look u = if u = t then x else σ.look u := by
  induction σ with
  | nil => simp [Fr.set, Fr.look]
  | cons p r ih =>
    obtain ⟨k, v⟩ := p
    simp only [Fr.set]
    split
    · rename_i h; subst h; simp only [Fr.look]; split <;> simp_all
    · simp only [Fr.look, ih]; split
      · rename_i h1 h2; subst h2; rw [if_neg (fun e => h1 e.symm)]
      · rfl

def Fr.put (σ : Fr) : Option Nat → V → Fr
  | some d, x => σ.set d x
  | none, _ => σ

/-- Only these slots. -/
def Fr.only (σ : Fr) (ks : List Nat) : Fr := ks.map fun k => (k, σ.look k)

theorem Fr.look_only (σ : Fr) (ks : List Nat) (t : Nat) : (σ.only ks).look t = if t ∈ ks then σ.look t else .junk := by
  induction ks with
  | nil => simp [Fr.only, Fr.look]
  | cons k r ih =>
    simp only [Fr.only, List.map_cons, Fr.look] at ih ⊢
    by_cases h : t = k
    · subst h; simp
    · simp only [h, if_false, ih, List.mem_cons, false_or]

structure FrameRep (N : Nat) (m : Imm) (β : Objs) (σ : Fr) (a : Act) : Prop where
  size : a.tmps.size = N
  defers : a.defers = []
  rep : ∀ t, Rep m β (σ.look t) (a.tmps.getD t undef)

theorem FrameRep.mono {N : Nat} {m m' : Imm} {β β' : Objs} {σ : Fr} {a : Act} (h : FrameRep N m β σ a) (hm : ∀ b o, m b = some o → m' b = some o) (hβ : Step β β') : FrameRep N m' β' σ a :=
  ⟨h.size, h.defers, fun t => (h.rep t).mono hm hβ⟩

theorem FrameRep.ext {N : Nat} {m m' : Imm} {β β' : Objs} {w w' : World} {σ : Fr} {a : Act} (h : FrameRep N m β σ a) (he : Ext m β w m' β' w') : FrameRep N m' β' σ a := h.mono he.imm he.step

theorem FrameRep.only {N : Nat} {m : Imm} {β : Objs} {σ : Fr} {a : Act} (h : FrameRep N m β σ a) (ks : List Nat) : FrameRep N m β (σ.only ks) a :=
  ⟨h.size, h.defers, fun t => by rw [Fr.look_only]; split; exact h.rep t; exact .junk _⟩

theorem FrameRep.put {N : Nat} {m : Imm} {β : Objs} {σ : Fr} {a : Act} (h : FrameRep N m β σ a) (d : Option Nat) (hd : ∀ t, d = some t → t < N) {x : V} {v : Value} (hx : Rep m β x v) : FrameRep N m β (σ.put d x) (a.put d v) := by
  cases d with
  | none => exact h
  | some t =>
    refine ⟨by simp [Act.put, h.size], by simp [Act.put, h.defers], fun u => ?_⟩
    have hlt := hd t rfl
    simp only [Fr.put, Fr.look_set, Act.put]
    split
    · rename_i e; subst e
      have : (a.tmps.setIfInBounds u v).getD u undef = v := by simp [Array.getD, h.size, hlt]
      rw [this]; exact hx
    · rename_i e
      have : (a.tmps.setIfInBounds t v).getD u undef = a.tmps.getD u undef := by
        simp only [Array.getD_eq_getD_getElem?, Array.getElem?_setIfInBounds]
        rw [if_neg (fun h => e h.symm)]
      rw [this]; exact h.rep u

/-! ### Calls -/
def RepL (m : Imm) (β : Objs) (xs : List V) (vs : List Value) : Prop :=
  xs.length = vs.length ∧ ∀ (i : Nat) x v, xs[i]? = some x → vs[i]? = some v → Rep m β x v

theorem RepL.nil (m : Imm) (β : Objs) : RepL m β [] [] := ⟨rfl, by simp⟩
theorem RepL.cons {m : Imm} {β : Objs} {x : V} {v : Value} {xs : List V} {vs : List Value} (h : Rep m β x v) (hs : RepL m β xs vs) : RepL m β (x :: xs) (v :: vs) := by
  refine ⟨by simp [hs.1], fun i y u hy hu => ?_⟩
  cases i with
  | zero => simp at hy hu; subst hy; subst hu; exact h
  | succ i => simp at hy hu; exact hs.2 i y u hy hu
theorem RepL.mono {m m' : Imm} {β β' : Objs} (hm : ∀ b o, m b = some o → m' b = some o) (hβ : Step β β') {xs : List V} {vs : List Value} (h : RepL m β xs vs) : RepL m' β' xs vs :=
  ⟨h.1, fun i x v hx hv => (h.2 i x v hx hv).mono hm hβ⟩
theorem RepL.append {m : Imm} {β : Objs} {xs ys : List V} {vs us : List Value} (h : RepL m β xs vs) (k : RepL m β ys us) : RepL m β (xs ++ ys) (vs ++ us) := by
  refine ⟨by simp [h.1, k.1], fun i x v hx hv => ?_⟩
  rw [List.getElem?_append] at hx hv
  rw [← h.1] at hv
  split at hx
  · rename_i hi; rw [if_pos hi] at hv; exact h.2 i x v hx hv
  · rename_i hi; rw [if_neg hi] at hv; exact k.2 _ x v hx hv

def VCalls (P : Program) (f : FuncId) (args : List V) (S : Store) (Q : V → Store → Prop) : Prop :=
  ∀ m β w vs, Holds S m β w → RepL m β args vs → Calls P f vs.toArray w fun e w' =>
    ∃ v x S' m' β', e = .returned v ∧ Q x S' ∧ Rep m' β' x v ∧ Holds S' m' β' w' ∧ Ext m β w m' β' w'

theorem VCalls.mono {P : Program} {f : FuncId} {args : List V} {S : Store} {Q Q' : V → Store → Prop} (h : VCalls P f args S Q) (hq : ∀ x S', Q x S' → Q' x S') : VCalls P f args S Q' :=
  fun m β w vs hS hr => (h m β w vs hS hr).mono fun e w' ⟨v, x, S', m', β', he, hQ, rest⟩ => ⟨v, x, S', m', β', he, hq _ _ hQ, rest⟩

end Go.Vw
