import Derived.Test.YtgnoiaekmmfnmaaVBase
/-
  Steps of the store: a new object, an object dropped, an object written.
-/
set_option linter.unusedVariables false
namespace Go.Vw
open Go.RowKit

def Store.upd (S : Store) (o : Nat) (c : Nat × List V) : Store := ⟨fun o' => if o' = o then some c else S.get o', S.nx⟩
def Store.del (S : Store) (o : Nat) : Store := ⟨fun o' => if o' = o then none else S.get o', S.nx⟩
def Store.add (S : Store) (c : Nat × List V) : Store := ⟨fun o' => if o' = S.nx then some c else S.get o', S.nx + 1⟩

/-- A part of the store. -/
def Store.Sub (Z S : Store) : Prop := ∀ o c, Z.get o = some c → S.get o = some c

theorem Store.ext' {S S' : Store} (h1 : S.get = S'.get) (h2 : S.nx = S'.nx) : S = S' := by cases S; cases S'; simp_all

def Objs.set (β : Objs) (o : Nat) (l : Loc) : Objs := fun o' => if o' = o then l else β o'

theorem Objs.set_same (β : Objs) (o : Nat) (l : Loc) : β.set o l o = l := by simp [Objs.set]
theorem Objs.set_other (β : Objs) {o o' : Nat} (l : Loc) (h : o' ≠ o) : β.set o l o' = β o' := by simp [Objs.set, h]

theorem Step.fresh {β : Objs} {o : Nat} (h : β o = .fresh) (l : Loc) : Step β (β.set o l) := by
  intro o' ho
  by_cases e : o' = o
  · subst e; exact absurd h ho
  · exact .inl (Objs.set_other β l e)

theorem Step.kill (β : Objs) (o : Nat) : Step β (β.set o .dead) := by
  intro o' ho
  by_cases e : o' = o
  · subst e; exact .inr (Objs.set_same _ _ _)
  · exact .inl (Objs.set_other β _ e)

section
variable {S : Store} {m : Imm} {β : Objs} {w : World}

theorem Holds.lt (h : Holds S m β w) {o : Nat} {c} (ho : S.get o = some c) : o < S.nx := by
  rcases Nat.lt_or_ge o S.nx with h' | h'
  · exact h'
  · rw [h.gone o h'] at ho; cases ho

theorem Holds.nx_fresh (h : Holds S m β w) : β S.nx = .fresh := (h.fresh S.nx).2 (Nat.le_refl _)

theorem EntryRep.mono {m' : Imm} {β' : Objs} (hm : ∀ b o, m b = some o → m' b = some o) (hβ : Step β β') {c : V} {e : MapEntry} (h : EntryRep m β c e) : EntryRep m' β' c e := by
  obtain ⟨k, v, h1, h2, h3, h4⟩ := h
  exact ⟨k, v, h1, h2.mono hm, h3.mono hm hβ, h4⟩

/-- What is alive stays so, in a world whose block of it is the same. -/
theorem Live.mono {m' : Imm} {β' : Objs} {w' : World} (hm : ∀ b o, m b = some o → m' b = some o) (hβ : Step β β') {l : Loc} {c} (hw : ∀ b, l.block? = some b → w'.heap[b]? = w.heap[b]?) (h : Live m β w l c) : Live m' β' w' l c := by
  cases l with
  | fresh => exact h
  | dead => exact h
  | void => exact h
  | lies b base s n =>
    obtain ⟨h0, arr, T, h1, h2, h3, h4⟩ := h
    refine ⟨h0, arr, T, (hw b rfl).trans h1, h2, h3, fun i x hx => ?_⟩
    obtain ⟨v, e1, e2, e3⟩ := h4 i x hx
    exact ⟨v, e1, e2.mono hm hβ, e3⟩
  | mp b =>
    obtain ⟨es, clock, h1, h2, h3⟩ := h
    exact ⟨es, clock, (hw b rfl).trans h1, h2, fun i x e hx he => (h3 i x e hx he).mono hm hβ⟩

/-- The world may move where nothing is that counts. -/
theorem Holds.world (h : Holds S m β w) {w' : World} (hi : ∀ b o, m b = some o → w'.heap[b]? = w.heap[b]?) (hb : ∀ o b, (β o).block? = some b → w'.heap[b]? = w.heap[b]?) : Holds S m β w' :=
  ⟨fun b o hb' => (hi b o hb').trans (h.imm b o hb'), h.apart, h.inj, h.fresh, h.gone, h.dead, fun o c ho => (h.live o c ho).mono (fun _ _ h => h) (Step.refl β) (hb o)⟩

/-- An object dropped. -/
theorem Holds.drop (h : Holds S m β w) (o : Nat) (ho : o < S.nx) : Holds (S.del o) m (β.set o .dead) w := by
  refine ⟨h.imm, fun o' b hb => ?_, fun o1 o2 b h1 h2 => ?_, fun o' => ?_, fun o' ho' => ?_, fun o' ho' hn => ?_, fun o' c hc => ?_⟩
  · by_cases e : o' = o
    · subst e; rw [Objs.set_same] at hb; cases hb
    · rw [Objs.set_other _ _ e] at hb; exact h.apart o' b hb
  · by_cases e1 : o1 = o
    · subst e1; rw [Objs.set_same] at h1; cases h1
    · by_cases e2 : o2 = o
      · subst e2; rw [Objs.set_same] at h2; cases h2
      · rw [Objs.set_other _ _ e1] at h1; rw [Objs.set_other _ _ e2] at h2; exact h.inj _ _ b h1 h2
  · by_cases e : o' = o
    · subst e; rw [Objs.set_same]; simp [Store.del]; omega
    · rw [Objs.set_other _ _ e]; exact h.fresh o'
  · simp only [Store.del] at ho' ⊢
    split
    · rfl
    · exact h.gone o' ho'
  · simp only [Store.del] at ho' hn
    by_cases e : o' = o
    · subst e; exact Objs.set_same _ _ _
    · rw [Objs.set_other _ _ e]
      rw [if_neg e] at hn
      exact h.dead o' ho' hn
  · simp only [Store.del] at hc
    by_cases e : o' = o
    · rw [if_pos e] at hc; cases hc
    · rw [if_neg e] at hc
      rw [Objs.set_other _ _ e]
      exact (h.live o' c hc).mono (fun _ _ h => h) (Step.kill β o) (fun _ _ => rfl)

/-- A new object, in a world that has it. -/
theorem Holds.new (h : Holds S m β w) {w' : World} {l : Loc} {c : Nat × List V} (hl : l ≠ .fresh)
    (hi : ∀ b o, m b = some o → w'.heap[b]? = w.heap[b]?) (hb : ∀ o b, (β o).block? = some b → w'.heap[b]? = w.heap[b]?)
    (hfree : ∀ b, l.block? = some b → m b = none ∧ ∀ o, (β o).block? ≠ some b) (hlive : Live m (β.set S.nx l) w' l c) : Holds (S.add c) m (β.set S.nx l) w' := by
  have h' := h.world hi hb
  refine ⟨h'.imm, fun o' b hb => ?_, fun o1 o2 b h1 h2 => ?_, fun o' => ?_, fun o' ho' => ?_, fun o' ho' hn => ?_, fun o' c' hc => ?_⟩
  · by_cases e : o' = S.nx
    · subst e; rw [Objs.set_same] at hb; exact (hfree b hb).1
    · rw [Objs.set_other _ _ e] at hb; exact h.apart o' b hb
  · by_cases e1 : o1 = S.nx
    · by_cases e2 : o2 = S.nx
      · rw [e1, e2]
      · subst e1; rw [Objs.set_same] at h1; rw [Objs.set_other _ _ e2] at h2; exact absurd h2 ((hfree b h1).2 o2)
    · by_cases e2 : o2 = S.nx
      · subst e2; rw [Objs.set_same] at h2; rw [Objs.set_other _ _ e1] at h1; exact absurd h1 ((hfree b h2).2 o1)
      · rw [Objs.set_other _ _ e1] at h1; rw [Objs.set_other _ _ e2] at h2; exact h.inj _ _ b h1 h2
  · by_cases e : o' = S.nx
    · subst e; rw [Objs.set_same]; simp only [Store.add]; exact ⟨fun h => absurd h hl, fun h => by omega⟩
    · rw [Objs.set_other _ _ e, h.fresh o']; simp only [Store.add]; omega
  · simp only [Store.add] at ho' ⊢
    rw [if_neg (by omega)]
    exact h.gone o' (by omega)
  · simp only [Store.add] at ho' hn
    by_cases e : o' = S.nx
    · rw [if_pos e] at hn; cases hn
    · rw [if_neg e] at hn
      rw [Objs.set_other _ _ e]
      exact h.dead o' (by omega) hn
  · simp only [Store.add] at hc
    by_cases e : o' = S.nx
    · rw [if_pos e] at hc
      cases hc
      subst e; rw [Objs.set_same]; exact hlive
    · rw [if_neg e] at hc
      rw [Objs.set_other _ _ e]
      exact (h'.live o' c' hc).mono (fun _ _ h => h) (Step.fresh h.nx_fresh l) (fun _ _ => rfl)

/-- An object written: its block alone has moved. -/
theorem Holds.write (h : Holds S m β w) {w' : World} {o b : Nat} {c c' : Nat × List V} (ho : S.get o = some c) (hob : (β o).block? = some b)
    (hw : ∀ k, k ≠ b → w'.heap[k]? = w.heap[k]?) (hlive : Live m β w' (β o) c') : Holds (S.upd o c') m β w' := by
  refine ⟨fun k x hk => ?_, h.apart, h.inj, h.fresh, fun o' ho' => ?_, fun o' ho' hn => ?_, fun o' c1 hc => ?_⟩
  · by_cases e : k = b
    · subst e; rw [h.apart o k hob] at hk; cases hk
    · exact (hw k e).trans (h.imm k x hk)
  · simp only [Store.upd] at ho' ⊢
    have := h.lt ho
    rw [if_neg (by omega)]
    exact h.gone o' ho'
  · simp only [Store.upd] at ho' hn
    by_cases e : o' = o
    · rw [if_pos e] at hn; cases hn
    · rw [if_neg e] at hn; exact h.dead o' ho' hn
  · simp only [Store.upd] at hc
    by_cases e : o' = o
    · rw [if_pos e] at hc; cases hc; subst e; exact hlive
    · rw [if_neg e] at hc
      refine (h.live o' c1 hc).mono (fun _ _ h => h) (Step.refl β) fun k hk => hw k fun e2 => ?_
      subst e2
      exact e (h.inj o' o k hk hob)

/-- The block of a live object is there. -/
theorem Holds.block_lt (h : Holds S m β w) {o b : Nat} (hb : (β o).block? = some b) : b < w.heap.size := by
  have hnf : ¬ S.nx ≤ o := fun hle => by rw [(h.fresh o).2 hle] at hb; cases hb
  cases hc : S.get o with
  | none => rw [h.dead o (by omega) hc] at hb; cases hb
  | some c =>
    have hl := h.live o c hc
    cases hβ : β o with
    | fresh => rw [hβ] at hb; cases hb
    | dead => rw [hβ] at hb; cases hb
    | void => rw [hβ] at hb; cases hb
    | lies b' base s n =>
      rw [hβ] at hb hl
      cases hb
      obtain ⟨_, arr, T, h1, _⟩ := hl
      exact (Array.getElem?_eq_some_iff.1 h1).1
    | mp b' =>
      rw [hβ] at hb hl
      cases hb
      obtain ⟨es, clock, h1, _⟩ := hl
      exact (Array.getElem?_eq_some_iff.1 h1).1

theorem Holds.imm_lt (h : Holds S m β w) {b : Nat} {o} (hb : m b = some o) : b < w.heap.size :=
  (Array.getElem?_eq_some_iff.1 (h.imm b o hb)).1

/-- A new block of cells. -/
theorem Holds.alloc (h : Holds S m β w) (arr : Array Value) (T : TypeId) (s : Nat) (cells : List V) (hl : cells.length ≤ arr.size)
    (hr : ∀ (i : Nat) x, cells[i]? = some x → ∃ v, arr[i]? = some v ∧ Rep m β x v ∧ v.oneCell' = true) :
    Holds (S.add (s, cells)) m (β.set S.nx (.lies w.heap.size 0 s arr.size)) (w.alloc (.cells arr T)) ∧
    Ext m β w m (β.set S.nx (.lies w.heap.size 0 s arr.size)) (w.alloc (.cells arr T)) ∧
    (β.set S.nx (.lies w.heap.size 0 s arr.size)) S.nx = .lies w.heap.size 0 s arr.size := by
  have hst : Step β (β.set S.nx (.lies w.heap.size 0 s arr.size)) := Step.fresh h.nx_fresh _
  have hold : ∀ k, k < w.heap.size → (w.alloc (.cells arr T)).heap[k]? = w.heap[k]? := fun k hk => _root_.Go.heap_alloc_old w _ hk
  refine ⟨h.new (by intro h; cases h) (fun b o hb => hold b (h.imm_lt hb)) (fun o b hb => hold b (h.block_lt hb)) ?_ ?_, ⟨fun _ _ h => h, hst, by simp, ?_, rfl, rfl, rfl⟩, Objs.set_same _ _ _⟩
  · intro b hb
    cases hb
    refine ⟨?_, fun o ho => ?_⟩
    · cases hm : m w.heap.size with
      | none => rfl
      | some o => exact absurd (h.imm_lt hm) (Nat.lt_irrefl _)
    · exact absurd (h.block_lt ho) (Nat.lt_irrefl _)
  · refine ⟨rfl, arr, T, heap_alloc_new w _, rfl, by simpa using hl, fun i x hx => ?_⟩
    obtain ⟨v, e1, e2, e3⟩ := hr i x hx
    exact ⟨v, by simpa using e1, e2.mono (fun _ _ h => h) hst, e3⟩
  · intro b hb hm hn
    refine ⟨hold b hb, hm, fun o ho => ?_⟩
    by_cases e : o = S.nx
    · subst e; rw [Objs.set_same] at ho; simp only [Loc.block?, Option.some.injEq] at ho; omega
    · rw [Objs.set_other _ _ e] at ho; exact hn o ho

/-- An object without a block. -/
theorem Holds.addVoid (h : Holds S m β w) (s : Nat) : Holds (S.add (s, [])) m (β.set S.nx .void) w ∧ Ext m β w m (β.set S.nx .void) w ∧ (β.set S.nx .void) S.nx = .void := by
  have hst : Step β (β.set S.nx .void) := Step.fresh h.nx_fresh _
  refine ⟨h.new (by intro h; cases h) (fun _ _ _ => rfl) (fun _ _ _ => rfl) (by intro b hb; cases hb) rfl, ⟨fun _ _ h => h, hst, Nat.le_refl _, fun b hb hm hn => ⟨rfl, hm, fun o ho => ?_⟩, rfl, rfl, rfl⟩, Objs.set_same _ _ _⟩
  by_cases e : o = S.nx
  · subst e; rw [Objs.set_same] at ho; cases ho
  · rw [Objs.set_other _ _ e] at ho; exact hn o ho

theorem Holds.drew (h : Holds S m β w) : Holds S m β w.drew := h.world (fun _ _ _ => rfl) (fun _ _ _ => rfl)
theorem Ext.drew (m : Imm) (β : Objs) (w : World) : Ext m β w m β w.drew := ⟨fun _ _ h => h, Step.refl β, Nat.le_refl _, fun b _ h1 h2 => ⟨rfl, h1, h2⟩, rfl, rfl, rfl⟩

/-- A row of an object's own block written. -/
theorem Holds.setRow (h : Holds S m β w) {o b base s n : Nat} {c : Nat × List V} (ho : S.get o = some c) (hob : β o = .lies b base s n) (arr' : Array Value) (hn : arr'.size = n)
    (cells' : List V) (hl : base + cells'.length ≤ n) (hr : ∀ (i : Nat) x, cells'[i]? = some x → ∃ v, arr'[base + i]? = some v ∧ Rep m β x v ∧ v.oneCell' = true) :
    Holds (S.upd o (s, cells')) m β (w.setRow b arr') ∧ Ext m β w m β (w.setRow b arr') := by
  have hbl : (β o).block? = some b := by rw [hob]; rfl
  have hl0 := h.live o c ho
  rw [hob] at hl0
  obtain ⟨_, arr, T, h1, h2, h3, h4⟩ := hl0
  refine ⟨h.write ho hbl (fun k hk => setRow_other w b k arr' hk) ?_, ⟨fun _ _ h => h, Step.refl β, by simp, fun k hk hm hnn => ⟨setRow_other w b k arr' (fun e => hnn o (by rw [hbl, e])), hm, hnn⟩, rfl, rfl, rfl⟩⟩
  rw [hob]
  exact ⟨rfl, arr', T, setRow_heap w b arr arr' T (0, 0) h1, hn, hl, hr⟩
end

end Go.Vw
