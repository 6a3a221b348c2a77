import Derived.Test.YtmfpoangempgaaaC1
/-
  Part of the proof (texts VSound).
-/
set_option linter.unusedVariables false
set_option linter.unusedSimpArgs false
/-
  Each operation over values without addresses is the model's.
-/
namespace Go.Vw
open Go.RowKit

theorem constV1_rep {m : Imm} {v : Value} {x : V} (h : constV1 v = some x) : RepI m x v := by
  unfold constV1 at h
  split at h <;> first | (cases h; first | exact .bool _ | exact .int _ _ | exact .str _ | exact .nils _ | exact .nilp | exact .nilf) | cases h

theorem constV1_one {v : Value} {x : V} (h : constV1 v = some x) : v.oneCell' = true ∧ x.one = true := by
  unfold constV1 at h
  split at h <;> first | (cases h; exact ⟨rfl, rfl⟩) | cases h

theorem mapM_get {α β : Type} {f : α → Option β} {l : List α} {r : List β} (h : l.mapM f = some r) : l.length = r.length ∧ ∀ (i : Nat) a b, l[i]? = some a → r[i]? = some b → f a = some b := by
  induction l generalizing r with
  | nil => simp at h; subst h; simp
  | cons a l ih =>
    simp only [List.mapM_cons, Option.bind_eq_bind, Option.bind_eq_some_iff] at h
    obtain ⟨b, hb, r', hr', h⟩ := h
    simp at h
    subst h
    obtain ⟨h1, h2⟩ := ih hr'
    refine ⟨by simp [h1], fun i a' b' ha hb' => ?_⟩
    cases i with
    | zero => simp at ha hb'; subst ha; subst hb'; exact hb
    | succ i => simp at ha hb'; exact h2 i a' b' ha hb'

theorem constV_rep {m : Imm} {v : Value} {x : V} (h : constV v = some x) : RepI m x v := by
  unfold constV at h
  split at h
  · rename_i cs
    simp only [Option.map_eq_some_iff] at h
    obtain ⟨xs, hxs, rfl⟩ := h
    obtain ⟨h1, h2⟩ := mapM_get hxs
    have : cs = cs.toList.toArray := by simp
    rw [this]
    refine .agg xs cs.toList h1.symm (fun i x v hx hv => constV1_rep (h2 i v x hv hx)) fun v hv => ?_
    obtain ⟨i, hi, rfl⟩ := List.getElem_of_mem hv
    exact (constV1_one (h2 i _ xs[i] (List.getElem?_eq_getElem hi) (List.getElem?_eq_getElem (by omega)))).1
  · exact constV1_rep h

section
variable {P : Program} {N : Nat} {S : Store} {m : Imm} {β : Objs} {w : World} {σ : Fr} {a : Act}

theorem ev_rep (hF : FrameRep N m β σ a) {x : Operand} {y : Arg} (h : argOf x = some y) : Rep m β (ev σ y) (a.eval x) := by
  cases x with
  | tmp t => simp [argOf] at h; subst h; exact hF.rep t
  | const v =>
    simp only [argOf] at h
    split at h
    · cases h; exact .junk _
    · obtain ⟨z, hz, rfl⟩ := Option.map_eq_some_iff.1 h
      exact .imm (constV_rep hz)
  | global g => simp [argOf] at h
  | func f =>
    simp [argOf] at h; subst h
    have := Rep.func (m := m) (β := β) f [] [] rfl (by simp)
    simpa [ev, Act.eval] using this

theorem evs_rep (hF : FrameRep N m β σ a) {xs : List Operand} {ys : List Arg} (h : xs.mapM argOf = some ys) : RepL m β (ys.map (ev σ)) (xs.map a.eval) := by
  obtain ⟨h1, h2⟩ := mapM_get h
  refine ⟨by simp [h1], fun i x v hx hv => ?_⟩
  simp only [List.getElem?_map, Option.map_eq_some_iff] at hx hv
  obtain ⟨y, hy, rfl⟩ := hx
  obtain ⟨z, hz, rfl⟩ := hv
  exact ev_rep hF (h2 i z y hz hy)

theorem rep_undef (m : Imm) (β : Objs) : Rep m β (.tuple []) undef := Rep.tuple [] [] rfl (by simp)

/-- What is asked of an operation's run. -/
def Does (P : Program) (r : Result Next) (x : V) (S' : Store) (m : Imm) (β : Objs) (w : World) : Prop :=
  ∃ v w' m' β', (r = .ok (.value v) w' ∨ (r = .ok .skip w' ∧ v = undef)) ∧ Rep m' β' x v ∧ Holds S' m' β' w' ∧ Ext m β w m' β' w'

theorem Does.same {r : Result Next} {x : V} {v : Value} (hS : Holds S m β w) (hr : r = .ok (.value v) w) (hx : Rep m β x v) : Does P r x S m β w :=
  ⟨v, w, m, β, .inl hr, hx, hS, Ext.refl _ _ _⟩

/-! inversions -/
theorem Rep.inv_bool {b : Bool} {v : Value} (h : Rep m β (.bool b) v) : v = .bool b := by cases h with | imm h => cases h; rfl
theorem Rep.inv_int {k : IntKind} {n : Int} {v : Value} (h : Rep m β (.int k n) v) : v = .int k n := by cases h with | imm h => cases h; rfl
theorem Rep.inv_str {s : ByteArray} {v : Value} (h : Rep m β (.str s) v) : v = .string s := by cases h with | imm h => cases h; rfl
theorem Rep.inv_nils {v : Value} (h : Rep m β .nils v) : ∃ a, v = .slice a 0 0 := by cases h with | imm h => cases h; exact ⟨_, rfl⟩
theorem Rep.inv_agg {xs : List V} {v : Value} (h : Rep m β (.agg xs) v) : ∃ vs : List Value, v = .agg vs.toArray ∧ xs.length = vs.length ∧
    (∀ (i : Nat) x v, xs[i]? = some x → vs[i]? = some v → Rep m β x v) ∧ ∀ v ∈ vs, v.oneCell' = true := by
  cases h with
  | imm h => cases h with | agg _ vs hl hr h1 => exact ⟨vs, rfl, hl, fun i x v hx hv => .imm (hr i x v hx hv), h1⟩
  | agg _ vs hl hr h1 => exact ⟨vs, rfl, hl, hr, h1⟩
theorem Rep.inv_tuple {xs : List V} {v : Value} (h : Rep m β (.tuple xs) v) : ∃ vs : List Value, v = .tuple vs.toArray ∧ xs.length = vs.length ∧
    (∀ (i : Nat) x v, xs[i]? = some x → vs[i]? = some v → Rep m β x v) := by
  cases h with
  | imm h => cases h
  | tuple _ vs hl hr => exact ⟨vs, rfl, hl, hr⟩
theorem Rep.inv_func {f : FuncId} {xs : List V} {v : Value} (h : Rep m β (.func f xs) v) : ∃ vs : List Value, v = .func (.func f) #[] vs.toArray ∧ RepL m β xs vs := by
  cases h with
  | imm h => cases h
  | func _ _ vs hl hr => exact ⟨vs, rfl, hl, hr⟩
theorem Rep.inv_ref {x : V} {v : Value} (h : Rep m β (.ref x) v) : ∃ u b off arr T fz, v = .pointer (some ⟨b, off, none⟩) ∧ m b = some (.cells arr T fz) ∧ RepI m x u ∧ ∀ (j : Nat) c, u.cells[j]? = some c → arr[off + j]? = some c := by
  cases h with
  | imm h => cases h with | ref _ u b off arr T fz hm hr hc => exact ⟨u, b, off, arr, T, fz, rfl, hm, hr, hc⟩
theorem Rep.inv_list {xs : List V} {v : Value} (h : Rep m β (.list xs) v) : RepI m (.list xs) v := by cases h with | imm h => exact h
/-- A slice of a live object. -/
theorem Rep.inv_slice {o off len : Nat} {v : Value} (h : Rep m β (.slice o off len) v) (hd : β o ≠ .dead) : ∃ a cap, v = .slice a len cap ∧ len ≤ cap ∧ cap ≤ maxLen ∧
    ((β o = .void ∧ len = 0 ∧ cap = 0) ∨ ∃ b base s n, β o = .lies b base s n ∧ (cap = 0 ∨ (a = some ⟨b, base + off, none⟩ ∧ base + off + cap * s ≤ n))) := by
  cases h with
  | imm h => cases h
  | sliceDead _ _ _ _ h => exact absurd h hd
  | sliceVoid _ _ a h => exact ⟨a, 0, rfl, Nat.le_refl _, Nat.zero_le _, .inl ⟨h, rfl, rfl⟩⟩
  | slice _ _ _ b base s n cap a h hc hcm ha => exact ⟨a, cap, rfl, hc, hcm, .inr ⟨b, base, s, n, h, ha⟩⟩
theorem Rep.inv_ptr {o off : Nat} {v : Value} (h : Rep m β (.ptr o off) v) (hd : β o ≠ .dead) : ∃ b base s n, β o = .lies b base s n ∧ v = .pointer (some ⟨b, base + off, none⟩) := by
  cases h with
  | imm h => cases h
  | ptrDead _ _ _ h => exact absurd h hd
  | ptr _ _ b base s n h => exact ⟨b, base, s, n, h, rfl⟩

theorem Holds.alive (h : Holds S m β w) {o : Nat} {c} (ho : S.get o = some c) : β o ≠ .dead := by
  intro e
  have := h.live o c ho
  rw [e] at this
  exact this

theorem add_lit' (b off i : Nat) : (⟨b, off, none⟩ : Addr).add i = ⟨b, off + i, none⟩ := by unfold Addr.add; split <;> simp_all

theorem cell_at {arr : Array Value} {T : TypeId} {fz : Nat × Nat} {b : Nat} (h : w.heap[b]? = some (.cells arr T fz)) (off : Nat) : w.cell? ⟨b, off, none⟩ = arr[off]? := by simp [World.cell?, h]

/-- A type's size and make, as 'szOf' tells them. -/
theorem szOf_spec {t : TypeId} {sz : Option Nat} (h : Program.szOf P t = some sz) (w : World) :
    ∃ i, P.info? t = some i ∧ (isAgg t).run P w = .ok sz.isSome w ∧ (∀ n, sz = some n → i.size = n) ∧ (sz = none → i.size = 1) := by
  unfold Program.szOf at h
  cases hu : P.underlying t with
  | none => simp [hu] at h
  | some d =>
    cases hi : P.info? t with
    | none => cases d <;> simp [hu, hi] at h
    | some i =>
      refine ⟨i, rfl, ?_⟩
      cases d <;> simp only [hu, hi] at h <;>
        first
        | (cases h; exact ⟨by simp [isAgg, run_underlying hu], (by intro n hn; cases hn; rfl), (by intro hn; cases hn)⟩)
        | (split at h
           · rename_i hs; cases h; exact ⟨by simp [isAgg, run_underlying hu], (by intro n hn; cases hn), fun _ => hs⟩
           · cases h)

/-- A load of a value's cells. -/
theorem run_loadVar_cells {t : TypeId} {sz : Option Nat} (hsz : Program.szOf P t = some sz) {arr : Array Value} {T : TypeId} {fz : Nat × Nat} {b off : Nat} (hb : w.heap[b]? = some (.cells arr T fz))
    (u : Value) (hu : (∀ n, sz = some n → ∃ vs : List Value, u = .agg vs.toArray ∧ vs.length = n) ∧ (sz = none → u.cells = #[u])) (hc : ∀ (j : Nat) c, u.cells[j]? = some c → arr[off + j]? = some c) :
    (loadVar t ⟨b, off, none⟩).run P w = .ok u w := by
  obtain ⟨i, hi, hagg, hsome, hnone⟩ := szOf_spec hsz w
  cases sz with
  | none =>
    have e := hu.2 rfl
    have h0 := hc 0 u (by simp [e])
    simp only [Nat.add_zero] at h0
    simp at hagg
    simp [loadVar, hagg, cell_at hb, h0]
  | some n =>
    obtain ⟨vs, rfl, hl⟩ := hu.1 n rfl
    have hcs := run_loadCells_list (P := P) w ⟨b, off, none⟩ vs (fun j v hv => by
      rw [add_lit', cell_at hb]
      exact hc j v (by simpa [Value.cells] using hv))
    rw [hl] at hcs
    simp at hagg
    simp [loadVar, hagg, sizeOf, typeInfo, hi, hsome n rfl, hcs]

/-- Cells of a value, each with what it reads as. -/
theorem Rep.cellwise {x : V} {v : Value} (h : Rep m β x v) (h1 : x.cells.all V.one = true) : x.cells.length = v.cells.size ∧
    ∀ (i : Nat) c, x.cells[i]? = some c → ∃ u, v.cells[i]? = some u ∧ Rep m β c u ∧ u.oneCell' = true := by
  by_cases hx : ∃ xs, x = .agg xs
  · obtain ⟨xs, rfl⟩ := hx
    obtain ⟨vs, rfl, hl, hr, ho⟩ := h.inv_agg
    refine ⟨by simpa [V.cells, Value.cells] using hl, fun i c hc => ?_⟩
    simp only [V.cells] at hc
    have hi : i < vs.length := by have := (List.getElem?_eq_some_iff.1 hc).1; omega
    exact ⟨vs[i], by simp [Value.cells, hi], hr i c _ hc (List.getElem?_eq_getElem hi), ho _ (List.getElem_mem hi)⟩
  · have e : x.cells = [x] := by cases x <;> first | rfl | exact absurd ⟨_, rfl⟩ hx
    rw [e] at h1 ⊢
    have h1' : x.one = true := by simpa using h1
    have ho := h.oneCell h1'
    have ev : v.cells = #[v] := by cases v <;> first | rfl | simp [Value.oneCell'] at ho
    refine ⟨by simp [ev], fun i c hc => ?_⟩
    rw [List.getElem?_singleton] at hc
    split at hc
    · cases hc; rename_i hi; subst hi; exact ⟨v, by simp [ev], h, ho⟩
    · cases hc


/-- Cells of an object, in a row. -/
theorem Holds.cells_at (h : Holds S m β w) {o b base s n : Nat} {c : Nat × List V} (ho : S.get o = some c) (hob : β o = .lies b base s n) :
    c.1 = s ∧ ∃ arr T, w.heap[b]? = some (.cells arr T (0, 0)) ∧ arr.size = n ∧ base + c.2.length ≤ n ∧ ∀ (i : Nat) x, c.2[i]? = some x → ∃ v, arr[base + i]? = some v ∧ Rep m β x v ∧ v.oneCell' = true := by
  have := h.live o c ho
  rw [hob] at this
  exact this

/-- A piece of an object's cells, as values. -/
theorem cells_vals {arr : Array Value} {base : Nat} {cells : List V} (h : ∀ (i : Nat) x, cells[i]? = some x → ∃ v, arr[base + i]? = some v ∧ Rep m β x v ∧ v.oneCell' = true) (off n : Nat) (hle : off + n ≤ cells.length) :
    ∃ vs : List Value, vs.length = n ∧ (∀ (j : Nat) v, vs[j]? = some v → arr[base + off + j]? = some v) ∧ RepL m β ((cells.drop off).take n) vs ∧ ∀ v ∈ vs, v.oneCell' = true := by
  refine ⟨(List.range n).map fun j => arr.getD (base + off + j) undef, by simp, fun j v hj => ?_, ⟨by simp; omega, fun i x v hx hv => ?_⟩, fun v hv => ?_⟩
  · simp only [List.getElem?_map, Option.map_eq_some_iff] at hj
    obtain ⟨j', hj', rfl⟩ := hj
    obtain ⟨hlt, e⟩ := List.getElem?_eq_some_iff.1 hj'
    simp at e hlt; subst e
    obtain ⟨u, hu, _⟩ := h (off + j) cells[off + j] (List.getElem?_eq_getElem (by omega))
    rw [← Nat.add_assoc] at hu
    simp [Array.getD_eq_getD_getElem?, hu]
  · simp only [List.getElem?_map, Option.map_eq_some_iff] at hv
    obtain ⟨j', hj', rfl⟩ := hv
    obtain ⟨hlt, e⟩ := List.getElem?_eq_some_iff.1 hj'
    simp at e hlt; subst e
    rw [List.getElem?_take, if_pos hlt, List.getElem?_drop] at hx
    obtain ⟨u, hu, hr, _⟩ := h _ x hx
    rw [← Nat.add_assoc] at hu
    simp [Array.getD_eq_getD_getElem?, hu, hr]
  · simp only [List.mem_map, List.mem_range] at hv
    obtain ⟨j, hj, rfl⟩ := hv
    obtain ⟨u, hu, _, ho⟩ := h (off + j) cells[off + j] (List.getElem?_eq_getElem (by omega))
    rw [← Nat.add_assoc] at hu
    simp [Array.getD_eq_getD_getElem?, hu, ho]

theorem does_load {o : Oper} {t : TypeId} {y : Operand} {z : Arg} {sz : Option Nat} {x : V} (ho : o.op = .load t y) (hsz : Program.szOf P t = some sz) (hz : argOf y = some z) (hS : Holds S m β w) (hF : FrameRep N m β σ a)
    (he : opLoad sz S (ev σ z) = some x) : Does P ((execOp a.eval o).run P w) x S m β w := by
  have hr := ev_rep hF hz
  generalize ev σ z = p at he hr
  have run : ∀ (b off : Nat) u, a.eval y = .pointer (some ⟨b, off, none⟩) → (loadVar t ⟨b, off, none⟩).run P w = .ok u w → (execOp a.eval o).run P w = .ok (.value u) w := by
    intro b off u h1 h2
    simp [execOp, ho, h1, Instr.loadAt, Instr.sureAddr, h2]
  cases p with
  | ref x' =>
    simp only [opLoad] at he
    split at he
    · rename_i hok
      cases he
      obtain ⟨u, b, off, arr, T, fz, e, hm, hu, hc⟩ := hr.inv_ref
      refine Does.same hS (run b off u e (run_loadVar_cells hsz (hS.imm _ _ hm) u ?_ hc)) (.imm hu)
      refine ⟨fun n hn => ?_, fun hn => ?_⟩
      · subst hn
        cases x <;> simp [okSz] at hok
        cases hu with | agg xs vs hl _ _ => exact ⟨vs, rfl, by omega⟩
      · subst hn
        simp only [okSz] at hok
        have := (Rep.imm (β := β) hu).oneCell hok
        cases u <;> first | rfl | simp [Value.oneCell'] at this
    · cases he
  | ptr o' off =>
    simp only [opLoad] at he
    cases hc : S.get o' with
    | none => simp [hc] at he
    | some c =>
      simp only [hc] at he
      obtain ⟨b, base, s, n, hob, e⟩ := hr.inv_ptr (hS.alive hc)
      obtain ⟨_, arr, T, h1, h2, h3, h4⟩ := hS.cells_at hc hob
      cases sz with
      | none =>
        simp only [partV] at he
        obtain ⟨v, hv, hrv, hone⟩ := h4 off x he
        have ec : v.cells = #[v] := by cases v <;> first | rfl | simp [Value.oneCell'] at hone
        refine Does.same hS (run b (base + off) v e (run_loadVar_cells hsz h1 v ⟨(by intro n hn; cases hn), fun _ => ec⟩ fun j c' hj => ?_)) hrv
        rw [ec] at hj
        cases j with
        | zero => simp at hj; subst hj; simpa using hv
        | succ j => simp at hj
      | some k =>
        simp only [partV] at he
        split at he
        · rename_i hle
          cases he
          obtain ⟨vs, hl, hcs, hrl, hone⟩ := cells_vals h4 off k hle
          refine Does.same hS (run b (base + off) (.agg vs.toArray) e (run_loadVar_cells hsz h1 _ ⟨(by intro n hn; cases hn; exact ⟨vs, rfl, hl⟩), (by intro hn; cases hn)⟩ fun j c' hj => ?_)) (.agg _ vs hrl.1 hrl.2 hone)
          exact hcs j c' (by simpa [Value.cells] using hj)
        · cases he
  | _ => simp [opLoad] at he

theorem splice_get (cs xs : List V) (off : Nat) (h : off + xs.length ≤ cs.length) (i : Nat) : (splice cs off xs)[i]? = if i < off then cs[i]? else if i < off + xs.length then xs[i - off]? else cs[i]? := by
  simp only [splice, List.append_assoc, List.getElem?_append, List.length_take, List.getElem?_take, List.getElem?_drop]
  have e : min off cs.length = off := by omega
  simp only [e]
  split
  · simp [*]
  · split
    · rename_i h1 h2
      rw [if_pos (by omega)]
    · rename_i h1 h2
      rw [if_neg (by omega)]
      congr 1
      omega

theorem splice_length (cs xs : List V) (off : Nat) (h : off + xs.length ≤ cs.length) : (splice cs off xs).length = cs.length := by
  simp [splice]; omega

theorem vsplice_get (cs xs : List Value) (off : Nat) (h : off + xs.length ≤ cs.length) (i : Nat) : (cs.take off ++ xs ++ cs.drop (off + xs.length))[i]? = if i < off then cs[i]? else if i < off + xs.length then xs[i - off]? else cs[i]? := by
  simp only [List.append_assoc, List.getElem?_append, List.length_take, List.getElem?_take, List.getElem?_drop]
  have e : min off cs.length = off := by omega
  simp only [e]
  split
  · simp [*]
  · split
    · rename_i h1 h2
      rw [if_pos (by omega)]
    · rename_i h1 h2
      rw [if_neg (by omega)]
      congr 1
      omega

/-- Cells stored in an object's own block. -/
theorem Holds.store (hS : Holds S m β w) {o b base s n : Nat} {c : Nat × List V} (ho : S.get o = some c) (hob : β o = .lies b base s n) (off : Nat) (xs : List V) (vs : List Value) (hr : RepL m β xs vs)
    (hone : ∀ v ∈ vs, v.oneCell' = true) (hle : off + xs.length ≤ c.2.length) :
    ∃ w', (storeCells ⟨b, base + off, none⟩ vs 0).run P w = .ok () w' ∧ Holds (S.upd o (c.1, splice c.2 off xs)) m β w' ∧ Ext m β w m β w' := by
  obtain ⟨hs, arr, T, h1, h2, h3, h4⟩ := hS.cells_at ho hob
  have hl := hr.1
  have hst := run_storeCells_at P b (base + off) T vs 0 arr w h1 (by simp; omega) hone
  refine ⟨_, hst, ?_⟩
  rw [hs]
  refine hS.setRow ho hob _ ?_ (splice c.2 off xs) (by rw [splice_length _ _ _ hle]; exact h3) fun i x hx => ?_
  · simp; omega
  · rw [splice_get _ _ _ hle] at hx
    simp only [List.getElem?_toArray, Nat.add_zero]
    rw [vsplice_get _ _ _ (by simp; omega)]
    by_cases hi : i < off
    · rw [if_pos hi] at hx
      rw [if_pos (by omega)]
      obtain ⟨v, e1, e2, e3⟩ := h4 i x hx
      exact ⟨v, by simpa using e1, e2, e3⟩
    · rw [if_neg hi] at hx
      rw [if_neg (by omega)]
      by_cases hi2 : i < off + xs.length
      · rw [if_pos hi2] at hx
        rw [if_pos (by omega)]
        have hlt : i - off < vs.length := by omega
        refine ⟨vs[i - off], ?_, hr.2 _ x _ hx (List.getElem?_eq_getElem hlt), hone _ (List.getElem_mem hlt)⟩
        rw [show base + i - (base + off) = i - off from by omega]
        exact List.getElem?_eq_getElem hlt
      · rw [if_neg hi2] at hx
        rw [if_neg (by omega)]
        obtain ⟨v, e1, e2, e3⟩ := h4 i x hx
        exact ⟨v, by simpa using e1, e2, e3⟩

theorem set_splice (cs : List V) (off : Nat) (x : V) (h : off < cs.length) : cs.set off x = splice cs off [x] := by
  apply List.ext_getElem?
  intro i
  rw [splice_get cs [x] off (by simp; omega), List.getElem?_set]
  by_cases h1 : off = i
  · subst h1; simp [h]
  · rw [if_neg h1]
    by_cases h2 : i < off
    · rw [if_pos h2]
    · rw [if_neg h2, if_neg (by simp; omega)]

theorem does_store {o : Oper} {t : TypeId} {p u : Operand} {pz uz : Arg} {sz : Option Nat} {S' : Store} (ho : o.op = .store t p u) (hsz : Program.szOf P t = some sz) (hp : argOf p = some pz) (hu : argOf u = some uz)
    (hS : Holds S m β w) (hF : FrameRep N m β σ a) (he : opStore sz S (ev σ pz) (ev σ uz) = some S') : Does P ((execOp a.eval o).run P w) (.tuple []) S' m β w := by
  have hrp := ev_rep hF hp
  have hru := ev_rep hF hu
  generalize ev σ pz = p' at he hrp
  generalize ev σ uz = u' at he hru
  cases p' with
  | ptr o' off =>
    simp only [opStore] at he
    cases hc : S.get o' with
    | none => simp [hc] at he
    | some c =>
      obtain ⟨b, base, s, n, hob, e⟩ := hrp.inv_ptr (hS.alive hc)
      obtain ⟨i, hi, hagg, hsome, hnone⟩ := szOf_spec hsz w
      -- the cells stored
      have go : ∀ (xs : List V) (vs : List Value), RepL m β xs vs → (∀ v ∈ vs, v.oneCell' = true) → (a.eval u).cells = vs.toArray → vs.length = i.size → off + xs.length ≤ c.2.length →
          Does P ((execOp a.eval o).run P w) (.tuple []) (S.upd o' (c.1, splice c.2 off xs)) m β w := by
        intro xs vs h1 h2 h3 h4 h5
        obtain ⟨w', g1, g2, g3⟩ := hS.store (P := P) hc hob off xs vs h1 h2 h5
        refine ⟨undef, w', m, β, .inr ⟨?_, rfl⟩, rep_undef m β, g2, g3⟩
        simp [execOp, ho, e, Instr.storeAt, Instr.sureAddr, storeVar, h3, sizeOf, typeInfo, hi, h4, g1]
      cases sz with
      | none =>
        simp only [hc] at he
        split at he
        · rename_i hok
          cases he
          rw [set_splice _ _ _ hok.1]
          have hone := hru.oneCell hok.2
          have ec : (a.eval u).cells = #[a.eval u] := by
            cases hv : a.eval u <;> first | rfl | (rw [hv] at hone; simp [Value.oneCell'] at hone)
          exact go [u'] [a.eval u] (RepL.cons hru (RepL.nil _ _)) (by simpa using hone) (by simpa using ec) (by simp [hnone rfl]) (by simp; omega)
        · cases he
      | some k =>
        simp only [hc] at he
        cases u' with
        | agg cs =>
          simp only at he
          split at he
          · rename_i hok
            cases he
            obtain ⟨vs, e2, hl, hr, hone⟩ := hru.inv_agg
            exact go cs vs ⟨hl, hr⟩ hone (by simp [e2, Value.cells]) (by rw [hsome k rfl]; omega) (by omega)
          · cases he
        | _ => simp at he
  | _ => simp [opStore] at he
end
end Go.Vw
