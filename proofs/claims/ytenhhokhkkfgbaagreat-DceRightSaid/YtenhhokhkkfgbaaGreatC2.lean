import Derived.Test.YtenhhokhkkfgbaaGreatC1
/-
  Part of the proof (texts VSound, VSound2).
-/
set_option linter.unusedVariables false
set_option linter.unusedSimpArgs false
/-
  Each operation over values without addresses is the model's.
-/
namespace Go.Vw
open Go.RowKit
theorem constV1_rep {m : Imm} {v : Value} {x : V} (h : constV1 v = some x) : RepI m x v := by
  unfold constV1 at h
  split at h <;> first | (cases h; first | exact .bool _ | exact .int _ _ | exact .str _ | exact .nils _ | exact .nilp | exact .nilf | exact .nilm) | cases h
theorem constV1_one {v : Value} {x : V} (h : constV1 v = some x) : v.oneCell' = true ∧ x.one = true := by
  unfold constV1 at h
  split at h <;> first | (cases h; exact ⟨rfl, rfl⟩) | cases h
theorem mapM_get {α β : Type} {f : α → Option β} {l : List α} {r : List β} (h : l.mapM f = some r) : l.length = r.length ∧ ∀ (i : Nat) a b, l[i]? = some a → r[i]? = some b → f a = some b := by
  induction l generalizing r with
  | nil => simp at h; subst h; simp
  | cons a l ih =>
    simp only [List.mapM_cons, Option.bind_eq_bind, Option.bind_eq_some_iff] at h
    obtain ⟨b, hb, r', hr', h⟩ := h
    simp at h
    subst h
    obtain ⟨h1, h2⟩ := ih hr'
    refine ⟨by simp [h1], fun i a' b' ha hb' => ?_⟩
    cases i with
    | zero => simp at ha hb'; subst ha; subst hb'; exact hb
    | succ i => simp at ha hb'; exact h2 i a' b' ha hb'
theorem constV_rep {m : Imm} {v : Value} {x : V} (h : constV v = some x) : RepI m x v := by
  unfold constV at h
  split at h
  · rename_i cs
    simp only [Option.map_eq_some_iff] at h
    obtain ⟨xs, hxs, rfl⟩ := h
    obtain ⟨h1, h2⟩ := mapM_get hxs
    have : cs = cs.toList.toArray := by simp
    rw [this]
    refine .agg xs cs.toList h1.symm (fun i x v hx hv => constV1_rep (h2 i v x hv hx)) fun v hv => ?_
    obtain ⟨i, hi, rfl⟩ := List.getElem_of_mem hv
    exact (constV1_one (h2 i _ xs[i] (List.getElem?_eq_getElem hi) (List.getElem?_eq_getElem (by omega)))).1
  · exact constV1_rep h
section
variable {P : Program} {N : Nat} {S : Store} {m : Imm} {β : Objs} {w : World} {σ : Fr} {a : Act}
theorem ev_rep (hF : FrameRep N m β σ a) {x : Operand} {y : Arg} (h : argOf x = some y) : Rep m β (ev σ y) (a.eval x) := by
  cases x with
  | tmp t => simp [argOf] at h; subst h; exact hF.rep t
  | const v =>
    simp only [argOf] at h
    split at h
    · cases h; exact .junk _
    · obtain ⟨z, hz, rfl⟩ := Option.map_eq_some_iff.1 h
      exact .imm (constV_rep hz)
  | global g => simp [argOf] at h
  | func f =>
    simp [argOf] at h; subst h
    have := Rep.func (m := m) (β := β) f [] [] rfl (by simp)
    simpa [ev, Act.eval] using this
theorem evs_rep (hF : FrameRep N m β σ a) {xs : List Operand} {ys : List Arg} (h : xs.mapM argOf = some ys) : RepL m β (ys.map (ev σ)) (xs.map a.eval) := by
  obtain ⟨h1, h2⟩ := mapM_get h
  refine ⟨by simp [h1], fun i x v hx hv => ?_⟩
  simp only [List.getElem?_map, Option.map_eq_some_iff] at hx hv
  obtain ⟨y, hy, rfl⟩ := hx
  obtain ⟨z, hz, rfl⟩ := hv
  exact ev_rep hF (h2 i z y hz hy)
theorem rep_undef (m : Imm) (β : Objs) : Rep m β (.tuple []) undef := Rep.tuple [] [] rfl (by simp)
def Does (P : Program) (r : Result Next) (x : V) (S' : Store) (m : Imm) (β : Objs) (w : World) : Prop :=
  ∃ v w' m' β', (r = .ok (.value v) w' ∨ (r = .ok .skip w' ∧ v = undef)) ∧ Rep m' β' x v ∧ Holds S' m' β' w' ∧ Ext m β w m' β' w'
theorem Does.same {r : Result Next} {x : V} {v : Value} (hS : Holds S m β w) (hr : r = .ok (.value v) w) (hx : Rep m β x v) : Does P r x S m β w :=
  ⟨v, w, m, β, .inl hr, hx, hS, Ext.refl _ _ _⟩
/-! inversions -/
theorem Rep.inv_bool {b : Bool} {v : Value} (h : Rep m β (.bool b) v) : v = .bool b := by cases h with | imm h => cases h; rfl
theorem Rep.inv_int {k : IntKind} {n : Int} {v : Value} (h : Rep m β (.int k n) v) : v = .int k n := by cases h with | imm h => cases h; rfl
theorem Rep.inv_str {s : ByteArray} {v : Value} (h : Rep m β (.str s) v) : v = .string s := by cases h with | imm h => cases h; rfl
theorem Rep.inv_nils {v : Value} (h : Rep m β .nils v) : ∃ a, v = .slice a 0 0 := by cases h with | imm h => cases h; exact ⟨_, rfl⟩
theorem Rep.inv_agg {xs : List V} {v : Value} (h : Rep m β (.agg xs) v) : ∃ vs : List Value, v = .agg vs.toArray ∧ xs.length = vs.length ∧
    (∀ (i : Nat) x v, xs[i]? = some x → vs[i]? = some v → Rep m β x v) ∧ ∀ v ∈ vs, v.oneCell' = true := by
  cases h with
  | imm h => cases h with | agg _ vs hl hr h1 => exact ⟨vs, rfl, hl, fun i x v hx hv => .imm (hr i x v hx hv), h1⟩
  | agg _ vs hl hr h1 => exact ⟨vs, rfl, hl, hr, h1⟩
theorem Rep.inv_tuple {xs : List V} {v : Value} (h : Rep m β (.tuple xs) v) : ∃ vs : List Value, v = .tuple vs.toArray ∧ xs.length = vs.length ∧
    (∀ (i : Nat) x v, xs[i]? = some x → vs[i]? = some v → Rep m β x v) := by
  cases h with
  | imm h => cases h
  | tuple _ vs hl hr => exact ⟨vs, rfl, hl, hr⟩
theorem Rep.inv_func {f : FuncId} {xs : List V} {v : Value} (h : Rep m β (.func f xs) v) : ∃ vs : List Value, v = .func (.func f) #[] vs.toArray ∧ RepL m β xs vs := by
  cases h with
  | imm h => cases h
  | func _ _ vs hl hr => exact ⟨vs, rfl, hl, hr⟩
theorem Rep.inv_ref {x : V} {v : Value} (h : Rep m β (.ref x) v) : ∃ u b off arr T fz, v = .pointer (some ⟨b, off, none⟩) ∧ m b = some (.cells arr T fz) ∧ RepI m x u ∧ ∀ (j : Nat) c, u.cells[j]? = some c → arr[off + j]? = some c := by
  cases h with
  | imm h => cases h with | ref _ u b off arr T fz hm hr hc => exact ⟨u, b, off, arr, T, fz, rfl, hm, hr, hc⟩
theorem Rep.inv_list {xs : List V} {v : Value} (h : Rep m β (.list xs) v) : RepI m (.list xs) v := by cases h with | imm h => exact h
theorem Rep.inv_slice {o off len : Nat} {v : Value} (h : Rep m β (.slice o off len) v) (hd : β o ≠ .dead) : ∃ a cap, v = .slice a len cap ∧ len ≤ cap ∧ cap ≤ maxLen ∧
    ((β o = .void ∧ len = 0 ∧ cap = 0) ∨ ∃ b base s n, β o = .lies b base s n ∧ (cap = 0 ∨ (a = some ⟨b, base + off, none⟩ ∧ base + off + cap * s ≤ n))) := by
  cases h with
  | imm h => cases h
  | sliceDead _ _ _ _ h => exact absurd h hd
  | sliceVoid _ _ a h => exact ⟨a, 0, rfl, Nat.le_refl _, Nat.zero_le _, .inl ⟨h, rfl, rfl⟩⟩
  | slice _ _ _ b base s n cap a h hc hcm ha => exact ⟨a, cap, rfl, hc, hcm, .inr ⟨b, base, s, n, h, ha⟩⟩
theorem Rep.inv_ptr {o off : Nat} {v : Value} (h : Rep m β (.ptr o off) v) (hd : β o ≠ .dead) : ∃ b base s n, β o = .lies b base s n ∧ v = .pointer (some ⟨b, base + off, none⟩) := by
  cases h with
  | imm h => cases h
  | ptrDead _ _ _ h => exact absurd h hd
  | ptr _ _ b base s n h => exact ⟨b, base, s, n, h, rfl⟩
theorem Holds.alive (h : Holds S m β w) {o : Nat} {c} (ho : S.get o = some c) : β o ≠ .dead := by
  intro e
  have := h.live o c ho
  rw [e] at this
  exact this
theorem add_lit' (b off i : Nat) : (⟨b, off, none⟩ : Addr).add i = ⟨b, off + i, none⟩ := by unfold Addr.add; split <;> simp_all
theorem cell_at {arr : Array Value} {T : TypeId} {fz : Nat × Nat} {b : Nat} (h : w.heap[b]? = some (.cells arr T fz)) (off : Nat) : w.cell? ⟨b, off, none⟩ = arr[off]? := by simp [World.cell?, h]
theorem szOf_spec {t : TypeId} {sz : Option Nat} (h : Program.szOf P t = some sz) (w : World) :
    ∃ i, P.info? t = some i ∧ (isAgg t).run P w = .ok sz.isSome w ∧ (∀ n, sz = some n → i.size = n) ∧ (sz = none → i.size = 1) := by
  unfold Program.szOf at h
  cases hu : P.underlying t with
  | none => simp [hu] at h
  | some d =>
    cases hi : P.info? t with
    | none => cases d <;> simp [hu, hi] at h
    | some i =>
      refine ⟨i, rfl, ?_⟩
      cases d <;> simp only [hu, hi] at h <;>
        first
        | (cases h; exact ⟨by simp [isAgg, run_underlying hu], (by intro n hn; cases hn; rfl), (by intro hn; cases hn)⟩)
        | (split at h
           · rename_i hs; cases h; exact ⟨by simp [isAgg, run_underlying hu], (by intro n hn; cases hn), fun _ => hs⟩
           · cases h)
theorem run_loadVar_cells {t : TypeId} {sz : Option Nat} (hsz : Program.szOf P t = some sz) {arr : Array Value} {T : TypeId} {fz : Nat × Nat} {b off : Nat} (hb : w.heap[b]? = some (.cells arr T fz))
    (u : Value) (hu : (∀ n, sz = some n → ∃ vs : List Value, u = .agg vs.toArray ∧ vs.length = n) ∧ (sz = none → u.cells = #[u])) (hc : ∀ (j : Nat) c, u.cells[j]? = some c → arr[off + j]? = some c) :
    (loadVar t ⟨b, off, none⟩).run P w = .ok u w := by
  obtain ⟨i, hi, hagg, hsome, hnone⟩ := szOf_spec hsz w
  cases sz with
  | none =>
    have e := hu.2 rfl
    have h0 := hc 0 u (by simp [e])
    simp only [Nat.add_zero] at h0
    simp at hagg
    simp [loadVar, hagg, cell_at hb, h0]
  | some n =>
    obtain ⟨vs, rfl, hl⟩ := hu.1 n rfl
    have hcs := run_loadCells_list (P := P) w ⟨b, off, none⟩ vs (fun j v hv => by
      rw [add_lit', cell_at hb]
      exact hc j v (by simpa [Value.cells] using hv))
    rw [hl] at hcs
    simp at hagg
    simp [loadVar, hagg, sizeOf, typeInfo, hi, hsome n rfl, hcs]
theorem Rep.cellwise {x : V} {v : Value} (h : Rep m β x v) (h1 : x.cells.all V.one = true) : x.cells.length = v.cells.size ∧
    ∀ (i : Nat) c, x.cells[i]? = some c → ∃ u, v.cells[i]? = some u ∧ Rep m β c u ∧ u.oneCell' = true := by
  by_cases hx : ∃ xs, x = .agg xs
  · obtain ⟨xs, rfl⟩ := hx
    obtain ⟨vs, rfl, hl, hr, ho⟩ := h.inv_agg
    refine ⟨by simpa [V.cells, Value.cells] using hl, fun i c hc => ?_⟩
    simp only [V.cells] at hc
    have hi : i < vs.length := by have := (List.getElem?_eq_some_iff.1 hc).1; omega
    exact ⟨vs[i], by simp [Value.cells, hi], hr i c _ hc (List.getElem?_eq_getElem hi), ho _ (List.getElem_mem hi)⟩
  · have e : x.cells = [x] := by cases x <;> first | rfl | exact absurd ⟨_, rfl⟩ hx
    rw [e] at h1 ⊢
    have h1' : x.one = true := by simpa using h1
    have ho := h.oneCell h1'
    have ev : v.cells = #[v] := by cases v <;> first | rfl | simp [Value.oneCell'] at ho
    refine ⟨by simp [ev], fun i c hc => ?_⟩
    rw [List.getElem?_singleton] at hc
    split at hc
    · cases hc; rename_i hi; subst hi; exact ⟨v, by simp [ev], h, ho⟩
    · cases hc
theorem Holds.cells_at (h : Holds S m β w) {o b base s n : Nat} {c : Nat × List V} (ho : S.get o = some c) (hob : β o = .lies b base s n) :
    c.1 = s ∧ ∃ arr T, w.heap[b]? = some (.cells arr T (0, 0)) ∧ arr.size = n ∧ base + c.2.length ≤ n ∧ ∀ (i : Nat) x, c.2[i]? = some x → ∃ v, arr[base + i]? = some v ∧ Rep m β x v ∧ v.oneCell' = true := by
  have := h.live o c ho
  rw [hob] at this
  exact this
theorem cells_vals {arr : Array Value} {base : Nat} {cells : List V} (h : ∀ (i : Nat) x, cells[i]? = some x → ∃ v, arr[base + i]? = some v ∧ Rep m β x v ∧ v.oneCell' = true) (off n : Nat) (hle : off + n ≤ cells.length) :
    ∃ vs : List Value, vs.length = n ∧ (∀ (j : Nat) v, vs[j]? = some v → arr[base + off + j]? = some v) ∧ RepL m β ((cells.drop off).take n) vs ∧ ∀ v ∈ vs, v.oneCell' = true := by
  refine ⟨(List.range n).map fun j => arr.getD (base + off + j) undef, by simp, fun j v hj => ?_, ⟨by simp; omega, fun i x v hx hv => ?_⟩, fun v hv => ?_⟩
  · simp only [List.getElem?_map, Option.map_eq_some_iff] at hj
    obtain ⟨j', hj', rfl⟩ := hj
    obtain ⟨hlt, e⟩ := List.getElem?_eq_some_iff.1 hj'
    simp at e hlt; subst e
    obtain ⟨u, hu, _⟩ := h (off + j) cells[off + j] (List.getElem?_eq_getElem (by omega))
    rw [← Nat.add_assoc] at hu
    simp [Array.getD_eq_getD_getElem?, hu]
  · simp only [List.getElem?_map, Option.map_eq_some_iff] at hv
    obtain ⟨j', hj', rfl⟩ := hv
    obtain ⟨hlt, e⟩ := List.getElem?_eq_some_iff.1 hj'
    simp at e hlt; subst e
    rw [List.getElem?_take, if_pos hlt, List.getElem?_drop] at hx
    obtain ⟨u, hu, hr, _⟩ := h _ x hx
    rw [← Nat.add_assoc] at hu
    simp [Array.getD_eq_getD_getElem?, hu, hr]
  · simp only [List.mem_map, List.mem_range] at hv
    obtain ⟨j, hj, rfl⟩ := hv
    obtain ⟨u, hu, _, ho⟩ := h (off + j) cells[off + j] (List.getElem?_eq_getElem (by omega))
    rw [← Nat.add_assoc] at hu
    simp [Array.getD_eq_getD_getElem?, hu, ho]
theorem does_load {o : Oper} {t : TypeId} {y : Operand} {z : Arg} {sz : Option Nat} {x : V} (ho : o.op = .load t y) (hsz : Program.szOf P t = some sz) (hz : argOf y = some z) (hS : Holds S m β w) (hF : FrameRep N m β σ a)
    (he : opLoad sz S (ev σ z) = some x) : Does P ((execOp a.eval o).run P w) x S m β w := by
  have hr := ev_rep hF hz
  generalize ev σ z = p at he hr
  have run : ∀ (b off : Nat) u, a.eval y = .pointer (some ⟨b, off, none⟩) → (loadVar t ⟨b, off, none⟩).run P w = .ok u w → (execOp a.eval o).run P w = .ok (.value u) w := by
    intro b off u h1 h2
    simp [execOp, ho, h1, Instr.loadAt, Instr.sureAddr, h2]
  cases p with
  | ref x' =>
    simp only [opLoad] at he
    split at he
    · rename_i hok
      cases he
      obtain ⟨u, b, off, arr, T, fz, e, hm, hu, hc⟩ := hr.inv_ref
      refine Does.same hS (run b off u e (run_loadVar_cells hsz (hS.imm _ _ hm) u ?_ hc)) (.imm hu)
      refine ⟨fun n hn => ?_, fun hn => ?_⟩
      · subst hn
        cases x <;> simp [okSz] at hok
        cases hu with | agg xs vs hl _ _ => exact ⟨vs, rfl, by omega⟩
      · subst hn
        simp only [okSz] at hok
        have := (Rep.imm (β := β) hu).oneCell hok
        cases u <;> first | rfl | simp [Value.oneCell'] at this
    · cases he
  | ptr o' off =>
    simp only [opLoad] at he
    cases hc : S.get o' with
    | none => simp [hc] at he
    | some c =>
      simp only [hc] at he
      obtain ⟨b, base, s, n, hob, e⟩ := hr.inv_ptr (hS.alive hc)
      obtain ⟨_, arr, T, h1, h2, h3, h4⟩ := hS.cells_at hc hob
      cases sz with
      | none =>
        simp only [partV] at he
        obtain ⟨v, hv, hrv, hone⟩ := h4 off x he
        have ec : v.cells = #[v] := by cases v <;> first | rfl | simp [Value.oneCell'] at hone
        refine Does.same hS (run b (base + off) v e (run_loadVar_cells hsz h1 v ⟨(by intro n hn; cases hn), fun _ => ec⟩ fun j c' hj => ?_)) hrv
        rw [ec] at hj
        cases j with
        | zero => simp at hj; subst hj; simpa using hv
        | succ j => simp at hj
      | some k =>
        simp only [partV] at he
        split at he
        · rename_i hle
          cases he
          obtain ⟨vs, hl, hcs, hrl, hone⟩ := cells_vals h4 off k hle
          refine Does.same hS (run b (base + off) (.agg vs.toArray) e (run_loadVar_cells hsz h1 _ ⟨(by intro n hn; cases hn; exact ⟨vs, rfl, hl⟩), (by intro hn; cases hn)⟩ fun j c' hj => ?_)) (.agg _ vs hrl.1 hrl.2 hone)
          exact hcs j c' (by simpa [Value.cells] using hj)
        · cases he
  | _ => simp [opLoad] at he
theorem splice_get (cs xs : List V) (off : Nat) (h : off + xs.length ≤ cs.length) (i : Nat) : (splice cs off xs)[i]? = if i < off then cs[i]? else if i < off + xs.length then xs[i - off]? else cs[i]? := by
  simp only [splice, List.append_assoc, List.getElem?_append, List.length_take, List.getElem?_take, List.getElem?_drop]
  have e : min off cs.length = off := by omega
  simp only [e]
  split
  · simp [*]
  · split
    · rename_i h1 h2
      rw [if_pos (by omega)]
    · rename_i h1 h2
      rw [if_neg (by omega)]
      congr 1
      omega
theorem splice_length (cs xs : List V) (off : Nat) (h : off + xs.length ≤ cs.length) : (splice cs off xs).length = cs.length := by
  simp [splice]; omega
theorem vsplice_get (cs xs : List Value) (off : Nat) (h : off + xs.length ≤ cs.length) (i : Nat) : (cs.take off ++ xs ++ cs.drop (off + xs.length))[i]? = if i < off then cs[i]? else if i < off + xs.length then xs[i - off]? else cs[i]? := by
  simp only [List.append_assoc, List.getElem?_append, List.length_take, List.getElem?_take, List.getElem?_drop]
  have e : min off cs.length = off := by omega
  simp only [e]
  split
  · simp [*]
  · split
    · rename_i h1 h2
      rw [if_pos (by omega)]
    · rename_i h1 h2
      rw [if_neg (by omega)]
      congr 1
      omega
theorem Holds.store (hS : Holds S m β w) {o b base s n : Nat} {c : Nat × List V} (ho : S.get o = some c) (hob : β o = .lies b base s n) (off : Nat) (xs : List V) (vs : List Value) (hr : RepL m β xs vs)
    (hone : ∀ v ∈ vs, v.oneCell' = true) (hle : off + xs.length ≤ c.2.length) :
    ∃ w', (storeCells ⟨b, base + off, none⟩ vs 0).run P w = .ok () w' ∧ Holds (S.upd o (c.1, splice c.2 off xs)) m β w' ∧ Ext m β w m β w' := by
  obtain ⟨hs, arr, T, h1, h2, h3, h4⟩ := hS.cells_at ho hob
  have hl := hr.1
  have hst := run_storeCells_at P b (base + off) T vs 0 arr w h1 (by simp; omega) hone
  refine ⟨_, hst, ?_⟩
  rw [hs]
  refine hS.setRow ho hob _ ?_ (splice c.2 off xs) (by rw [splice_length _ _ _ hle]; exact h3) fun i x hx => ?_
  · simp; omega
  · rw [splice_get _ _ _ hle] at hx
    simp only [List.getElem?_toArray, Nat.add_zero]
    rw [vsplice_get _ _ _ (by simp; omega)]
    by_cases hi : i < off
    · rw [if_pos hi] at hx
      rw [if_pos (by omega)]
      obtain ⟨v, e1, e2, e3⟩ := h4 i x hx
      exact ⟨v, by simpa using e1, e2, e3⟩
    · rw [if_neg hi] at hx
      rw [if_neg (by omega)]
      by_cases hi2 : i < off + xs.length
      · rw [if_pos hi2] at hx
        rw [if_pos (by omega)]
        have hlt : i - off < vs.length := by omega
        refine ⟨vs[i - off], ?_, hr.2 _ x _ hx (List.getElem?_eq_getElem hlt), hone _ (List.getElem_mem hlt)⟩
        rw [show base + i - (base + off) = i - off from by omega]
        exact List.getElem?_eq_getElem hlt
      · rw [if_neg hi2] at hx
        rw [if_neg (by omega)]
        obtain ⟨v, e1, e2, e3⟩ := h4 i x hx
        exact ⟨v, by simpa using e1, e2, e3⟩
theorem set_splice (cs : List V) (off : Nat) (x : V) (h : off < cs.length) : cs.set off x = splice cs off [x] := by
  apply List.ext_getElem?
  intro i
  rw [splice_get cs [x] off (by simp; omega), List.getElem?_set]
  by_cases h1 : off = i
  · subst h1; simp [h]
  · rw [if_neg h1]
    by_cases h2 : i < off
    · rw [if_pos h2]
    · rw [if_neg h2, if_neg (by simp; omega)]
theorem does_store {o : Oper} {t : TypeId} {p u : Operand} {pz uz : Arg} {sz : Option Nat} {S' : Store} (ho : o.op = .store t p u) (hsz : Program.szOf P t = some sz) (hp : argOf p = some pz) (hu : argOf u = some uz)
    (hS : Holds S m β w) (hF : FrameRep N m β σ a) (he : opStore sz S (ev σ pz) (ev σ uz) = some S') : Does P ((execOp a.eval o).run P w) (.tuple []) S' m β w := by
  have hrp := ev_rep hF hp
  have hru := ev_rep hF hu
  generalize ev σ pz = p' at he hrp
  generalize ev σ uz = u' at he hru
  cases p' with
  | ptr o' off =>
    simp only [opStore] at he
    cases hc : S.get o' with
    | none => simp [hc] at he
    | some c =>
      obtain ⟨b, base, s, n, hob, e⟩ := hrp.inv_ptr (hS.alive hc)
      obtain ⟨i, hi, hagg, hsome, hnone⟩ := szOf_spec hsz w
      -- the cells stored
      have go : ∀ (xs : List V) (vs : List Value), RepL m β xs vs → (∀ v ∈ vs, v.oneCell' = true) → (a.eval u).cells = vs.toArray → vs.length = i.size → off + xs.length ≤ c.2.length →
          Does P ((execOp a.eval o).run P w) (.tuple []) (S.upd o' (c.1, splice c.2 off xs)) m β w := by
        intro xs vs h1 h2 h3 h4 h5
        obtain ⟨w', g1, g2, g3⟩ := hS.store (P := P) hc hob off xs vs h1 h2 h5
        refine ⟨undef, w', m, β, .inr ⟨?_, rfl⟩, rep_undef m β, g2, g3⟩
        simp [execOp, ho, e, Instr.storeAt, Instr.sureAddr, storeVar, h3, sizeOf, typeInfo, hi, h4, g1]
      cases sz with
      | none =>
        simp only [hc] at he
        split at he
        · rename_i hok
          cases he
          rw [set_splice _ _ _ hok.1]
          have hone := hru.oneCell hok.2
          have ec : (a.eval u).cells = #[a.eval u] := by
            cases hv : a.eval u <;> first | rfl | (rw [hv] at hone; simp [Value.oneCell'] at hone)
          exact go [u'] [a.eval u] (RepL.cons hru (RepL.nil _ _)) (by simpa using hone) (by simpa using ec) (by simp [hnone rfl]) (by simp; omega)
        · cases he
      | some k =>
        simp only [hc] at he
        cases u' with
        | agg cs =>
          simp only at he
          split at he
          · rename_i hok
            cases he
            obtain ⟨vs, e2, hl, hr, hone⟩ := hru.inv_agg
            exact go cs vs ⟨hl, hr⟩ hone (by simp [e2, Value.cells]) (by rw [hsome k rfl]; omega) (by omega)
          · cases he
        | _ => simp at he
  | _ => simp [opStore] at he
end
end Go.Vw

/-
 Each operation over values without addresses is the model's: the rest.
-/
namespace Go.Vw
open Go.RowKit
section
variable {P : Program} {N : Nat} {S : Store} {m : Imm} {β : Objs} {w : World} {σ : Fr} {a : Act}
theorem slc_spec {t e : TypeId} {i : TypeInfo} (h : Program.slc P t = some (e, i)) : P.underlying t = some (.slice e) ∧ P.info? e = some i := by
 unfold Program.slc at h
 split at h
 ·rename_i e' hu
  split at h
  ·rename_i i' hi; cases h; exact ⟨hu, hi⟩
  ·cases h
 ·cases h
theorem does_index {o : Oper} {t e : TypeId} {j : TypeInfo} {y i : Operand} {z iz : Arg} {x : V} (ho : o.op = .indexAddr t y i) (hs : Program.slc P t = some (e, j)) (hz : argOf y = some z) (hi : argOf i = some iz)
  (hS : Holds S m β w) (hF : FrameRep N m β σ a) (he : opIndex j.size S (ev σ z) (ev σ iz) = some x) : Does P ((execOp a.eval o).run P w) x S m β w := by
 obtain ⟨hu, hj⟩ := slc_spec hs
 have hr := ev_rep hF hz
 have hri := ev_rep hF hi
 generalize ev σ z = p at he hr
 generalize ev σ iz = q at he hri
 have run : ∀ (b off len cap : Nat) (k : IntKind) (n : Int), a.eval y = .slice (some ⟨b, off, none⟩) len cap → a.eval i = .int k n → 0 ≤ n → n < len →
   (execOp a.eval o).run P w = .ok (.value (.pointer (some ⟨b, off + n.toNat * j.size, none⟩))) w := by
  intro b off len cap k n h1 h2 h3 h4
  simp [execOp, ho, h1, h2, Instr.indexAt, asIntOf, run_underlying hu, h3, h4, sizeOf, typeInfo, hj, add_lit']
 cases q with
 | int k n =>
  have e2 := hri.inv_int
  cases p with
  | list xs =>
   simp only [opIndex] at he
   split at he
   ·rename_i h0
    cases hx : xs[n.toNat]? with
    | none => simp [hx] at he
    | some y' =>
     simp only [hx] at he
     split at he
     ·rename_i hsz
      cases he
      have hl := hr.inv_list
      cases hq : a.eval y with
      | slice ad len cap =>
       rw [hq] at hl
       have hlt : n.toNat < xs.length := (List.getElem?_eq_some_iff.1 hx).1
       cases hl with
       | list0 => simp at hlt
       | list _ vs b off _ s arr T fz hm hl hc hcm hs' hr' hcells =>
        have hv : n.toNat < vs.length := by omega
        have hrv := hr' n.toNat y' vs[n.toNat] hx (List.getElem?_eq_getElem hv)
        have hsz' : s = j.size := by rw [← hs' _ (List.getElem_mem hv), hrv.cells_size, hsz]
        subst hsz'
        refine Does.same hS (run b off _ _ k n hq e2 h0 (by omega)) (.imm (.ref y' vs[n.toNat] b _ arr T fz hm hrv fun jj c hc' => ?_))
        exact hcells n.toNat _ jj c (List.getElem?_eq_getElem hv) hc'
      | _ => rw [hq] at hl; cases hl
     ·cases he
   ·cases he
  | slice o' off len =>
   simp only [opIndex] at he
   split at he
   ·rename_i h0
    cases he
    obtain ⟨c, hc⟩ := Option.isSome_iff_exists.1 h0.1
    obtain ⟨ad, cap, e1, hlc, hcm, hcase⟩ := hr.inv_slice (hS.alive hc)
    rcases hcase with ⟨_, h1, _⟩ | ⟨b, base, s, nn, hob, hcase⟩
    ·omega
    ·rcases hcase with hcase | ⟨had, hroom⟩
     ·omega
     ·subst had
      refine Does.same hS (run b (base + off) len cap k n e1 e2 h0.2.1 h0.2.2) ?_
      have := Rep.ptr (m := m) o' (off + n.toNat * j.size) b base s nn hob
      rwa [← Nat.add_assoc] at this
   ·cases he
  | _ => simp [opIndex] at he
 | _ => cases p <;> simp [opIndex] at he
theorem fld_spec {t : TypeId} {f off : Nat} {sz : Option Nat} (h : Program.fld P t f = some (off, sz)) :
  ∃ fs fd i, P.underlying t = some (.struct fs) ∧ fs[f]? = some fd ∧ fd.offset = off ∧ Program.szOf P fd.type = some sz ∧ P.info? fd.type = some i ∧ i.size ≠ 0 := by
 unfold Program.fld at h
 split at h
 ·rename_i fs hu
  split at h
  ·rename_i fd hf
   split at h
   ·rename_i sz' j h1 h2
    split at h
    ·cases h
    ·rename_i h3; cases h; exact ⟨fs, fd, j, hu, hf, rfl, h1, h2, h3⟩
   ·cases h
  ·cases h
 ·cases h
theorem partI {xs : List V} {vs : List Value} (hl : xs.length = vs.length) (hr : ∀ (i : Nat) x v, xs[i]? = some x → vs[i]? = some v → RepI m x v) (h1 : ∀ v ∈ vs, v.oneCell' = true) {off : Nat} {sz : Option Nat} {y : V}
  (he : partV xs off sz = some y) : ∃ u, RepI m y u ∧ (∀ (j : Nat) c, u.cells[j]? = some c → vs[off + j]? = some c) := by
 cases sz with
 | none =>
  simp only [partV] at he
  have hlt : off < xs.length := (List.getElem?_eq_some_iff.1 he).1
  have hv : off < vs.length := by omega
  refine ⟨vs[off], hr off y _ he (List.getElem?_eq_getElem hv), fun j c hc => ?_⟩
  have ho := h1 _ (List.getElem_mem hv)
  have ec : (vs[off]).cells = #[vs[off]] := by cases hq : vs[off] <;> first | rfl | (rw [hq] at ho; simp [Value.oneCell'] at ho)
  rw [ec] at hc
  cases j with
  | zero => simp at hc; subst hc; simp [hv]
  | succ j => simp at hc
 | some n =>
  simp only [partV] at he
  split at he
  ·rename_i hle
   cases he
   refine ⟨.agg ((vs.drop off).take n).toArray, .agg _ _ (by simp; omega) (fun i x v hx hv => ?_) (fun v hv => h1 v (List.mem_of_mem_drop (List.mem_of_mem_take hv))), fun j c hc => ?_⟩
   ·rw [List.getElem?_take] at hx hv
    split at hx
    ·rename_i hi; rw [if_pos hi] at hv; rw [List.getElem?_drop] at hx hv; exact hr _ x v hx hv
    ·cases hx
   ·simp only [Value.cells, List.getElem?_toArray, List.getElem?_take] at hc
    split at hc
    ·rw [List.getElem?_drop] at hc; exact hc
    ·cases hc
  ·cases he
theorem does_fieldAddr {o : Oper} {t : TypeId} {f off : Nat} {sz : Option Nat} {y : Operand} {z : Arg} {x : V} (ho : o.op = .fieldAddr t y f) (hf : Program.fld P t f = some (off, sz)) (hz : argOf y = some z)
  (hS : Holds S m β w) (hF : FrameRep N m β σ a) (he : opFieldAddr off sz S (ev σ z) = some x) : Does P ((execOp a.eval o).run P w) x S m β w := by
 obtain ⟨fs, fd, i, hu, hfd, rfl, hsz, hi, h0⟩ := fld_spec hf
 have hr := ev_rep hF hz
 generalize ev σ z = p at he hr
 have run : ∀ (b q : Nat), a.eval y = .pointer (some ⟨b, q, none⟩) → (execOp a.eval o).run P w = .ok (.value (.pointer (some ⟨b, q + fd.offset, none⟩))) w := by
  intro b q h1
  simp [execOp, ho, h1, Instr.fieldAt, run_underlying hu, hfd, Instr.sureAddr, fieldPlace, sizeOf, typeInfo, hi, h0, add_lit']
 cases p with
 | ptr o' q =>
  simp only [opFieldAddr] at he
  split at he
  ·rename_i hs
   cases he
   obtain ⟨c, hc⟩ := Option.isSome_iff_exists.1 hs
   obtain ⟨b, base, s, n, hob, e⟩ := hr.inv_ptr (hS.alive hc)
   refine Does.same hS (run b _ e) ?_
   have := Rep.ptr (m := m) o' (q + fd.offset) b base s n hob
   rwa [← Nat.add_assoc] at this
  ·cases he
 | ref x' =>
  cases x' with
  | agg cs =>
   simp only [opFieldAddr, Option.map_eq_some_iff] at he
   obtain ⟨y', hy, rfl⟩ := he
   obtain ⟨u, b, q, arr, T, fz, e, hm, hu', hc⟩ := hr.inv_ref
   cases hu' with
   | agg xs vs hl hr' h1 =>
    obtain ⟨v, hv, hcs⟩ := partI hl hr' h1 hy
    refine Does.same hS (run b _ e) (.imm (.ref y' v b _ arr T fz hm hv fun j c hj => ?_))
    have := hc (fd.offset + j) c (by simpa [Value.cells] using hcs j c hj)
    rwa [← Nat.add_assoc] at this
  | _ => simp [opFieldAddr] at he
 | _ => simp [opFieldAddr] at he
theorem partR {xs : List V} {vs : List Value} (hl : xs.length = vs.length) (hr : ∀ (i : Nat) x v, xs[i]? = some x → vs[i]? = some v → Rep m β x v) (h1 : ∀ v ∈ vs, v.oneCell' = true) {off : Nat} {sz : Option Nat} {y : V}
  (he : partV xs off sz = some y) : (sz = none → ∃ u, vs[off]? = some u ∧ Rep m β y u) ∧ (∀ n, sz = some n → off + n ≤ vs.length ∧ Rep m β y (.agg ((vs.drop off).take n).toArray)) := by
 cases sz with
 | none =>
  simp only [partV] at he
  have hlt : off < xs.length := (List.getElem?_eq_some_iff.1 he).1
  have hv : off < vs.length := by omega
  exact ⟨fun _ => ⟨vs[off], List.getElem?_eq_getElem hv, hr off y _ he (List.getElem?_eq_getElem hv)⟩, (by intro n hn; cases hn)⟩
 | some n =>
  simp only [partV] at he
  split at he
  ·rename_i hle
   cases he
   refine ⟨(by intro hn; cases hn), fun k hk => ?_⟩
   cases hk
   refine ⟨by omega, .agg _ _ (by simp; omega) (fun i x v hx hv => ?_) (fun v hv => h1 v (List.mem_of_mem_drop (List.mem_of_mem_take hv)))⟩
   rw [List.getElem?_take] at hx hv
   split at hx
   ·rename_i hi; rw [if_pos hi] at hv; rw [List.getElem?_drop] at hx hv; exact hr _ x v hx hv
   ·cases hx
  ·cases he
theorem does_field {o : Oper} {t : TypeId} {f off : Nat} {sz : Option Nat} {y : Operand} {z : Arg} {x : V} (ho : o.op = .field t y f) (hf : Program.fld P t f = some (off, sz)) (hz : argOf y = some z)
  (hS : Holds S m β w) (hF : FrameRep N m β σ a) (he : opField off sz (ev σ z) = some x) : Does P ((execOp a.eval o).run P w) x S m β w := by
 obtain ⟨fs, fd, i, hu, hfd, rfl, hsz, hi, h0⟩ := fld_spec hf
 have hr := ev_rep hF hz
 generalize ev σ z = p at he hr
 cases p with
 | agg cs =>
  simp only [opField] at he
  obtain ⟨vs, e, hl, hr', h1⟩ := hr.inv_agg
  obtain ⟨hn, hs⟩ := partR hl hr' h1 he
  obtain ⟨i', hi', hagg, hsome, hnone⟩ := szOf_spec hsz w
  rw [hi] at hi'; cases hi'
  cases sz with
  | none =>
   obtain ⟨u, hu', hru⟩ := hn rfl
   simp at hagg
   refine Does.same hS ?_ hru
   simp [execOp, ho, e, Instr.field, run_underlying hu, hfd, asAgg, part, hagg, hu']
  | some n =>
   obtain ⟨hle, hru⟩ := hs n rfl
   simp at hagg
   refine Does.same hS ?_ hru
   simp [execOp, ho, e, Instr.field, run_underlying hu, hfd, asAgg, part, hagg, sizeOf, typeInfo, hi, hsome n rfl]
 | _ => simp [opField] at he
theorem flatMap_get {α γ : Type} (f : α → List γ) (s : Nat) (hs : 0 < s) : ∀ (l : List α), (∀ x ∈ l, (f x).length = s) → ∀ q : Nat, (l.flatMap f)[q]? = (l[q / s]?).bind fun x => (f x)[q % s]?
 | [], _, q => by simp
 | x :: l, h, q => by
  have ih := flatMap_get f s hs l (fun y hy => h y (List.mem_cons_of_mem _ hy))
  have hx := h x List.mem_cons_self
  simp only [List.flatMap_cons, List.getElem?_append, hx]
  by_cases hq : q < s
  ·rw [if_pos hq, Nat.div_eq_of_lt hq, Nat.mod_eq_of_lt hq]; rfl
  ·rw [if_neg hq, ih]
   have e1 : q / s = (q - s) / s + 1 := by
    have := Nat.add_div_right (q - s) hs
    rw [Nat.sub_add_cancel (by omega)] at this
    exact this
   have e2 : q % s = (q - s) % s := by
    have := Nat.add_mod_right (q - s) s
    rw [Nat.sub_add_cancel (by omega)] at this
    exact this
   rw [e1, e2]; rfl
theorem flatMap_len {α γ : Type} (f : α → List γ) (s : Nat) : ∀ (l : List α), (∀ x ∈ l, (f x).length = s) → (l.flatMap f).length = l.length * s
 | [], _ => by simp
 | x :: l, h => by
  have ih := flatMap_len f s l (fun y hy => h y (List.mem_cons_of_mem _ hy))
  simp [h x List.mem_cons_self, ih, Nat.succ_mul, Nat.add_comm]
def Src (m : Imm) (β : Objs) (w : World) (s : Nat) (v : Value) (new : List V) (k : Nat) : Prop :=
 ∃ ad cap, v = .slice ad k cap ∧ k ≤ cap ∧ cap ≤ maxLen ∧ ∃ vs : List Value, vs.length = k * s ∧ RepL m β new vs ∧ (∀ v ∈ vs, v.oneCell' = true) ∧
  (vs = [] ∨ ∃ b off, ad = some ⟨b, off, none⟩ ∧ ∀ (j : Nat) u, vs[j]? = some u → w.cell? ⟨b, off + j, none⟩ = some u)
theorem RepI.ones {x : V} {v : Value} (h : RepI m x v) : (∀ c ∈ v.cells, c.oneCell' = true) ∧ x.cells.length = v.cells.size ∧ ∀ (i : Nat) c u, x.cells[i]? = some c → v.cells[i]? = some u → RepI m c u := by
 have single : x.cells = [x] → v.cells = #[v] → v.oneCell' = true → (∀ c ∈ v.cells, c.oneCell' = true) ∧ x.cells.length = v.cells.size ∧ ∀ (i : Nat) c u, x.cells[i]? = some c → v.cells[i]? = some u → RepI m c u := by
  intro e1 e2 e3
  rw [e1, e2]
  refine ⟨fun c hc => by simp at hc; subst hc; exact e3, rfl, fun i c u hc hu => ?_⟩
  cases i with
  | zero => simp at hc hu; subst hc; subst hu; exact h
  | succ i => simp at hc
 cases h with
 | agg xs vs hl hr h1 => exact ⟨fun c hc => h1 c (by simpa [Value.cells] using hc), by simpa [V.cells, Value.cells] using hl, fun i c u hc hu => hr i c u hc (by simpa [Value.cells] using hu)⟩
 | _ => exact single rfl rfl rfl
theorem src_spec {s : Nat} {p : V} {v : Value} {new : List V} {k : Nat} (hS : Holds S m β w) (hr : Rep m β p v) (he : srcCells s S p = some (new, k)) : Src m β w s v new k := by
 cases p with
 | nils =>
  simp only [srcCells] at he; cases he
  obtain ⟨ad, e⟩ := hr.inv_nils
  exact ⟨ad, 0, e, Nat.le_refl _, Nat.zero_le _, [], by simp, RepL.nil _ _, by simp, .inl rfl⟩
 | list xs =>
  simp only [srcCells] at he
  split at he
  ·rename_i hall
   cases he
   have hall' : ∀ x ∈ xs, x.ncells = s := by simpa using hall
   have hl := hr.inv_list
   cases hv : v with
   | slice ad len cap =>
    rw [hv] at hl
    cases hl with
    | list0 _ _ hc => exact ⟨ad, cap, rfl, Nat.zero_le _, hc, [], by simp, RepL.nil _ _, by simp, .inl rfl⟩
    | list _ vs b off _ s' arr T fz hm hl hc hcm hs' hr' hcells =>
     by_cases h0 : xs = []
     ·subst h0
      exact ⟨_, cap, rfl, hc, hcm, [], by simp, RepL.nil _ _, by simp, .inl rfl⟩
     ·have hss : s' = s := by
       have hp : 0 < xs.length := List.length_pos_iff.2 h0
       have hpv : 0 < vs.length := by omega
       have h1 := hr' 0 xs[0] vs[0] (List.getElem?_eq_getElem hp) (List.getElem?_eq_getElem hpv)
       rw [← hs' vs[0] (List.getElem_mem hpv), h1.cells_size, hall' _ (List.getElem_mem hp)]
      subst hss
      have lx : ∀ x ∈ xs, (V.cells x).length = s' := fun x hx => by
       rw [← hall' x hx]; cases x <;> rfl
      have lv : ∀ u ∈ vs, u.cells.toList.length = s' := fun u hu => by simpa using hs' u hu
      refine ⟨_, cap, rfl, hc, hcm, vs.flatMap fun u => u.cells.toList, by rw [flatMap_len _ s' vs lv, hl], ⟨by rw [flatMap_len _ s' xs lx, flatMap_len _ s' vs lv, hl], ?_⟩, ?_, ?_⟩
      ·intro i x u hx hu
       by_cases hs0 : s' = 0
       ·have := flatMap_len _ s' xs lx
        rw [hs0, Nat.mul_zero] at this
        rw [List.eq_nil_of_length_eq_zero this] at hx
        cases hx
       ·rw [flatMap_get _ s' (by omega) xs lx] at hx
        rw [flatMap_get _ s' (by omega) vs lv] at hu
        obtain ⟨x', hx1, hx2⟩ := Option.bind_eq_some_iff.1 hx
        obtain ⟨u', hu1, hu2⟩ := Option.bind_eq_some_iff.1 hu
        exact .imm ((hr' _ x' u' hx1 hu1).ones.2.2 _ x u hx2 (by simpa using hu2))
      ·intro u hu
       obtain ⟨u', hu1, hu2⟩ := List.mem_flatMap.1 hu
       obtain ⟨i, hi, rfl⟩ := List.getElem_of_mem hu1
       exact (hr' i xs[i] vs[i] (List.getElem?_eq_getElem (by omega)) (List.getElem?_eq_getElem hi)).ones.1 u (by simpa using hu2)
      ·refine .inr ⟨b, off, rfl, fun j u hj => ?_⟩
       by_cases hs0 : s' = 0
       ·have := flatMap_len _ s' vs lv
        rw [hs0, Nat.mul_zero] at this
        rw [List.eq_nil_of_length_eq_zero this] at hj
        cases hj
       ·rw [flatMap_get _ s' (by omega) vs lv] at hj
        obtain ⟨u', hu1, hu2⟩ := Option.bind_eq_some_iff.1 hj
        rw [cell_at (hS.imm _ _ hm)]
        have := hcells (j / s') u' (j % s') u hu1 (by simpa using hu2)
        rw [Nat.add_assoc, Nat.mul_comm, Nat.div_add_mod] at this
        exact this
   | _ => rw [hv] at hl; cases hl
  ·cases he
 | slice o off len =>
  simp only [srcCells] at he
  cases hc : S.get o with
  | none => simp [hc] at he
  | some c =>
   simp only [hc] at he
   split at he
   ·rename_i hle
    cases he
    obtain ⟨ad, cap, e, hlc, hcm, hcase⟩ := hr.inv_slice (hS.alive hc)
    rcases hcase with ⟨hv, h1, h2⟩ | ⟨b, base, s', n, hob, hcase⟩
    ·subst h1
     exact ⟨ad, cap, e, hlc, hcm, [], by simp, by simpa using RepL.nil m β, by simp, .inl rfl⟩
    ·obtain ⟨_, arr, T, h1, h2, h3, h4⟩ := hS.cells_at hc hob
     rcases hcase with hcap | ⟨had, hroom⟩
     ·have h0 : k = 0 := by omega
      subst h0
      exact ⟨ad, cap, e, hlc, hcm, [], by simp, by simpa using RepL.nil m β, by simp, .inl rfl⟩
     ·obtain ⟨vs, hl, hcs, hrl, hone⟩ := cells_vals h4 off (k * s) hle
      exact ⟨ad, cap, e, hlc, hcm, vs, hl, hrl, hone, .inr ⟨b, base + off, had, fun j u hj => by rw [cell_at h1]; exact hcs j u hj⟩⟩
   ·cases he
 | _ => simp [srcCells] at he
theorem run_first {s k n : Nat} {v : Value} {ad : Option Addr} {cap : Nat} {vs : List Value} (hv : v = .slice ad k cap) (hn : n ≤ k) (hl : vs.length = k * s)
  (h : vs = [] ∨ ∃ b off, ad = some ⟨b, off, none⟩ ∧ ∀ (j : Nat) u, vs[j]? = some u → w.cell? ⟨b, off + j, none⟩ = some u) : (Builtin.firstCells s n v).run P w = .ok (vs.take (n * s)).toArray w := by
 subst hv
 have hle : n * s ≤ k * s := Nat.mul_le_mul_right _ hn
 rcases h with h | ⟨b, off, rfl, hc⟩
 ·subst h
  have h0 : n * s = 0 := by rw [← hl] at hle; simpa using hle
  cases ad with
  | none => simp [Builtin.firstCells]
  | some a' => simp [Builtin.firstCells, h0, loadCells, loadCellsFrom]
 ·have hlen : (vs.take (n * s)).length = n * s := by simp; omega
  refine run_firstCells_some w s n ⟨b, off, none⟩ k cap _ hlen fun j u hj => ?_
  rw [add_lit']
  rw [List.getElem?_take] at hj
  split at hj
  ·exact hc j u hj
  ·cases hj
theorem run_append_room' {t ty e : TypeId} {i : TypeInfo} (ht : P.underlying t = some (.slice e)) (hi : P.info? e = some i) (ad ad2 : Option Addr) (sLen sCap k c2 : Nat) (news : Array Value) (w' : World)
  (hf : (Builtin.firstCells i.size k (.slice ad2 k c2)).run P w = .ok news w) (hroom : sLen + k ≤ sCap)
  (hst : ∀ a', ad = some a' → (storeCells (a'.add (sLen * i.size)) news.toList).run P w = .ok () w') (hst0 : ad = none → w' = w) :
  (Builtin.append_ #[t, t] ty #[.slice ad sLen sCap, .slice ad2 k c2]).run P w = .ok (.slice ad (sLen + k) sCap) w' := by
 cases ad with
 | none => rw [hst0 rfl]; simp [Builtin.append_, run_underlying ht, sizeOf, typeInfo, hi, Builtin.lenOf, hroom, hf]
 | some a' => simp [Builtin.append_, run_underlying ht, sizeOf, typeInfo, hi, Builtin.lenOf, hroom, hf, hst a' rfl]
theorem run_append_grow' {t ty e : TypeId} {i : TypeInfo} {z : Value} (ht : P.underlying t = some (.slice e)) (hi : P.info? e = some i) (hz : i.zero = some z) (ad ad2 : Option Addr) (sLen sCap k c2 : Nat) (olds news : Array Value)
  (hf : (Builtin.firstCells i.size k (.slice ad2 k c2)).run P w.drew = .ok news w.drew) (hfo : (Builtin.firstCells i.size sLen (.slice ad sLen sCap)).run P w.drew = .ok olds w.drew)
  (hg : sCap < sLen + k) (h63 : sLen + k ≤ 140737488355328) (hb : (sLen + k) * i.bytes ≤ 140737488355328) :
  (Builtin.append_ #[t, t] ty #[.slice ad sLen sCap, .slice ad2 k c2]).run P w =
   .ok (.slice (some ⟨w.heap.size, 0, none⟩) (sLen + k) (grownCap w (sLen + k) sCap e)) (w.drew.alloc (.cells (olds ++ news ++ Builtin.zeroCells z.cells (grownCap w (sLen + k) sCap e - (sLen + k))) e)) := by
 have hn : ¬ (sLen + k ≤ sCap) := by omega
 have h63' : ¬ (9223372036854775807 < ((sLen : Int) + (k : Int))) := by omega
 have h48 := growslice_fits hg hb
 have h48' : ¬ (281474976710656 < Builtin.nextslicecap (sLen + k) sCap * i.bytes) := by omega
 simp [Builtin.append_, run_underlying ht, sizeOf, typeInfo, zeroValue, hi, hz, Builtin.lenOf, hn, h63', h48', Question.forced, hf, hfo, newRow, grownCap]
end
end Go.Vw
