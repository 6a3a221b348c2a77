import Derived.Test.YtgnoiaekmmfnmaaVSound
/-
  Each operation over values without addresses is the model's: the rest.
-/
set_option linter.unusedVariables false
namespace Go.Vw
open Go.RowKit

section
variable {P : Program} {N : Nat} {S : Store} {m : Imm} {β : Objs} {w : World} {σ : Fr} {a : Act}

theorem slc_spec {t e : TypeId} {i : TypeInfo} (h : Program.slc P t = some (e, i)) : P.underlying t = some (.slice e) ∧ P.info? e = some i := by
  unfold Program.slc at h
  split at h
  · rename_i e' hu
    split at h
    · rename_i i' hi; cases h; exact ⟨hu, hi⟩
    · cases h
  · cases h

theorem does_index {o : Oper} {t e : TypeId} {j : TypeInfo} {y i : Operand} {z iz : Arg} {x : V} (ho : o.op = .indexAddr t y i) (hs : Program.slc P t = some (e, j)) (hz : argOf y = some z) (hi : argOf i = some iz)
    (hS : Holds S m β w) (hF : FrameRep N m β σ a) (he : opIndex j.size S (ev σ z) (ev σ iz) = some x) : Does P ((execOp a.eval o).run P w) x S m β w := by
  obtain ⟨hu, hj⟩ := slc_spec hs
  have hr := ev_rep hF hz
  have hri := ev_rep hF hi
  generalize ev σ z = p at he hr
  generalize ev σ iz = q at he hri
  have run : ∀ (b off len cap : Nat) (k : IntKind) (n : Int), a.eval y = .slice (some ⟨b, off, none⟩) len cap → a.eval i = .int k n → 0 ≤ n → n < len →
      (execOp a.eval o).run P w = .ok (.value (.pointer (some ⟨b, off + n.toNat * j.size, none⟩))) w := by
    intro b off len cap k n h1 h2 h3 h4
    simp [execOp, ho, h1, h2, Instr.indexAt, asIntOf, run_underlying hu, h3, h4, sizeOf, typeInfo, hj, add_lit']
  cases q with
  | int k n =>
    have e2 := hri.inv_int
    cases p with
    | list xs =>
      simp only [opIndex] at he
      split at he
      · rename_i h0
        cases hx : xs[n.toNat]? with
        | none => simp [hx] at he
        | some y' =>
          simp only [hx] at he
          split at he
          · rename_i hsz
            cases he
            have hl := hr.inv_list
            cases hq : a.eval y with
            | slice ad len cap =>
              rw [hq] at hl
              have hlt : n.toNat < xs.length := (List.getElem?_eq_some_iff.1 hx).1
              cases hl with
              | list0 => simp at hlt
              | list _ vs b off _ s arr T fz hm hl hc hcm hs' hr' hcells =>
                have hv : n.toNat < vs.length := by omega
                have hrv := hr' n.toNat y' vs[n.toNat] hx (List.getElem?_eq_getElem hv)
                have hsz' : s = j.size := by rw [← hs' _ (List.getElem_mem hv), hrv.cells_size, hsz]
                subst hsz'
                refine Does.same hS (run b off _ _ k n hq e2 h0 (by omega)) (.imm (.ref y' vs[n.toNat] b _ arr T fz hm hrv fun jj c hc' => ?_))
                exact hcells n.toNat _ jj c (List.getElem?_eq_getElem hv) hc'
            | _ => rw [hq] at hl; cases hl
          · cases he
      · cases he
    | slice o' off len =>
      simp only [opIndex] at he
      split at he
      · rename_i h0
        cases he
        obtain ⟨c, hc⟩ := Option.isSome_iff_exists.1 h0.1
        obtain ⟨ad, cap, e1, hlc, hcm, hcase⟩ := hr.inv_slice (hS.alive hc)
        rcases hcase with ⟨_, h1, _⟩ | ⟨b, base, s, nn, hob, hcase⟩
        · omega
        · rcases hcase with hcase | ⟨had, hroom⟩
          · omega
          · subst had
            refine Does.same hS (run b (base + off) len cap k n e1 e2 h0.2.1 h0.2.2) ?_
            have := Rep.ptr (m := m) o' (off + n.toNat * j.size) b base s nn hob
            rwa [← Nat.add_assoc] at this
      · cases he
    | _ => simp [opIndex] at he
  | _ => cases p <;> simp [opIndex] at he

theorem fld_spec {t : TypeId} {f off : Nat} {sz : Option Nat} (h : Program.fld P t f = some (off, sz)) :
    ∃ fs fd i, P.underlying t = some (.struct fs) ∧ fs[f]? = some fd ∧ fd.offset = off ∧ Program.szOf P fd.type = some sz ∧ P.info? fd.type = some i ∧ i.size ≠ 0 := by
  unfold Program.fld at h
  split at h
  · rename_i fs hu
    split at h
    · rename_i fd hf
      split at h
      · rename_i sz' j h1 h2
        split at h
        · cases h
        · rename_i h3; cases h; exact ⟨fs, fd, j, hu, hf, rfl, h1, h2, h3⟩
      · cases h
    · cases h
  · cases h

/-- A part of an aggregate. -/
theorem partI {xs : List V} {vs : List Value} (hl : xs.length = vs.length) (hr : ∀ (i : Nat) x v, xs[i]? = some x → vs[i]? = some v → RepI m x v) (h1 : ∀ v ∈ vs, v.oneCell' = true) {off : Nat} {sz : Option Nat} {y : V}
    (he : partV xs off sz = some y) : ∃ u, RepI m y u ∧ (∀ (j : Nat) c, u.cells[j]? = some c → vs[off + j]? = some c) := by
  cases sz with
  | none =>
    simp only [partV] at he
    have hlt : off < xs.length := (List.getElem?_eq_some_iff.1 he).1
    have hv : off < vs.length := by omega
    refine ⟨vs[off], hr off y _ he (List.getElem?_eq_getElem hv), fun j c hc => ?_⟩
    have ho := h1 _ (List.getElem_mem hv)
    have ec : (vs[off]).cells = #[vs[off]] := by cases hq : vs[off] <;> first | rfl | (rw [hq] at ho; simp [Value.oneCell'] at ho)
    rw [ec] at hc
    cases j with
    | zero => simp at hc; subst hc; simp [hv]
    | succ j => simp at hc
  | some n =>
    simp only [partV] at he
    split at he
    · rename_i hle
      cases he
      refine ⟨.agg ((vs.drop off).take n).toArray, .agg _ _ (by simp; omega) (fun i x v hx hv => ?_) (fun v hv => h1 v (List.mem_of_mem_drop (List.mem_of_mem_take hv))), fun j c hc => ?_⟩
      · rw [List.getElem?_take] at hx hv
        split at hx
        · rename_i hi; rw [if_pos hi] at hv; rw [List.getElem?_drop] at hx hv; exact hr _ x v hx hv
        · cases hx
      · simp only [Value.cells, List.getElem?_toArray, List.getElem?_take] at hc
        split at hc
        · rw [List.getElem?_drop] at hc; exact hc
        · cases hc
    · cases he

theorem does_fieldAddr {o : Oper} {t : TypeId} {f off : Nat} {sz : Option Nat} {y : Operand} {z : Arg} {x : V} (ho : o.op = .fieldAddr t y f) (hf : Program.fld P t f = some (off, sz)) (hz : argOf y = some z)
    (hS : Holds S m β w) (hF : FrameRep N m β σ a) (he : opFieldAddr off sz S (ev σ z) = some x) : Does P ((execOp a.eval o).run P w) x S m β w := by
  obtain ⟨fs, fd, i, hu, hfd, rfl, hsz, hi, h0⟩ := fld_spec hf
  have hr := ev_rep hF hz
  generalize ev σ z = p at he hr
  have run : ∀ (b q : Nat), a.eval y = .pointer (some ⟨b, q, none⟩) → (execOp a.eval o).run P w = .ok (.value (.pointer (some ⟨b, q + fd.offset, none⟩))) w := by
    intro b q h1
    simp [execOp, ho, h1, Instr.fieldAt, run_underlying hu, hfd, Instr.sureAddr, fieldPlace, sizeOf, typeInfo, hi, h0, add_lit']
  cases p with
  | ptr o' q =>
    simp only [opFieldAddr] at he
    split at he
    · rename_i hs
      cases he
      obtain ⟨c, hc⟩ := Option.isSome_iff_exists.1 hs
      obtain ⟨b, base, s, n, hob, e⟩ := hr.inv_ptr (hS.alive hc)
      refine Does.same hS (run b _ e) ?_
      have := Rep.ptr (m := m) o' (q + fd.offset) b base s n hob
      rwa [← Nat.add_assoc] at this
    · cases he
  | ref x' =>
    cases x' with
    | agg cs =>
      simp only [opFieldAddr, Option.map_eq_some_iff] at he
      obtain ⟨y', hy, rfl⟩ := he
      obtain ⟨u, b, q, arr, T, fz, e, hm, hu', hc⟩ := hr.inv_ref
      cases hu' with
      | agg xs vs hl hr' h1 =>
        obtain ⟨v, hv, hcs⟩ := partI hl hr' h1 hy
        refine Does.same hS (run b _ e) (.imm (.ref y' v b _ arr T fz hm hv fun j c hj => ?_))
        have := hc (fd.offset + j) c (by simpa [Value.cells] using hcs j c hj)
        rwa [← Nat.add_assoc] at this
    | _ => simp [opFieldAddr] at he
  | _ => simp [opFieldAddr] at he

/-- A part of an aggregate whose cells may be the call's own. -/
theorem partR {xs : List V} {vs : List Value} (hl : xs.length = vs.length) (hr : ∀ (i : Nat) x v, xs[i]? = some x → vs[i]? = some v → Rep m β x v) (h1 : ∀ v ∈ vs, v.oneCell' = true) {off : Nat} {sz : Option Nat} {y : V}
    (he : partV xs off sz = some y) : (sz = none → ∃ u, vs[off]? = some u ∧ Rep m β y u) ∧ (∀ n, sz = some n → off + n ≤ vs.length ∧ Rep m β y (.agg ((vs.drop off).take n).toArray)) := by
  cases sz with
  | none =>
    simp only [partV] at he
    have hlt : off < xs.length := (List.getElem?_eq_some_iff.1 he).1
    have hv : off < vs.length := by omega
    exact ⟨fun _ => ⟨vs[off], List.getElem?_eq_getElem hv, hr off y _ he (List.getElem?_eq_getElem hv)⟩, (by intro n hn; cases hn)⟩
  | some n =>
    simp only [partV] at he
    split at he
    · rename_i hle
      cases he
      refine ⟨(by intro hn; cases hn), fun k hk => ?_⟩
      cases hk
      refine ⟨by omega, .agg _ _ (by simp; omega) (fun i x v hx hv => ?_) (fun v hv => h1 v (List.mem_of_mem_drop (List.mem_of_mem_take hv)))⟩
      rw [List.getElem?_take] at hx hv
      split at hx
      · rename_i hi; rw [if_pos hi] at hv; rw [List.getElem?_drop] at hx hv; exact hr _ x v hx hv
      · cases hx
    · cases he

theorem does_field {o : Oper} {t : TypeId} {f off : Nat} {sz : Option Nat} {y : Operand} {z : Arg} {x : V} (ho : o.op = .field t y f) (hf : Program.fld P t f = some (off, sz)) (hz : argOf y = some z)
    (hS : Holds S m β w) (hF : FrameRep N m β σ a) (he : opField off sz (ev σ z) = some x) : Does P ((execOp a.eval o).run P w) x S m β w := by
  obtain ⟨fs, fd, i, hu, hfd, rfl, hsz, hi, h0⟩ := fld_spec hf
  have hr := ev_rep hF hz
  generalize ev σ z = p at he hr
  cases p with
  | agg cs =>
    simp only [opField] at he
    obtain ⟨vs, e, hl, hr', h1⟩ := hr.inv_agg
    obtain ⟨hn, hs⟩ := partR hl hr' h1 he
    obtain ⟨i', hi', hagg, hsome, hnone⟩ := szOf_spec hsz w
    rw [hi] at hi'; cases hi'
    cases sz with
    | none =>
      obtain ⟨u, hu', hru⟩ := hn rfl
      simp at hagg
      refine Does.same hS ?_ hru
      simp [execOp, ho, e, Instr.field, run_underlying hu, hfd, asAgg, part, hagg, hu']
    | some n =>
      obtain ⟨hle, hru⟩ := hs n rfl
      simp at hagg
      refine Does.same hS ?_ hru
      simp [execOp, ho, e, Instr.field, run_underlying hu, hfd, asAgg, part, hagg, sizeOf, typeInfo, hi, hsome n rfl]
  | _ => simp [opField] at he


theorem flatMap_get {α γ : Type} (f : α → List γ) (s : Nat) (hs : 0 < s) : ∀ (l : List α), (∀ x ∈ l, (f x).length = s) → ∀ q : Nat, (l.flatMap f)[q]? = (l[q / s]?).bind fun x => (f x)[q % s]?
  | [], _, q => by simp
  | x :: l, h, q => by
    have ih := flatMap_get f s hs l (fun y hy => h y (List.mem_cons_of_mem _ hy))
    have hx := h x List.mem_cons_self
    simp only [List.flatMap_cons, List.getElem?_append, hx]
    by_cases hq : q < s
    · rw [if_pos hq, Nat.div_eq_of_lt hq, Nat.mod_eq_of_lt hq]; rfl
    · rw [if_neg hq, ih]
      have e1 : q / s = (q - s) / s + 1 := by
        have := Nat.add_div_right (q - s) hs
        rw [Nat.sub_add_cancel (by omega)] at this
        exact this
      have e2 : q % s = (q - s) % s := by
        have := Nat.add_mod_right (q - s) s
        rw [Nat.sub_add_cancel (by omega)] at this
        exact this
      rw [e1, e2]; rfl

theorem flatMap_len {α γ : Type} (f : α → List γ) (s : Nat) : ∀ (l : List α), (∀ x ∈ l, (f x).length = s) → (l.flatMap f).length = l.length * s
  | [], _ => by simp
  | x :: l, h => by
    have ih := flatMap_len f s l (fun y hy => h y (List.mem_cons_of_mem _ hy))
    simp [h x List.mem_cons_self, ih, Nat.succ_mul, Nat.add_comm]

/-- A slice's value, and its cells where there are any. -/
def Src (m : Imm) (β : Objs) (w : World) (s : Nat) (v : Value) (new : List V) (k : Nat) : Prop :=
  ∃ ad cap, v = .slice ad k cap ∧ k ≤ cap ∧ cap ≤ maxLen ∧ ∃ vs : List Value, vs.length = k * s ∧ RepL m β new vs ∧ (∀ v ∈ vs, v.oneCell' = true) ∧
    (vs = [] ∨ ∃ b off, ad = some ⟨b, off, none⟩ ∧ ∀ (j : Nat) u, vs[j]? = some u → w.cell? ⟨b, off + j, none⟩ = some u)

theorem RepI.cellwise {x : V} {v : Value} (h : RepI m x v) (h1 : x.cells.all V.one = true) : x.cells.length = v.cells.size ∧
    ∀ (i : Nat) c, x.cells[i]? = some c → ∃ u, v.cells[i]? = some u ∧ Rep m β c u ∧ u.oneCell' = true := Rep.cellwise (.imm h) h1

theorem RepI.ones {x : V} {v : Value} (h : RepI m x v) : (∀ c ∈ v.cells, c.oneCell' = true) ∧ x.cells.length = v.cells.size ∧ ∀ (i : Nat) c u, x.cells[i]? = some c → v.cells[i]? = some u → RepI m c u := by
  have single : x.cells = [x] → v.cells = #[v] → v.oneCell' = true → (∀ c ∈ v.cells, c.oneCell' = true) ∧ x.cells.length = v.cells.size ∧ ∀ (i : Nat) c u, x.cells[i]? = some c → v.cells[i]? = some u → RepI m c u := by
    intro e1 e2 e3
    rw [e1, e2]
    refine ⟨fun c hc => by simp at hc; subst hc; exact e3, rfl, fun i c u hc hu => ?_⟩
    cases i with
    | zero => simp at hc hu; subst hc; subst hu; exact h
    | succ i => simp at hc
  cases h with
  | agg xs vs hl hr h1 => exact ⟨fun c hc => h1 c (by simpa [Value.cells] using hc), by simpa [V.cells, Value.cells] using hl, fun i c u hc hu => hr i c u hc (by simpa [Value.cells] using hu)⟩
  | _ => exact single rfl rfl rfl

theorem src_spec {s : Nat} {p : V} {v : Value} {new : List V} {k : Nat} (hS : Holds S m β w) (hr : Rep m β p v) (he : srcCells s S p = some (new, k)) : Src m β w s v new k := by
  cases p with
  | nils =>
    simp only [srcCells] at he; cases he
    obtain ⟨ad, e⟩ := hr.inv_nils
    exact ⟨ad, 0, e, Nat.le_refl _, Nat.zero_le _, [], by simp, RepL.nil _ _, by simp, .inl rfl⟩
  | list xs =>
    simp only [srcCells] at he
    split at he
    · rename_i hall
      cases he
      have hall' : ∀ x ∈ xs, x.ncells = s := by simpa using hall
      have hl := hr.inv_list
      cases hv : v with
      | slice ad len cap =>
        rw [hv] at hl
        cases hl with
        | list0 _ _ hc => exact ⟨ad, cap, rfl, Nat.zero_le _, hc, [], by simp, RepL.nil _ _, by simp, .inl rfl⟩
        | list _ vs b off _ s' arr T fz hm hl hc hcm hs' hr' hcells =>
          by_cases h0 : xs = []
          · subst h0
            exact ⟨_, cap, rfl, hc, hcm, [], by simp, RepL.nil _ _, by simp, .inl rfl⟩
          · have hss : s' = s := by
              have hp : 0 < xs.length := List.length_pos_iff.2 h0
              have hpv : 0 < vs.length := by omega
              have h1 := hr' 0 xs[0] vs[0] (List.getElem?_eq_getElem hp) (List.getElem?_eq_getElem hpv)
              rw [← hs' vs[0] (List.getElem_mem hpv), h1.cells_size, hall' _ (List.getElem_mem hp)]
            subst hss
            have lx : ∀ x ∈ xs, (V.cells x).length = s' := fun x hx => by
              rw [← hall' x hx]; cases x <;> rfl
            have lv : ∀ u ∈ vs, u.cells.toList.length = s' := fun u hu => by simpa using hs' u hu
            refine ⟨_, cap, rfl, hc, hcm, vs.flatMap fun u => u.cells.toList, by rw [flatMap_len _ s' vs lv, hl], ⟨by rw [flatMap_len _ s' xs lx, flatMap_len _ s' vs lv, hl], ?_⟩, ?_, ?_⟩
            · intro i x u hx hu
              by_cases hs0 : s' = 0
              · have := flatMap_len _ s' xs lx
                rw [hs0, Nat.mul_zero] at this
                rw [List.eq_nil_of_length_eq_zero this] at hx
                cases hx
              · rw [flatMap_get _ s' (by omega) xs lx] at hx
                rw [flatMap_get _ s' (by omega) vs lv] at hu
                obtain ⟨x', hx1, hx2⟩ := Option.bind_eq_some_iff.1 hx
                obtain ⟨u', hu1, hu2⟩ := Option.bind_eq_some_iff.1 hu
                exact .imm ((hr' _ x' u' hx1 hu1).ones.2.2 _ x u hx2 (by simpa using hu2))
            · intro u hu
              obtain ⟨u', hu1, hu2⟩ := List.mem_flatMap.1 hu
              obtain ⟨i, hi, rfl⟩ := List.getElem_of_mem hu1
              exact (hr' i xs[i] vs[i] (List.getElem?_eq_getElem (by omega)) (List.getElem?_eq_getElem hi)).ones.1 u (by simpa using hu2)
            · refine .inr ⟨b, off, rfl, fun j u hj => ?_⟩
              by_cases hs0 : s' = 0
              · have := flatMap_len _ s' vs lv
                rw [hs0, Nat.mul_zero] at this
                rw [List.eq_nil_of_length_eq_zero this] at hj
                cases hj
              · rw [flatMap_get _ s' (by omega) vs lv] at hj
                obtain ⟨u', hu1, hu2⟩ := Option.bind_eq_some_iff.1 hj
                rw [cell_at (hS.imm _ _ hm)]
                have := hcells (j / s') u' (j % s') u hu1 (by simpa using hu2)
                rw [Nat.add_assoc, Nat.mul_comm, Nat.div_add_mod] at this
                exact this
      | _ => rw [hv] at hl; cases hl
    · cases he
  | slice o off len =>
    simp only [srcCells] at he
    cases hc : S.get o with
    | none => simp [hc] at he
    | some c =>
      simp only [hc] at he
      split at he
      · rename_i hle
        cases he
        obtain ⟨ad, cap, e, hlc, hcm, hcase⟩ := hr.inv_slice (hS.alive hc)
        rcases hcase with ⟨hv, h1, h2⟩ | ⟨b, base, s', n, hob, hcase⟩
        · subst h1
          exact ⟨ad, cap, e, hlc, hcm, [], by simp, by simpa using RepL.nil m β, by simp, .inl rfl⟩
        · obtain ⟨_, arr, T, h1, h2, h3, h4⟩ := hS.cells_at hc hob
          rcases hcase with hcap | ⟨had, hroom⟩
          · have h0 : k = 0 := by omega
            subst h0
            exact ⟨ad, cap, e, hlc, hcm, [], by simp, by simpa using RepL.nil m β, by simp, .inl rfl⟩
          · obtain ⟨vs, hl, hcs, hrl, hone⟩ := cells_vals h4 off (k * s) hle
            exact ⟨ad, cap, e, hlc, hcm, vs, hl, hrl, hone, .inr ⟨b, base + off, had, fun j u hj => by rw [cell_at h1]; exact hcs j u hj⟩⟩
      · cases he
  | _ => simp [srcCells] at he

/-- A source's first cells, read. -/
theorem run_first {s k n : Nat} {v : Value} {ad : Option Addr} {cap : Nat} {vs : List Value} (hv : v = .slice ad k cap) (hn : n ≤ k) (hl : vs.length = k * s)
    (h : vs = [] ∨ ∃ b off, ad = some ⟨b, off, none⟩ ∧ ∀ (j : Nat) u, vs[j]? = some u → w.cell? ⟨b, off + j, none⟩ = some u) : (Builtin.firstCells s n v).run P w = .ok (vs.take (n * s)).toArray w := by
  subst hv
  have hle : n * s ≤ k * s := Nat.mul_le_mul_right _ hn
  rcases h with h | ⟨b, off, rfl, hc⟩
  · subst h
    have h0 : n * s = 0 := by rw [← hl] at hle; simpa using hle
    cases ad with
    | none => simp [Builtin.firstCells]
    | some a' => simp [Builtin.firstCells, h0, loadCells, loadCellsFrom]
  · have hlen : (vs.take (n * s)).length = n * s := by simp; omega
    refine run_firstCells_some w s n ⟨b, off, none⟩ k cap _ hlen fun j u hj => ?_
    rw [add_lit']
    rw [List.getElem?_take] at hj
    split at hj
    · exact hc j u hj
    · cases hj

theorem run_append_room' {t ty e : TypeId} {i : TypeInfo} (ht : P.underlying t = some (.slice e)) (hi : P.info? e = some i) (ad ad2 : Option Addr) (sLen sCap k c2 : Nat) (news : Array Value) (w' : World)
    (hf : (Builtin.firstCells i.size k (.slice ad2 k c2)).run P w = .ok news w) (hroom : sLen + k ≤ sCap)
    (hst : ∀ a', ad = some a' → (storeCells (a'.add (sLen * i.size)) news.toList).run P w = .ok () w') (hst0 : ad = none → w' = w) :
    (Builtin.append_ #[t, t] ty #[.slice ad sLen sCap, .slice ad2 k c2]).run P w = .ok (.slice ad (sLen + k) sCap) w' := by
  cases ad with
  | none => rw [hst0 rfl]; simp [Builtin.append_, run_underlying ht, sizeOf, typeInfo, hi, Builtin.lenOf, hroom, hf]
  | some a' => simp [Builtin.append_, run_underlying ht, sizeOf, typeInfo, hi, Builtin.lenOf, hroom, hf, hst a' rfl]

theorem run_append_grow' {t ty e : TypeId} {i : TypeInfo} {z : Value} (ht : P.underlying t = some (.slice e)) (hi : P.info? e = some i) (hz : i.zero = some z) (ad ad2 : Option Addr) (sLen sCap k c2 : Nat) (olds news : Array Value)
    (hf : (Builtin.firstCells i.size k (.slice ad2 k c2)).run P w.drew = .ok news w.drew) (hfo : (Builtin.firstCells i.size sLen (.slice ad sLen sCap)).run P w.drew = .ok olds w.drew)
    (hg : sCap < sLen + k) (h63 : sLen + k ≤ 140737488355328) (hb : (sLen + k) * i.bytes ≤ 140737488355328) :
    (Builtin.append_ #[t, t] ty #[.slice ad sLen sCap, .slice ad2 k c2]).run P w =
      .ok (.slice (some ⟨w.heap.size, 0, none⟩) (sLen + k) (grownCap w (sLen + k) sCap e)) (w.drew.alloc (.cells (olds ++ news ++ Builtin.zeroCells z.cells (grownCap w (sLen + k) sCap e - (sLen + k))) e)) := by
  have hn : ¬ (sLen + k ≤ sCap) := by omega
  have h63' : ¬ (9223372036854775807 < ((sLen : Int) + (k : Int))) := by omega
  have h48 := growslice_fits hg hb
  have h48' : ¬ (281474976710656 < Builtin.nextslicecap (sLen + k) sCap * i.bytes) := by omega
  simp [Builtin.append_, run_underlying ht, sizeOf, typeInfo, zeroValue, hi, hz, Builtin.lenOf, hn, h63', h48', Question.forced, hf, hfo, newRow, grownCap]
end
end Go.Vw
