import Derived.Test.YtgnoiaekmmfnmaaVSound4
/-
  Each operation over values without addresses is the model's: make, variables, literals, arithmetic.
-/
set_option linter.unusedVariables false
namespace Go.Vw
open Go.RowKit

section
variable {P : Program} {N : Nat} {S : Store} {m : Imm} {β : Objs} {w : World} {σ : Fr} {a : Act}

theorem rep0_get (z : List V) (n : Nat) (hz : 0 < z.length) (q : Nat) : (rep0 z n)[q]? = if q < n * z.length then z[q % z.length]? else none := by
  have gen : ∀ (z : List V), 0 < z.length → ((List.replicate n z).flatten)[q]? = if q < n * z.length then z[q % z.length]? else none := by
    intro z hz
    have h := flatMap_get (fun _ : Unit => z) z.length hz (List.replicate n ()) (fun _ _ => rfl) q
    have e : (List.replicate n ()).flatMap (fun _ => z) = (List.replicate n z).flatten := by
      rw [List.flatMap_def, List.map_replicate]
    rw [e] at h
    rw [h, List.getElem?_replicate]
    by_cases hq : q / z.length < n
    · rw [if_pos hq, if_pos ((Nat.div_lt_iff_lt_mul hz).1 hq)]; rfl
    · rw [if_neg hq, if_neg (fun h => hq ((Nat.div_lt_iff_lt_mul hz).2 h))]; rfl
  match z, hz with
  | [x], _ =>
    simp only [rep0, List.getElem?_replicate, List.length_singleton, Nat.mul_one, Nat.mod_one]
    rfl
  | x :: y :: zs, _ => exact gen (x :: y :: zs) (by simp)

theorem rep0_length (z : List V) (n : Nat) : (rep0 z n).length = n * z.length := by
  match z with
  | [] => simp [rep0]
  | [x] => simp [rep0]
  | x :: y :: zs => simp [rep0]

theorem does_make {o : Oper} {t e : TypeId} {i : TypeInfo} {zs : List V} {l c : Operand} {lz cz : Arg} {x : V} {S' : Store} (ho : o.op = .makeSlice t l c) (hs : Program.slc P t = some (e, i)) (hz : Program.zeroV P e = some zs)
    (hl : argOf l = some lz) (hc : argOf c = some cz) (hS : Holds S m β w) (hF : FrameRep N m β σ a) (he : opMake i.size i.bytes zs S (ev σ lz) (ev σ cz) = some (x, S')) : Does P ((execOp a.eval o).run P w) x S' m β w := by
  obtain ⟨hut, hi⟩ := slc_spec hs
  obtain ⟨i', z, hi', hz', hzs, hzl, hzr⟩ := zeroV_spec (m := m) hz
  rw [hi] at hi'; cases hi'
  have r1 := ev_rep hF hl
  have r2 := ev_rep hF hc
  generalize ev σ lz = p at he r1
  generalize ev σ cz = q at he r2
  cases p with
  | int k1 ln =>
    cases q with
    | int k2 cn =>
      cases k1 <;> cases k2 <;> simp only [opMake] at he <;> try (cases he)
      split at he
      · rename_i hcond
        obtain ⟨c1, c2, c3, c4⟩ := hcond
        cases he
        have e1 := r1.inv_int
        have e2 := r2.inv_int
        have hr := run_make (P := P) w t e i z hut hi hz' .i64 .i64 ln cn c1 c2 (by rw [Int.mul_comm]; omega) (by omega)
        have hsz := size_madeCells z.cells (cn.toNat * i.size)
        have hcell : ∀ q, q < cn.toNat * i.size → (madeCells z.cells (cn.toNat * i.size))[q]? = some (z.cells[q % z.cells.size]!) := by
          intro q hq
          simp [madeCells, hq]
        obtain ⟨β', g1, g2, g3⟩ := append_new (S' := S) (w0 := w) hS (fun _ _ => rfl) rfl (s := i.size) (new := rep0 zs cn.toNat) (T := e) (madeCells z.cells (cn.toNat * i.size)) ln.toNat cn.toNat
          (by rw [rep0_length, hsz, hzl]; exact Nat.le_refl _) (by omega) (by unfold maxLen; omega) (by rw [hsz]; exact Nat.le_refl _) (fun q x hx => by
            by_cases h0 : 0 < zs.length
            · rw [rep0_get _ _ h0] at hx
              split at hx
              · rename_i hq
                rw [hzl] at hq
                rw [hcell q hq]
                obtain ⟨u, hu, hr', ho', _⟩ := hzr _ x hx
                rw [hzl, ← hzs] at hu
                refine ⟨u, ?_, .imm hr', ho'⟩
                rw [Array.getElem!_eq_getD, Array.getD_eq_getD_getElem?, hu]; rfl
              · cases hx
            · have e0 : (rep0 zs cn.toNat) = [] := List.eq_nil_of_length_eq_zero (by have h9 : zs.length = 0 := (by omega); rw [rep0_length, h9, Nat.mul_zero])
              rw [e0] at hx; cases hx)
        exact ⟨_, _, m, β', .inl (by simp [execOp, ho, e1, e2, hr]), g1, g2, g3⟩
      · cases he
    | _ => cases k1 <;> simp [opMake] at he
  | _ => simp [opMake] at he

theorem does_var {r : Result Next} {T : TypeId} {arr : Array Value} {cells : List V} (s : Nat) (hr : r = .ok (.value (.pointer (some ⟨w.heap.size, 0, none⟩))) (w.alloc (.cells arr T))) (hS : Holds S m β w) (hle : cells.length ≤ arr.size)
    (hc : ∀ (i : Nat) x, cells[i]? = some x → ∃ v, arr[i]? = some v ∧ Rep m β x v ∧ v.oneCell' = true) : Does P r (.ptr S.nx 0) (S.add (s, cells)) m β w := by
  obtain ⟨h1, h2, h3⟩ := hS.alloc arr T s cells hle hc
  refine ⟨_, _, m, _, .inl hr, ?_, h1, h2⟩
  exact Rep.ptr (m := m) S.nx 0 w.heap.size 0 s arr.size h3

theorem does_alloc {o : Oper} {t : TypeId} {zs : List V} (ho : o.op = .alloc t) (hz : Program.zeroV P t = some zs) (hS : Holds S m β w) : Does P ((execOp a.eval o).run P w) (.ptr S.nx 0) (S.add (zs.length, zs)) m β w := by
  obtain ⟨i, z, hi, hz', hzs, hzl, hzr⟩ := zeroV_spec (m := m) hz
  refine does_var zs.length (T := t) (arr := z.cells) ?_ hS (by rw [hzl, hzs]; exact Nat.le_refl _) fun j x hx => ?_
  · simp [execOp, ho, Instr.alloc, zeroValue, typeInfo, hi, hz', newVar, newRow]
  · obtain ⟨u, h1, h2, h3, _⟩ := hzr j x hx
    exact ⟨u, h1, .imm h2, h3⟩

theorem does_box {o : Oper} {t : TypeId} {y : Operand} {yz : Arg} (ho : o.op = .box t y) (hy : argOf y = some yz) (h1 : (ev σ yz).cells.all V.one = true) (hS : Holds S m β w) (hF : FrameRep N m β σ a) :
    Does P ((execOp a.eval o).run P w) (.ptr S.nx 0) (S.add ((ev σ yz).ncells, (ev σ yz).cells)) m β w := by
  obtain ⟨hl, hc⟩ := (ev_rep hF hy).cellwise h1
  refine does_var _ (T := t) (arr := (a.eval y).cells) ?_ hS (by omega) hc
  simp [execOp, ho, Instr.box, newVar, newRow]

theorem zipIdx_set (cs : Array Value) (off : Nat) : ∀ (l : List Value) (k : Nat) (acc : Array Value), off + k + l.length ≤ acc.size →
    ((l.zipIdx k).foldl (fun cs (p : Value × Nat) => cs.setIfInBounds (off + p.2) p.1) acc).toList = acc.toList.take (off + k) ++ l ++ acc.toList.drop (off + k + l.length)
  | [], k, acc, h => by simp
  | v :: r, k, acc, h => by
    simp only [List.zipIdx_cons, List.foldl_cons]
    rw [zipIdx_set cs off r (k + 1) _ (by simp at h ⊢; omega)]
    have := list_seg_step acc.toList (off + k) v r (by simp at h ⊢; omega)
    simpa [Nat.add_assoc] using this

theorem fill_spec (place : Nat → Option (Nat × Nat)) (cnv : Nat × Operand → Option (Nat × Nat × Arg)) (hcnv : ∀ p f, cnv p = some f → place p.1 = some (f.1, f.2.1) ∧ argOf p.2 = some f.2.2) (hF : FrameRep N m β σ a) :
    ∀ (parts : List (Nat × Operand)) (fs : List (Nat × Nat × Arg)) (cells : List V) (vs : Array Value) (out : List V), parts.mapM cnv = some fs → RepL m β cells vs.toList → (∀ v ∈ vs.toList, v.oneCell' = true) → opBuild (ev σ) cells fs = some out →
      ∃ us : Array Value, Instr.fill place vs (parts.map fun p => (p.1, a.eval p.2)) = some us ∧ RepL m β out us.toList ∧ (∀ v ∈ us.toList, v.oneCell' = true) ∧ out.length = cells.length
  | [], fs, cells, vs, out, hp, hr, h1, ho => by
    simp at hp; subst hp
    simp only [opBuild] at ho; cases ho
    exact ⟨vs, rfl, hr, h1, rfl⟩
  | p :: rest, fs, cells, vs, out, hp, hr, h1, ho => by
    simp only [List.mapM_cons, Option.bind_eq_bind, Option.bind_eq_some_iff] at hp
    obtain ⟨f, hf, fs', hfs', hp⟩ := hp
    simp at hp; subst hp
    obtain ⟨off, sz, x⟩ := f
    obtain ⟨hpl, harg⟩ := hcnv p _ hf
    simp only at hpl harg
    simp only [opBuild] at ho
    split at ho
    · rename_i hc
      obtain ⟨c1, c2, c3⟩ := hc
      have hrx := ev_rep hF harg
      obtain ⟨hl, hcw⟩ := hrx.cellwise c3
      have hxl : (ev σ x).cells.length = sz := by rw [← c1]; cases ev σ x <;> rfl
      have hvl : (a.eval p.2).cells.size = sz := by omega
      have hcl : cells.length = vs.size := by simpa using hr.1
      have hset := zipIdx_set vs off (a.eval p.2).cells.toList 0 vs (by simp; omega)
      generalize hvs' : ((a.eval p.2).cells.toList.zipIdx 0).foldl (fun cs (p : Value × Nat) => cs.setIfInBounds (off + p.2) p.1) vs = vs' at hset
      have hlx : off + (ev σ x).cells.length ≤ cells.length := by omega
      have hrs : RepL m β (splice cells off (ev σ x).cells) vs'.toList := by
        rw [hset]
        refine ⟨by rw [splice_length _ _ _ hlx]; simp; omega, fun i y v hy hv => ?_⟩
        rw [splice_get _ _ _ hlx] at hy
        simp only [Nat.add_zero] at hv
        rw [vsplice_get _ _ _ (by simp; omega)] at hv
        have e1 : (a.eval p.2).cells.toList.length = (ev σ x).cells.length := by simp; omega
        rw [e1] at hv
        split at hy
        · rename_i hi; rw [if_pos hi] at hv; exact hr.2 i y v hy hv
        · rename_i hi
          rw [if_neg hi] at hv
          split at hy
          · rename_i hi2
            rw [if_pos hi2] at hv
            obtain ⟨u, hu1, hu2, _⟩ := hcw _ y hy
            rw [← Array.getElem?_toList] at hu1
            rw [hu1] at hv; cases hv
            exact hu2
          · rename_i hi2; rw [if_neg hi2] at hv; exact hr.2 i y v hy hv
      have h1s : ∀ v ∈ vs'.toList, v.oneCell' = true := by
        intro v hv
        rw [hset] at hv
        rcases List.mem_append.1 hv with hv | hv
        · rcases List.mem_append.1 hv with hv | hv
          · exact h1 v (List.mem_of_mem_take hv)
          · obtain ⟨j, hj, rfl⟩ := List.getElem_of_mem hv
            have hj' : j < (ev σ x).cells.length := by simp at hj; omega
            obtain ⟨u, hu1, _, hu3⟩ := hcw j _ (List.getElem?_eq_getElem hj')
            rw [← Array.getElem?_toList, List.getElem?_eq_getElem hj] at hu1
            cases hu1; exact hu3
        · exact h1 v (List.mem_of_mem_drop hv)
      obtain ⟨us, g1, g2, g3, g4⟩ := fill_spec place cnv hcnv hF rest fs' _ vs' out hfs' hrs h1s ho
      refine ⟨us, ?_, g2, g3, by rw [g4, splice_length _ _ _ hlx]⟩
      simp only [List.map_cons, Instr.fill, hpl]
      rw [if_neg (by simp [hvl]; omega)]
      rw [← g1]
      congr 1
      rw [← hvs', ← Array.foldl_toList]
      simp [Array.toList_zipIdx]
    · cases ho
end
end Go.Vw
