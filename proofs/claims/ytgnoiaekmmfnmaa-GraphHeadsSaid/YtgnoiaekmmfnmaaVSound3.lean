import Derived.Test.YtgnoiaekmmfnmaaVSound2
/-
  Each operation over values without addresses is the model's: what makes memory.
-/
set_option linter.unusedVariables false
namespace Go.Vw
open Go.RowKit

section
variable {P : Program} {N : Nat} {S : Store} {m : Imm} {β : Objs} {w : World} {σ : Fr} {a : Act}

theorem zeroV_spec {t : TypeId} {z : List V} (h : Program.zeroV P t = some z) : ∃ i zv, P.info? t = some i ∧ i.zero = some zv ∧ zv.cells.size = i.size ∧ z.length = i.size ∧
    ∀ (j : Nat) x, z[j]? = some x → ∃ u, zv.cells[j]? = some u ∧ RepI m x u ∧ u.oneCell' = true ∧ x.one = true := by
  unfold Program.zeroV at h
  split at h
  · rename_i i hi
    split at h
    · rename_i zv hz
      split at h
      · rename_i hs
        obtain ⟨h1, h2⟩ := mapM_get h
        refine ⟨i, zv, hi, hz, hs, by rw [← h1]; simpa using hs, fun j x hx => ?_⟩
        have hlt : j < zv.cells.toList.length := by rw [h1]; exact (List.getElem?_eq_some_iff.1 hx).1
        have hc := h2 j _ x (List.getElem?_eq_getElem hlt) hx
        have hlt' : j < zv.cells.size := by simpa using hlt
        exact ⟨_, by rw [← Array.getElem?_toList]; exact List.getElem?_eq_getElem hlt, constV1_rep hc, (constV1_one hc).1, (constV1_one hc).2⟩
      · cases h
    · cases h
  · cases h

/-- What stands behind an append in place or not. -/
theorem append_new {S' : Store} {m : Imm} {β : Objs} {w0 w : World} (hS : Holds S' m β w) (hw : ∀ k, k < w0.heap.size → w.heap[k]? = w0.heap[k]?) (hsz : w.heap.size = w0.heap.size)
    {s : Nat} {new : List V} {T : TypeId} (arr : Array Value) (len cap : Nat) (hle : new.length ≤ arr.size) (hlc : len ≤ cap) (hcm : cap ≤ maxLen) (harr : cap * s ≤ arr.size)
    (hr : ∀ (i : Nat) x, new[i]? = some x → ∃ v, arr[i]? = some v ∧ Rep m β x v ∧ v.oneCell' = true) :
    ∃ β', Rep m β' (.slice S'.nx 0 len) (.slice (some ⟨w.heap.size, 0, none⟩) len cap) ∧ Holds (S'.add (s, new)) m β' (w.alloc (.cells arr T)) ∧ Ext m β w m β' (w.alloc (.cells arr T)) := by
  obtain ⟨h1, h2, h3⟩ := hS.alloc arr T s new hle hr
  refine ⟨_, ?_, h1, h2⟩
  have := Rep.slice (m := m) (β := β.set S'.nx (.lies w.heap.size 0 s arr.size)) S'.nx 0 len w.heap.size 0 s arr.size cap (some ⟨w.heap.size, 0, none⟩) h3 hlc hcm (.inr ⟨rfl, by simpa using harr⟩)
  exact this

theorem Ext.drewl {m : Imm} {β : Objs} {w : World} {m' : Imm} {β' : Objs} {w' : World} (h : Ext m β w.drew m' β' w') : Ext m β w m' β' w' := (Ext.drew m β w).trans h

/-- Dropping an object is a step. -/
theorem Ext.dropNew {m : Imm} {β β' : Objs} {w w' : World} {o : Nat} (h : Ext m (β.set o .dead) w m β' w') (hm : ∀ b, (β o).block? = some b → m b = none) : Ext m β w m β' w' := by
  refine ⟨h.imm, (Step.kill β o).trans h.step, h.size, fun b hb h1 h2 => ?_, h.os, h.tape, h.output⟩
  refine h.keep b hb h1 fun o' ho' => ?_
  by_cases e : o' = o
  · subst e; rw [Objs.set_same] at ho'; cases ho'
  · rw [Objs.set_other _ _ e] at ho'; exact h2 o' ho'

theorem does_append {o : Oper} {t e : TypeId} {i : TypeInfo} {zs : List V} {y u : Operand} {yz uz : Arg} {x : V} {S' : Store} (ho : o.op = .call { callee := .builtin .append, args := #[y, u], argTypes := #[t, t] })
    (hs : Program.slc P t = some (e, i)) (hzv : Program.zeroV P e = some zs) (h0 : 0 < i.size) (hy : argOf y = some yz) (hu : argOf u = some uz) (hS : Holds S m β w) (hF : FrameRep N m β σ a)
    (he : opAppend i.size i.bytes S (ev σ yz) (ev σ uz) = some (x, S')) : Does P ((execOp a.eval o).run P w) x S' m β w := by
  obtain ⟨hut, hi⟩ := slc_spec hs
  obtain ⟨i', z, hi', hz, hzs, _⟩ := zeroV_spec (m := m) hzv
  rw [hi] at hi'; cases hi'
  have hry := ev_rep hF hy
  have hru := ev_rep hF hu
  generalize ev σ yz = p at he hry
  generalize ev σ uz = q at he hru
  simp only [opAppend] at he
  cases hq : srcCells i.size S q with
  | none => simp [hq] at he
  | some nk =>
    obtain ⟨new, k⟩ := nk
    simp only [hq] at he
    obtain ⟨ad2, c2, e2, hk2, hcm2, vs, hvl, hvr, hvo, hvc⟩ := src_spec hS hru hq
    have hnl : new.length = k * i.size := by rw [hvr.1, hvl]
    have hvc' : vs = [] ∨ ∃ b off, ad2 = some ⟨b, off, none⟩ ∧ ∀ (j : Nat) u, vs[j]? = some u → w.drew.cell? ⟨b, off + j, none⟩ = some u := hvc
    have hf : (Builtin.firstCells i.size k (.slice ad2 k c2)).run P w = .ok vs.toArray w := by
      have := run_first (P := P) (n := k) (v := .slice ad2 k c2) rfl (Nat.le_refl k) hvl hvc
      rwa [List.take_of_length_le (by omega)] at this
    have hfd : (Builtin.firstCells i.size k (.slice ad2 k c2)).run P w.drew = .ok vs.toArray w.drew := by
      have := run_first (P := P) (n := k) (v := .slice ad2 k c2) rfl (Nat.le_refl k) hvl hvc'
      rwa [List.take_of_length_le (by omega)] at this
    have run : ∀ ad (sl sc : Nat) v' w', a.eval y = .slice ad sl sc → (Builtin.append_ #[t, t] o.type #[.slice ad sl sc, .slice ad2 k c2]).run P w = .ok v' w' → (execOp a.eval o).run P w = .ok (.value v') w' := by
      intro ad sl sc v' w' h1 h2
      simp [execOp, ho, resolve, invoke, builtin, h1, e2, h2]
    -- a new row
    have grow : ∀ ad (sl sc : Nat) (old : List V) (ovs : List Value) (S1 : Store) (β1 : Objs), a.eval y = .slice ad sl sc → old.length = sl * i.size → RepL m β old ovs → (∀ v ∈ ovs, v.oneCell' = true) →
        (Builtin.firstCells i.size sl (.slice ad sl sc)).run P w.drew = .ok ovs.toArray w.drew → sc < sl + k → (sl + k) * i.bytes ≤ 140737488355328 → sl + k ≤ 140737488355328 →
        Holds S1 m β1 w → Step β β1 → (∀ β' w', Ext m β1 w m β' w' → Ext m β w m β' w') → Does P ((execOp a.eval o).run P w) (.slice S1.nx 0 (sl + k)) (S1.add (i.size, old ++ new)) m β w := by
      intro ad sl sc old ovs S1 β1 h1 h2 h3 h4 h5 h6 h7 h8 h9 h10 h11
      have hr := run_append_grow' (P := P) (w := w) (ty := o.type) hut hi hz ad ad2 sl sc k c2 ovs.toArray vs.toArray hfd h5 h6 h8 h7
      have hge := grownCap_ge w (sl + k) sc e
      have hcm := grownCap_le_maxLen w (sl + k) sc e (by unfold maxLen; omega)
      generalize grownCap w (sl + k) sc e = gc at hr hge hcm
      have h9d : Holds S1 m β1 w.drew := h9.drew
      have hzl : (Builtin.zeroCells z.cells (gc - (sl + k))).size = (gc - (sl + k)) * i.size := by rw [size_zeroCells, hzs]
      have hol : ovs.length = sl * i.size := by rw [← h3.1, h2]
      have hsz : (ovs.toArray ++ vs.toArray ++ Builtin.zeroCells z.cells (gc - (sl + k))).size = gc * i.size := by
        simp only [Array.size_append, List.size_toArray, hzl, hol, hvl, ← Nat.add_mul]
        congr 1; omega
      obtain ⟨β', g1, g2, g3⟩ := append_new (S' := S1) (w0 := w.drew) h9d (fun _ _ => rfl) rfl (s := i.size) (new := old ++ new) (T := e) (ovs.toArray ++ vs.toArray ++ Builtin.zeroCells z.cells (gc - (sl + k))) (sl + k) gc
        (by rw [hsz, List.length_append, h2, hnl, ← Nat.add_mul]; exact Nat.mul_le_mul_right _ hge) hge hcm (by rw [hsz]; exact Nat.le_refl _) (fun j x hx => by
          have hxl := (RepL.append h3 hvr)
          have hj : j < (old ++ new).length := (List.getElem?_eq_some_iff.1 hx).1
          have hj2 : j < (ovs ++ vs).length := by rw [← hxl.1]; exact hj
          refine ⟨(ovs ++ vs)[j], ?_, (hxl.2 j x _ hx (List.getElem?_eq_getElem hj2)).mono (fun _ _ h => h) h10, ?_⟩
          · rw [Array.getElem?_append, if_pos (by simpa using hj2)]
            simp [List.getElem?_append, List.getElem_append]
            split <;> simp_all
          · have hmem := List.getElem_mem hj2
            rcases List.mem_append.1 hmem with h | h
            · exact h4 _ h
            · exact hvo _ h)
      exact ⟨_, _, m, β', .inl (run ad sl sc _ _ h1 hr), g1, g2, h11 _ _ (Ext.drewl g3)⟩
    -- an empty one
    have empty : ∀ ad (S1 : Store) (β1 : Objs), a.eval y = .slice ad 0 0 → k = 0 → Holds S1 m β1 w → (∀ β' w', Ext m β1 w m β' w' → Ext m β w m β' w') →
        Does P ((execOp a.eval o).run P w) (.slice S1.nx 0 0) (S1.add (i.size, new)) m β w := by
      intro ad S1 β1 h1 h2 h3 h4
      subst h2
      have hv0 : vs = [] := List.eq_nil_of_length_eq_zero (by simpa using hvl)
      have hn0 : new = [] := List.eq_nil_of_length_eq_zero (by simpa using hnl)
      subst hv0; subst hn0
      have hr := run_append_room' (P := P) (w := w) (ty := o.type) hut hi ad ad2 0 0 0 c2 #[] w hf (Nat.le_refl _) (fun a' _ => by simp [storeCells]) (fun _ => rfl)
      obtain ⟨g1, g2, g3⟩ := h3.addVoid i.size
      exact ⟨_, _, m, _, .inl (run ad 0 0 _ _ h1 hr), .sliceVoid S1.nx 0 ad g3, g1, h4 _ _ g2⟩
    cases p with
    | nils =>
      simp only at he
      split at he
      · rename_i hb
        cases he
        obtain ⟨ad, e1⟩ := hry.inv_nils
        by_cases hk : k = 0
        · have := empty ad S β e1 hk hS (fun _ _ h => h)
          rw [hk]; exact this
        · have hf0 : (Builtin.firstCells i.size 0 (.slice ad 0 0)).run P w.drew = .ok ([] : List Value).toArray w.drew := by
            have := run_first (P := P) (w := w.drew) (s := i.size) (n := 0) (k := 0) (v := .slice ad 0 0) (vs := []) rfl (Nat.le_refl _) (by simp) (.inl rfl)
            simpa using this
          have := grow ad 0 0 [] [] S β e1 (by simp) (RepL.nil _ _) (by simp) hf0 (by omega) (by rw [Nat.zero_add]; exact hb.1) (by omega) hS (Step.refl β) (fun _ _ h => h)
          simpa using this
      · cases he
    | slice o' off len =>
      simp only at he
      cases hc : S.get o' with
      | none => simp [hc] at he
      | some c =>
        simp only [hc] at he
        split at he
        · rename_i hcond
          obtain ⟨hc1, hc2, hc3, hc4⟩ := hcond
          cases he
          obtain ⟨ad, cap, e1, hlc, hcm, hcase⟩ := hry.inv_slice (hS.alive hc)
          have hlt := hS.lt hc
          have hdrop := hS.drop o' hlt
          have hext : ∀ β' w', Ext m (β.set o' .dead) w m β' w' → Ext m β w m β' w' := fun β' w' h => h.dropNew fun b hb => hS.apart o' b hb
          have hnone : ∀ ad, a.eval y = .slice ad 0 0 → len = 0 → Does P ((execOp a.eval o).run P w) (.slice S.nx 0 (len + k)) ((S.del o').add (i.size, (c.2.drop off).take (len * i.size) ++ new)) m β w := by
            intro ad h1e hl0
            subst hl0
            have e0 : (c.2.drop off).take (0 * i.size) = [] := by simp
            rw [e0]
            by_cases hk : k = 0
            · have := empty ad (S.del o') (β.set o' .dead) h1e hk hdrop hext
              rw [hk]; exact this
            · have hf0 : (Builtin.firstCells i.size 0 (.slice ad 0 0)).run P w.drew = .ok ([] : List Value).toArray w.drew := by
                have := run_first (P := P) (w := w.drew) (s := i.size) (n := 0) (k := 0) (v := .slice ad 0 0) (vs := []) rfl (Nat.le_refl _) (by simp) (.inl rfl)
                simpa using this
              exact grow ad 0 0 [] [] (S.del o') (β.set o' .dead) h1e (by simp) (RepL.nil _ _) (by simp) hf0 (by omega) hc3 hc4 hdrop (Step.kill β o') hext
          rcases hcase with ⟨hv, h1, h2⟩ | ⟨b, base, s, n, hob, hcase⟩
          · subst h2; subst h1; exact hnone ad e1 rfl
          · rcases hcase with hcap | ⟨had, hroom⟩
            · have hl0 : len = 0 := by omega
              subst hcap; subst hl0; exact hnone ad e1 rfl
            · subst had
              obtain ⟨hs', arr, T, h1, h2, h3, h4⟩ := hS.cells_at hc hob
              have hss : s = i.size := by rw [← hs', hc1]
              subst hss
              obtain ⟨ovs, hl, hcs, hrl, hone⟩ := cells_vals h4 off (len * i.size) hc2
              have holen : ((c.2.drop off).take (len * i.size)).length = len * i.size := by simp; omega
              by_cases hrm : len + k ≤ cap
              · -- in place
                have hbk : (len + k) * i.size ≤ cap * i.size := Nat.mul_le_mul_right _ hrm
                rw [Nat.add_mul] at hbk
                have hst := run_storeCells_at P b (base + off + len * i.size) T vs 0 arr w h1 (by rw [hvl, h2]; omega) hvo
                have hr := run_append_room' (P := P) (w := w) (ty := o.type) hut hi (some ⟨b, base + off, none⟩) ad2 len cap k c2 vs.toArray _ hf hrm (fun a' ha' => by cases ha'; rw [add_lit']; simpa using hst) (fun h => by cases h)
                have hbl : (β o').block? = some b := by rw [hob]; rfl
                have hβn : β S.nx = .fresh := hS.nx_fresh
                have hnd : (β.set o' .dead) S.nx = .fresh := by rw [Objs.set_other _ _ (by omega)]; exact hβn
                have hstp : Step β ((β.set o' .dead).set S.nx (.lies b (base + off) i.size n)) := (Step.kill β o').trans (Step.fresh hnd _)
                have hfreeb : ∀ o2, ((β.set o' .dead) o2).block? ≠ some b := by
                  intro o2 h
                  by_cases e3 : o2 = o'
                  · subst e3; rw [Objs.set_same] at h; cases h
                  · rw [Objs.set_other _ _ e3] at h; exact e3 (hS.inj _ _ b h hbl)
                have hmb := hS.apart o' b hbl
                have hcnt : ((c.2.drop off).take (len * i.size) ++ new).length = (len + k) * i.size := by rw [List.length_append, holen, hnl, Nat.add_mul]
                refine ⟨_, _, m, (β.set o' .dead).set S.nx (.lies b (base + off) i.size n), .inl (run _ len cap _ _ e1 hr), ?_, ?_, ?_⟩
                · have := Rep.slice (m := m) (β := (β.set o' .dead).set S.nx (.lies b (base + off) i.size n)) S.nx 0 (len + k) b (base + off) i.size n cap (some ⟨b, base + off, none⟩) (Objs.set_same _ _ _) hrm hcm (.inr ⟨rfl, by simpa using hroom⟩)
                  exact this
                · refine hdrop.new (S := S.del o') (by intro h; cases h) (fun b' o2 hb' => setRow_other w b b' _ (fun e3 => by subst e3; rw [hmb] at hb'; cases hb')) (fun o2 b' hb' => setRow_other w b b' _ (fun e3 => by subst e3; exact hfreeb o2 hb')) ?_ ?_
                  · intro b' hb'
                    cases hb'
                    exact ⟨hmb, hfreeb⟩
                  · refine ⟨rfl, _, T, setRow_heap w b arr _ T (0, 0) h1, ?_, ?_, fun j x hx => ?_⟩
                    · simp; omega
                    · rw [hcnt, Nat.add_mul]; omega
                    · have hxl := RepL.append hrl hvr
                      have hj : j < ((c.2.drop off).take (len * i.size) ++ new).length := (List.getElem?_eq_some_iff.1 hx).1
                      have hj2 : j < (ovs ++ vs).length := by rw [← hxl.1]; exact hj
                      refine ⟨(ovs ++ vs)[j], ?_, (hxl.2 j x _ hx (List.getElem?_eq_getElem hj2)).mono (fun _ _ h => h) hstp, ?_⟩
                      · have hjb : j < len * i.size + k * i.size := by rw [hcnt, Nat.add_mul] at hj; exact hj
                        simp only [List.getElem?_toArray]
                        rw [← List.append_assoc, vsplice_get _ _ _ (by rw [hvl, Array.length_toList, h2]; omega)]
                        simp only [List.getElem_append]
                        split
                        · rename_i hlt2
                          rw [dif_pos (by omega)]
                          have := hcs j ovs[j] (List.getElem?_eq_getElem (by omega))
                          simpa [Nat.add_assoc] using this
                        · rename_i hge2
                          rw [if_pos (by omega), dif_neg (by omega)]
                          rw [List.getElem?_eq_getElem (by omega)]
                          congr 2; omega
                      · rcases List.mem_append.1 (List.getElem_mem hj2) with h | h
                        · exact hone _ h
                        · exact hvo _ h
                · refine ⟨fun _ _ h => h, hstp, by simp, fun b' hb' hm' hn' => ?_, rfl, rfl, rfl⟩
                  have hne : b' ≠ b := fun e3 => hn' o' (by rw [hbl, e3])
                  refine ⟨setRow_other w b b' _ hne, hm', fun o2 ho2 => ?_⟩
                  by_cases e4 : o2 = S.nx
                  · subst e4; rw [Objs.set_same] at ho2; cases ho2; exact hne rfl
                  · rw [Objs.set_other _ _ e4] at ho2
                    by_cases e5 : o2 = o'
                    · subst e5; rw [Objs.set_same] at ho2; cases ho2
                    · rw [Objs.set_other _ _ e5] at ho2; exact hn' o2 ho2
              · -- a new row
                have hfo : (Builtin.firstCells i.size len (.slice (some ⟨b, base + off, none⟩) len cap)).run P w.drew = .ok ovs.toArray w.drew := by
                  have hl' : ovs.length = len * i.size := hl
                  have := run_first (P := P) (w := w.drew) (s := i.size) (n := len) (k := len) (v := .slice (some ⟨b, base + off, none⟩) len cap) (vs := ovs) rfl (Nat.le_refl _) hl' (.inr ⟨b, base + off, rfl, fun j u hj => by
                    rw [World.cell?_drew, cell_at h1]; exact hcs j u hj⟩)
                  rwa [List.take_of_length_le (by omega)] at this
                exact grow _ len cap _ ovs (S.del o') (β.set o' .dead) e1 holen hrl hone hfo (by omega) hc3 hc4 hdrop (Step.kill β o') hext
        · cases he
    | _ => simp at he
end
end Go.Vw
