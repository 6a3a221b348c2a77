import Derived.Test.YtcpncecdegmliaaC30
import Derived.Test.YtcpncecdegmliaaC16
/-
  Part of the proof (texts BRows).
-/
set_option linter.unusedVariables false
set_option linter.unusedSimpArgs false
namespace Go.Vw
open Go.Proofs Go.RowKit
set_option maxRecDepth 10000
inductive Rows {α : Type} (T : Store) (tys : List Ty) (enc : α → V) : List α → List (List V) → List Nat → Prop
 | nil : Rows T tys enc [] [] []
 | cons {x : α} {r : List V} {ii : List Nat} {xs : List α} {rs : List (List V)} {ids : List Nat} (h : OwL T tys r (enc x).cells ii) (t : Rows T tys enc xs rs ids) : Rows T tys enc (x :: xs) (r :: rs) (ii ++ ids)
section
variable {α : Type} {T T' : Store} {tys : List Ty} {enc : α → V}
theorem rows_of (hs : ∀ x, (enc x).cells.length = tys.length) : ∀ {xs : List α} {cells : List V} {ids : List Nat}, OwL T (reps xs.length tys) cells (flatC enc xs) ids → ∃ rs, cells = rs.flatten ∧ rs.length = xs.length ∧ Rows T tys enc xs rs ids
 | [], cells, ids, h => by
  rw [List.length_nil, reps_zero] at h
  cases h with
  | nil => exact ⟨[], rfl, rfl, .nil⟩
 | x :: xs, cells, ids, h => by
  rw [List.length_cons, reps_succ] at h
  obtain ⟨r1, r2, x1, x2, i1, i2, rfl, hx, rfl, k1, k2⟩ := h.split
  have e : flatC enc (x :: xs) = (enc x).cells ++ flatC enc xs := by simp [flatC]
  rw [e] at hx
  obtain ⟨rfl, rfl⟩ := List.append_inj hx (by rw [hs, k1.len.2])
  obtain ⟨rs, rfl, hl, hr⟩ := rows_of hs k2
  exact ⟨r1 :: rs, rfl, by simp [hl], .cons k1 hr⟩
theorem Rows.owl {xs : List α} {rs : List (List V)} {ids : List Nat} (h : Rows T tys enc xs rs ids) : OwL T (reps xs.length tys) rs.flatten (flatC enc xs) ids := by
 induction h with
 | nil => exact .nil
 | @cons x r ii xs rs ids h t ih =>
  have e : flatC enc (x :: xs) = (enc x).cells ++ flatC enc xs := by simp [flatC]
  rw [List.length_cons, reps_succ, List.flatten_cons, e]
  exact h.append ih
theorem Rows.mono {xs : List α} {rs : List (List V)} {ids : List Nat} (h : Rows T tys enc xs rs ids) : (∀ o ∈ ids, T'.get o = T.get o) → Rows T' tys enc xs rs ids := by
 induction h with
 | nil => exact fun _ => .nil
 | cons h t ih => exact fun hk => .cons (h.mono fun o ho => hk o (by simp [ho])) (ih fun o ho => hk o (by simp [ho]))
theorem Rows.len {xs : List α} {rs : List (List V)} {ids : List Nat} (h : Rows T tys enc xs rs ids) : rs.length = xs.length ∧ ∀ r ∈ rs, r.length = tys.length := by
 induction h with
 | nil => simp
 | cons h t ih => exact ⟨by simp [ih.1], fun r hr => by rcases List.mem_cons.1 hr with rfl | hr; exact h.len.1; exact ih.2 r hr⟩
theorem Rows.del {κ : Type} (p : κ → List V → Bool) (nx : κ → List V → κ) (q : κ → α → Bool) (ny : κ → α → κ) {xs : List α} {rs : List (List V)} {ids : List Nat} (h : Rows T tys enc xs rs ids) :
  (∀ x r ii, x ∈ xs → OwL T tys r (enc x).cells ii → (∀ o ∈ ii, o ∈ ids) → ∀ a, p a r = q a x ∧ nx a r = ny a x) → ∀ a, ∃ ids', Rows T tys enc (delG q ny a xs).1 (delG p nx a rs).1 ids' ∧ ids'.Sublist ids ∧ (delG p nx a rs).2 = (delG q ny a xs).2 := by
 induction h with
 | nil => exact fun _ a => ⟨[], .nil, List.Sublist.refl _, rfl⟩
 | @cons x r ii xs rs ids h t ih =>
  intro hk a
  obtain ⟨h1, h2⟩ := hk x r ii (by simp) h (fun o ho => by simp [ho]) a
  obtain ⟨ids', k1, k2, k3⟩ := ih (fun y s jj hy ho hs => hk y s jj (by simp [hy]) ho fun o h => by simp [hs o h]) (ny a x)
  simp only [delG, h1, h2]
  by_cases hq : q a x = true
  ·rw [if_pos hq, if_pos hq]
   exact ⟨ids', k1, k2.trans (List.sublist_append_right _ _), k3⟩
  ·rw [if_neg hq, if_neg hq]
   exact ⟨ii ++ ids', .cons h k1, (List.Sublist.refl ii).append k2, k3⟩
end
theorem Rows.at {α : Type} {T : Store} {tys : List Ty} {enc : α → V} {xs : List α} {rs : List (List V)} {ids : List Nat} (h : Rows T tys enc xs rs ids) : ∀ {k : Nat} {x : α}, xs[k]? = some x → ∃ (r1 : List (List V)) (r : List V) (r2 : List (List V)) (i1 ii i2 : List Nat), rs = r1 ++ r :: r2 ∧ r1.length = k ∧ ids = i1 ++ (ii ++ i2) ∧ OwL T tys r (enc x).cells ii ∧
  ∀ (T' : Store) (r' : List V) (x' : α) (ii' : List Nat), (∀ o ∈ i1 ++ i2, T'.get o = T.get o) → OwL T' tys r' (enc x').cells ii' → Rows T' tys enc (xs.set k x') (r1 ++ r' :: r2) (i1 ++ (ii' ++ i2)) := by
 induction h with
 | nil => intro k x hx; simp at hx
 | @cons y r ii xs rs ids h t ih =>
  intro k x hx
  cases k with
  | zero =>
   simp only [List.getElem?_cons_zero, Option.some.injEq] at hx
   subst hx
   exact ⟨[], r, rs, [], ii, ids, rfl, rfl, rfl, h, fun T' r' x' ii' hk ho => Rows.cons (ids := ids) ho (t.mono fun o hm => hk o (by simpa using hm))⟩
  | succ k =>
   obtain ⟨r1, s, r2, i1, jj, i2, e1, e2, e3, e4, e5⟩ := ih (k := k) (x := x) (by simpa using hx)
   subst e1; subst e3
   refine ⟨r :: r1, s, r2, ii ++ i1, jj, i2, rfl, by simp [e2], by simp, e4, fun T' r' x' ii' hk ho => ?_⟩
   have := Rows.cons (x := y) (h.mono fun o hm => hk o (by simp [hm])) (e5 T' r' x' ii' (fun o hm => hk o (by
    rcases List.mem_append.1 hm with hm | hm <;> simp [hm])) ho)
   simpa using this
theorem flat_mid {m : Nat} {r1 : List (List V)} {r : List V} {r2 : List (List V)} {k q : Nat} {w : V} (h1 : ∀ s ∈ r1, s.length = m) (hk : r1.length = k) (hr : r[q]? = some w) : (r1 ++ r :: r2).flatten[k * m + q]? = some w := by
 have hq : q < r.length := (List.getElem?_eq_some_iff.1 hr).1
 have hl := flat_length h1
 rw [hk] at hl
 rw [List.flatten_append, List.flatten_cons, ← hl, List.getElem?_append_right (by omega), Nat.add_sub_cancel_left, List.getElem?_append_left hq]
 exact hr
theorem flat_set {m : Nat} {r1 : List (List V)} {r : List V} {r2 : List (List V)} {k q : Nat} {w : V} (h1 : ∀ s ∈ r1, s.length = m) (hk : r1.length = k) (hq : q < r.length) : (r1 ++ r :: r2).flatten.set (k * m + q) w = (r1 ++ r.set q w :: r2).flatten := by
 have hl := flat_length h1
 rw [hk] at hl
 rw [List.flatten_append, List.flatten_cons, ← hl, List.set_append_right _ _ (by omega), Nat.add_sub_cancel_left, List.set_append_left _ _ hq, List.flatten_append, List.flatten_cons]
theorem ins_row {T : Store} {x : Ss.Ins} {r : List V} {ii : List Nat} (h : OwL T insD r (encIns x).cells ii) : ∃ oa ou, r = [vint x.op, vu x.n, .slice oa 0 x.args.length, .slice ou 0 x.outs.length] ∧ ii = [oa, ou] ∧ T.get oa = some (1, x.args.map vint) ∧ T.get ou = some (1, x.outs.map vint) := by
 rw [encIns_cells] at h
 generalize hA : vl vint x.args = A at h
 generalize hB : vl vint x.outs = B at h
 cases h with
 | c h1 h => cases h with
  | c h2 h => cases h with
   | @s _ _ _ _ ca ys i j oa ho hs d h => cases h with
    | @s _ _ _ _ cb zs i2 j2 ou ho2 hs2 d2 h => cases h with
     | nil =>
      have e1 : ys = x.args.map vint := by
       have : V.list (x.args.map vint) = V.list ys := hA
       exact (V.list.inj this).symm
      have e2 : zs = x.outs.map vint := by
       have : V.list (x.outs.map vint) = V.list zs := hB
       exact (V.list.inj this).symm
      subst e1; subst e2
      have c1 := own_closed (n := (x.args.map vint).length * 1) (by rw [← reps_c]; exact d)
      have c2 := own_closed (n := (x.outs.map vint).length * 1) (by rw [← reps_c]; exact d2)
      rw [flatC_map, flatC_vint] at c1 c2
      refine ⟨oa, ou, by simp, ?_, ?_, ?_⟩
      ·rw [c1.2, c2.2]; rfl
      ·rw [ho, c1.1]; rfl
      ·rw [ho2, c2.1]; rfl
theorem block_row {T : Store} {b : Ss.Block} {r : List V} {ii : List Nat} (h : OwL T blkD r (encBlock b).cells ii) : ∃ (op oc oe : Nat) (rs : List (List V)) (ce : List V) (ip ic ie : List Nat), r = [.slice op 0 b.params.length, .slice oc 0 b.code.length, vint b.term.kind, vint b.term.arg, .slice oe 0 b.term.to.length, vl vint b.term.args] ∧ ii = op :: oc :: (ic ++ oe :: ie) ∧
  T.get op = some (1, b.params.map vint) ∧ T.get oc = some (4, rs.flatten) ∧ Rows T insD encIns b.code rs ic ∧ T.get oe = some (2, ce) ∧ OwL T (reps b.term.to.length edgeD) ce (flatC encEdge b.term.to) ie := by
 rw [encBlock_cells] at h
 generalize hA : vl vint b.params = A at h
 generalize hB : vl encIns b.code = B at h
 generalize hC : vl encEdge b.term.to = C at h
 cases h with
 | @s _ _ _ _ ca ys i j op ho hs d h => cases h with
  | @s _ _ _ _ cb zs i2 j2 oc ho2 hs2 d2 h => cases h with
   | c h1 h => cases h with
    | c h2 h => cases h with
     | @s _ _ _ _ cc us i3 j3 oe ho3 hs3 d3 h => cases h with
      | c h3 h => cases h with
       | nil =>
        have e1 : ys = b.params.map vint := by
         have : V.list (b.params.map vint) = V.list ys := hA
         exact (V.list.inj this).symm
        have e2 : zs = b.code.map encIns := by
         have : V.list (b.code.map encIns) = V.list zs := hB
         exact (V.list.inj this).symm
        have e3 : us = b.term.to.map encEdge := by
         have : V.list (b.term.to.map encEdge) = V.list us := hC
         exact (V.list.inj this).symm
        subst e1; subst e2; subst e3
        have c1 := own_closed (n := (b.params.map vint).length * 1) (by rw [← reps_c]; exact d)
        rw [flatC_map, flatC_vint] at c1
        rw [List.length_map, flatC_map] at d2 d3
        obtain ⟨rs, rfl, hl, hr⟩ := rows_of (fun x => by rw [encIns_cells]; rfl) d2
        refine ⟨op, oc, oe, rs, cc, [], i2, i3, by simp, ?_, ?_, ho2, hr, ho3, d3⟩
        ·rw [c1.2]; simp
        ·rw [ho, c1.1]; rfl
theorem block_mk {T : Store} {b : Ss.Block} {op oc oe : Nat} {rs : List (List V)} {ce : List V} {ic ie : List Nat} (h1 : T.get op = some (1, b.params.map vint)) (h2 : T.get oc = some (4, rs.flatten)) (h3 : Rows T insD encIns b.code rs ic) (h4 : T.get oe = some (2, ce)) (h5 : OwL T (reps b.term.to.length edgeD) ce (flatC encEdge b.term.to) ie) :
  OwL T blkD [.slice op 0 b.params.length, .slice oc 0 b.code.length, vint b.term.kind, vint b.term.arg, .slice oe 0 b.term.to.length, vl vint b.term.args] (encBlock b).cells (op :: oc :: (ic ++ oe :: ie)) := by
 rw [encBlock_cells]
 have hP : OwL T (.s [.c] :: [.s insD, .c, .c, .s edgeD, .c]) (.slice op 0 b.params.length :: [.slice oc 0 b.code.length, vint b.term.kind, vint b.term.arg, .slice oe 0 b.term.to.length, vl vint b.term.args]) (vl vint b.params :: [vl encIns b.code, vint b.term.kind, vint b.term.arg, vl encEdge b.term.to, vl vint b.term.args]) (op :: oc :: (ic ++ oe :: ie)) := by
  refine OwL.slice (s := 1) (enc := vint) (fun _ => rfl) (fun _ => rfl) b.params (by rw [flatC_vint]; exact h1) ?_
  have h6 := h3.owl
  have t1 : OwL T [.s edgeD, .c] [.slice oe 0 b.term.to.length, vl vint b.term.args] [vl encEdge b.term.to, vl vint b.term.args] (oe :: ie) := by
   have := OwL.s (S := T) (o := oe) (tys := edgeD) (cells := ce) (ys := b.term.to.map encEdge) (i := ie) (j := []) h4 (fun y hy => (by
    obtain ⟨e, _, rfl⟩ := List.mem_map.1 hy
    exact ⟨by rw [encEdge_cells]; rfl, encEdge_closed e⟩)) (by rw [List.length_map, flatC_map]; exact h5) (.c (x := vl vint b.term.args) rfl .nil)
   rw [List.length_map, List.append_nil] at this
   exact this
  have := OwL.s (S := T) (o := oc) (tys := insD) (cells := rs.flatten) (ys := b.code.map encIns) (i := ic) (j := oe :: ie) h2 (fun y hy => (by
   obtain ⟨e, _, rfl⟩ := List.mem_map.1 hy
   exact ⟨by rw [encIns_cells]; rfl, encIns_closed e⟩)) (by rw [List.length_map, flatC_map]; exact h6) (.c (x := vint b.term.kind) rfl (.c (x := vint b.term.arg) rfl t1))
  rw [List.length_map] at this
  exact this
 exact hP
end Go.Vw
