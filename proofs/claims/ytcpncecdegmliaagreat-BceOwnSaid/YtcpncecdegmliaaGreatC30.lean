import Derived.Test.YtcpncecdegmliaaGreatC19
import Derived.Test.YtcpncecdegmliaaGreatC29
import Derived.Test.YtcpncecdegmliaaGreatC16
import Derived.Test.YtcpncecdegmliaaGreatC27
import Derived.Test.YtcpncecdegmliaaGreatC21
/-
  Part of the proof (texts VThaw, SShp, BClo, SCut).
-/
set_option linter.unusedVariables false
set_option linter.unusedSimpArgs false
/-
 Pure calls on what is owned: it stays owned. What is owned may be written to.
-/
namespace Go.Vw
open Go.RowKit
theorem OwL.write {S : Store} {ts : List Ty} {rs xs : List V} {ids : List Nat} (h : OwL S ts rs xs ids) {o s j : Nat} {cells : List V} {u v : V} (hg : S.get o = some (s, cells)) (hj : cells[j]? = some u) (hu : u.closed1 = true) (hv : v.closed1 = true) :
  ids.Nodup → ∃ xs', OwL (S.upd o (s, cells.set j v)) ts rs xs' ids := by
 induction h with
 | nil => exact fun _ => ⟨[], .nil⟩
 | c h _ ih =>
  intro hn
  obtain ⟨xs', h'⟩ := ih hn
  exact ⟨_, .c h h'⟩
 | @s tys ts rs xs cells' ys i j' o' h' hs d t ih1 ih2 =>
  intro hn
  obtain ⟨hno, hnij⟩ := List.nodup_cons.1 hn
  obtain ⟨hni, hnj, _⟩ := List.nodup_append.1 hnij
  obtain ⟨x2, t'⟩ := ih2 hnj
  by_cases e : o' = o
  ·subst e
   rw [hg] at h'
   cases h'
   -- the object itself: its cells are owned in the store of before
   have hoi : o' ∉ i := fun hm => hno (by simp [hm])
   have d0 : OwL (S.upd o' (tys.length, cells.set j v)) (reps ys.length tys) cells (ys.flatMap V.cells) i := d.mono fun q hq => upd_old fun e => hoi (e ▸ hq)
   have gen : ∀ {us : List Ty} {cs zs : List V} {ii : List Nat} {T : Store} {q : Nat}, OwL T us cs zs ii → cs[q]? = some u → ∃ zs', OwL T us (cs.set q v) zs' ii := by
    intro us cs zs ii T q hh
    induction hh generalizing q with
    | nil => intro hq; simp at hq
    | c hx tt ihh =>
     intro hq
     cases q with
     | zero => exact ⟨_, .c hv tt⟩
     | succ q =>
      obtain ⟨zs', h2⟩ := ihh (q := q) (by simpa using hq)
      exact ⟨_, .c hx h2⟩
    | s ho2 hs2 d2 t2 _ ihh =>
     intro hq
     cases q with
     | zero =>
      simp only [List.getElem?_cons_zero, Option.some.injEq] at hq
      rw [← hq] at hu; simp [V.closed1] at hu
     | succ q =>
      obtain ⟨zs', h2⟩ := ihh (q := q) (by simpa using hq)
      exact ⟨_, .s ho2 hs2 d2 h2⟩
   obtain ⟨zs', d1⟩ := gen d0 hj
   have hzl : zs'.length = ys.length * tys.length := by rw [d1.len.2, reps_len]
   obtain ⟨u1, u2, u3⟩ := unflat_spec tys.length ys.length zs' hzl d1.closed
   have hw := OwL.s (S := S.upd o' (tys.length, cells.set j v)) (o := o') (tys := tys) (cells := cells.set j v) (ys := unflat tys.length ys.length zs') upd_new u3 (by rw [u1, u2]; exact d1) t'
   rw [u1] at hw
   exact ⟨_, hw⟩
  ·obtain ⟨x1, d'⟩ := ih1 hni
   have hzl : x1.length = ys.length * tys.length := by rw [d'.len.2, reps_len]
   obtain ⟨u1, u2, u3⟩ := unflat_spec tys.length ys.length x1 hzl d'.closed
   have hw := OwL.s (S := S.upd o (s, cells.set j v)) (o := o') (tys := tys) (cells := cells') (ys := unflat tys.length ys.length x1) (by rw [upd_old e]; exact h') u3 (by rw [u1, u2]; exact d') t'
   rw [u1] at hw
   exact ⟨_, hw⟩
theorem OwL.elem {S : Store} {tys : List Ty} {cells xs : List V} {ids : List Nat} {n i : Nat} (h : OwL S (reps n tys) cells xs ids) (hi : i < n) : ∃ (c1 r c2 x1 x x2 : List V) (i1 ii i2 : List Nat), cells = c1 ++ (r ++ c2) ∧ c1.length = i * tys.length ∧ xs = x1 ++ (x ++ x2) ∧ ids = i1 ++ (ii ++ i2) ∧ OwL S (reps i tys) c1 x1 i1 ∧ OwL S tys r x ii ∧ OwL S (reps (n - i - 1) tys) c2 x2 i2 := by
 have e1 : reps n tys = reps i tys ++ (tys ++ reps (n - i - 1) tys) := by
  rw [← reps_succ, ← reps_add]; congr 1; omega
 rw [e1] at h
 obtain ⟨r1, r2, x1, x2, i1, i2, rfl, rfl, rfl, k1, k2⟩ := h.split
 obtain ⟨r3, r4, x3, x4, i3, i4, rfl, rfl, rfl, k3, k4⟩ := k2.split
 exact ⟨r1, r3, r4, x1, x3, x4, i1, i3, i4, rfl, by rw [k1.len.1, reps_len], rfl, rfl, k1, k3, k4⟩
end Go.Vw

namespace Go.Vw
open Go.Proofs Go.RowKit
theorem OwL.cell {T : Store} {us : List Ty} {cs zs : List V} {ii : List Nat} {u v : V} (h : OwL T us cs zs ii) (hu : u.closed1 = true) (hv : v.closed1 = true) : ∀ {q : Nat}, cs[q]? = some u → ∃ zs', OwL T us (cs.set q v) zs' ii := by
 induction h with
 | nil => intro q hq; simp at hq
 | c hx tt ihh =>
  intro q hq
  cases q with
  | zero => exact ⟨_, .c hv tt⟩
  | succ q =>
   obtain ⟨zs', h2⟩ := ihh (q := q) (by simpa using hq)
   exact ⟨_, .c hx h2⟩
 | s ho2 hs2 d2 t2 _ ihh =>
  intro q hq
  cases q with
  | zero =>
   simp only [List.getElem?_cons_zero, Option.some.injEq] at hq
   rw [← hq] at hu; simp [V.closed1] at hu
  | succ q =>
   obtain ⟨zs', h2⟩ := ihh (q := q) (by simpa using hq)
   exact ⟨_, .s ho2 hs2 d2 h2⟩
def At (T : Store) (o p : Nat) (w : V) : Prop := ∃ s cs, T.get o = some (s, cs) ∧ cs[p]? = some w
theorem At.write {T : Store} {o p o' s q a b c : Nat} {cs : List V} {u v : V} (h : At T o p (.slice a b c)) (hg : T.get o' = some (s, cs)) (hq : cs[q]? = some u) (hu : u.closed1 = true) : At (T.upd o' (s, cs.set q v)) o p (.slice a b c) := by
 obtain ⟨s1, cs1, h1, h2⟩ := h
 by_cases e : o = o'
 ·subst e
  rw [hg] at h1
  cases h1
  refine ⟨s, cs.set q v, upd_new, ?_⟩
  have hne : q ≠ p := fun e => by
   subst e
   rw [hq] at h2
   cases h2
   simp [V.closed1] at hu
  rw [List.getElem?_set_ne hne]; exact h2
 ·exact ⟨s1, cs1, by rw [upd_old e]; exact h1, h2⟩
inductive Lim : V → Prop
 | c {x : V} (h : ∀ ys, x ≠ .list ys) : Lim x
 | l {ys : List V} (h : ys.length ≤ 140737488355328) (k : ∀ y ∈ ys, ∀ z ∈ y.cells, Lim z) : Lim (.list ys)
def LimO (T : Store) (ids : List Nat) : Prop := ∀ o ∈ ids, ∀ w cs, T.get o = some (w, cs) → cs.length ≤ 140737488355328 * w
theorem OwL.lim {T : Store} {us : List Ty} {cs zs : List V} {ii : List Nat} (h : OwL T us cs zs ii) : (∀ z ∈ zs, Lim z) → LimO T ii := by
 induction h with
 | nil => intro _ o ho; simp at ho
 | c _ _ ih => exact fun hz => ih fun z hz' => hz z (by simp [hz'])
 | @s tys ts rs xs cells ys i j o ho hs d t ihd iht =>
  intro hz
  have h1 : Lim (.list ys) := hz _ (by simp)
  cases h1 with
  | c h => exact absurd rfl (h ys)
  | l hl hk =>
   intro o' ho' w cs hg
   rcases List.mem_cons.1 ho' with rfl | h2
   ·rw [ho] at hg
    cases hg
    rw [d.len.1, reps_len]
    exact Nat.mul_le_mul_right _ hl
   ·rcases List.mem_append.1 h2 with h2 | h2
    ·refine ihd (fun z hz' => ?_) o' h2 w cs hg
     obtain ⟨y, hy, hzy⟩ := List.mem_flatMap.1 hz'
     exact hk y hy z hzy
    ·exact iht (fun z hz' => hz z (by simp [hz'])) o' h2 w cs hg
theorem lim_vint {l : List Int} (h : l.length ≤ 140737488355328) : Lim (vl vint l) := by
 refine .l (by simpa using h) fun y hy z hz => ?_
 obtain ⟨i, _, rfl⟩ := List.mem_map.1 hy
 simp only [vint, V.cells, List.mem_singleton] at hz
 subst hz
 exact .c fun _ e => by cases e
theorem lim_block {b : Ss.Block} (h : b.Fits) : ∀ z ∈ (encBlock b).cells, Lim z := by
 obtain ⟨hp, ⟨hc, hc2⟩, _, _, ⟨ht, ht2⟩, hr⟩ := h
 intro z hz
 simp only [encBlock, V.cells, List.mem_cons, List.not_mem_nil, or_false] at hz
 rcases hz with rfl | rfl | rfl | rfl | rfl | rfl
 ·exact lim_vint hp.1
 ·refine .l (by simpa using hc) fun y hy z hz => ?_
  obtain ⟨x, hx, rfl⟩ := List.mem_map.1 hy
  obtain ⟨_, _, ha, ho⟩ := hc2 x hx
  simp only [encIns, V.cells, List.mem_cons, List.not_mem_nil, or_false] at hz
  rcases hz with rfl | rfl | rfl | rfl
  ·exact .c fun _ e => by cases e
  ·exact .c fun _ e => by cases e
  ·exact lim_vint ha.1
  ·exact lim_vint ho.1
 ·exact .c fun _ e => by cases e
 ·exact .c fun _ e => by cases e
 ·refine .l (by simpa using ht) fun y hy z hz => ?_
  obtain ⟨x, hx, rfl⟩ := List.mem_map.1 hy
  obtain ⟨_, ha⟩ := ht2 x hx
  simp only [encEdge, V.cells, List.mem_cons, List.not_mem_nil, or_false] at hz
  rcases hz with rfl | rfl
  ·exact .c fun _ e => by cases e
  ·exact lim_vint ha.1
 ·exact lim_vint hr.1
structure Shp (S T0 : Store) (ob n : Nat) (ids : List Nat) (T1 : Store) : Prop where
 nx : T1.nx = T0.nx
 wf : T1.Wf
 old : ∀ o, o < S.nx → T1.get o = S.get o
 own : ∃ cells xs, T1.get ob = some (6, cells) ∧ OwL T1 (reps n blkD) cells xs ids
 lim : LimO T1 ids
theorem Shp.write {S T0 T1 : Store} {ob n o s q : Nat} {ids : List Nat} {cs : List V} {u v : V} (h : Shp S T0 ob n ids T1) (hnd : (ob :: ids).Nodup) (hid : ∀ o ∈ ob :: ids, S.nx ≤ o ∧ o < T0.nx) (ho : o ∈ ob :: ids) (hg : T1.get o = some (s, cs)) (hq : cs[q]? = some u) (hu : u.closed1 = true) (hv : v.closed1 = true) :
  Shp S T0 ob n ids (T1.upd o (s, cs.set q v)) := by
 obtain ⟨h1, h2, h3, ⟨cells, xs, h4, h5⟩, h7⟩ := h
 have hon := hid o ho
 have hcw : V.idsL (fun o => decide (o < T1.nx)) (cs.set q v) = true := by
  have := h2.ids o _ hg
  simp only [idsL_eq, List.all_eq_true] at this ⊢
  intro x hx
  rcases List.mem_or_eq_of_mem_set hx with hx | rfl
  ·exact this x hx
  ·exact closed1_ids hv _
 refine ⟨h1, upd_wf h2 (by omega) hcw, fun o' ho' => ?_, ?_, fun o' ho' w c hgo => ?_⟩
 ·rw [upd_old (by omega)]; exact h3 o' ho'
 ·have hn2 := List.nodup_cons.1 hnd
  by_cases e : o = ob
  ·subst e
   rw [hg] at h4
   cases h4
   obtain ⟨xs', h6⟩ := h5.cell hu hv hq
   exact ⟨cs.set q v, xs', upd_new, h6.mono fun o' ho' => upd_old fun e => hn2.1 (e ▸ ho')⟩
  ·obtain ⟨xs', h6⟩ := h5.write hg hq hu hv hn2.2
   exact ⟨cells, xs', by rw [upd_old (fun e' => e e'.symm)]; exact h4, h6⟩
 ·by_cases e : o' = o
  ·subst e
   rw [upd_new] at hgo
   cases hgo
   rw [List.length_set]
   exact h7 o' ho' _ _ hg
  ·rw [upd_old e] at hgo
   exact h7 o' ho' w c hgo
theorem insD_inv {T : Store} {r x : List V} {ii : List Nat} (h : OwL T insD r x ii) : ∃ (u v : V) (oa na ou nu : Nat) (ca : List V), r = [u, v, .slice oa 0 na, .slice ou 0 nu] ∧ u.closed1 = true ∧ oa ∈ ii ∧ T.get oa = some (1, ca) ∧ ca.length = na ∧ ∀ c ∈ ca, c.closed1 = true := by
 cases h with
 | c h1 h => cases h with
  | c h2 h => cases h with
   | @s _ _ _ _ ca ys i j oa ho hs d h => cases h with
    | s ho2 hs2 d2 h => cases h with
     | nil =>
      have hl : ca.length = ys.length := by rw [d.len.1, reps_len]; simp
      have e := own_closed (n := ys.length * 1) (by rw [← reps_c]; exact d)
      exact ⟨_, _, oa, _, _, _, ca, rfl, h1, by simp, ho, hl, by rw [e.1]; exact d.closed⟩
theorem edgeD_inv {T : Store} {r x : List V} {ii : List Nat} (h : OwL T edgeD r x ii) : ∃ (u : V) (oa na : Nat), r = [u, .slice oa 0 na] ∧ u.closed1 = true := by
 cases h with
 | c h1 h => cases h with
  | s ho hs d h => cases h with
   | nil => exact ⟨_, _, _, rfl, h1⟩
theorem blkD_inv {T : Store} {r x : List V} {ii : List Nat} (h : OwL T blkD r x ii) : ∃ (op np oc nc oe ne : Nat) (u a z : V) (cc ce xi xe : List V) (ci ei : List Nat), r = [.slice op 0 np, .slice oc 0 nc, u, a, .slice oe 0 ne, z] ∧ u.closed1 = true ∧ oc ∈ ii ∧ T.get oc = some (4, cc) ∧ OwL T (reps nc insD) cc xi ci ∧ (∀ o ∈ ci, o ∈ ii) ∧
  oe ∈ ii ∧ T.get oe = some (2, ce) ∧ OwL T (reps ne edgeD) ce xe ei := by
 cases h with
 | s ho hs d h => cases h with
  | s ho2 hs2 d2 h => cases h with
   | c h1 h => cases h with
    | c h2 h => cases h with
     | s ho3 hs3 d3 h => cases h with
      | c h3 h => cases h with
       | nil => exact ⟨_, _, _, _, _, _, _, _, _, _, _, _, _, _, _, rfl, h1, by simp, ho2, d2, fun o ho => by simp [ho], by simp, ho3, d3⟩
theorem mid_get {c1 r c2 : List V} {i m p : Nat} {w : V} (hc : c1.length = i * m) (hr : r[p]? = some w) : (c1 ++ (r ++ c2))[i * m + p]? = some w := by
 have hp : p < r.length := (List.getElem?_eq_some_iff.1 hr).1
 rw [← hc, List.getElem?_append_right (by omega), Nat.add_sub_cancel_left, List.getElem?_append_left hp]
 exact hr
theorem Shp.block {S T0 T1 : Store} {ob n k : Nat} {ids : List Nat} (h : Shp S T0 ob n ids T1) (hk : k < n) : ∃ (cells : List V) (oc nc oe ne : Nat) (u : V) (cc ce : List V), T1.get ob = some (6, cells) ∧ cells[k * 6 + 1]? = some (.slice oc 0 nc) ∧ cells[k * 6 + 2]? = some u ∧ u.closed1 = true ∧ cells[k * 6 + 4]? = some (.slice oe 0 ne) ∧
  oc ∈ ids ∧ T1.get oc = some (4, cc) ∧ oe ∈ ids ∧ T1.get oe = some (2, ce) ∧ nc ≤ 140737488355328 ∧ ne ≤ 140737488355328 ∧ (∀ j < nc, ∃ (u : V) (oa na : Nat) (ca : List V), cc[j * 4]? = some u ∧ u.closed1 = true ∧ cc[j * 4 + 2]? = some (.slice oa 0 na) ∧ oa ∈ ids ∧ T1.get oa = some (1, ca) ∧ ca.length = na ∧ na ≤ 140737488355328 ∧ ∀ c ∈ ca, c.closed1 = true) ∧ ∀ q < ne, ∃ u : V, ce[q * 2]? = some u ∧ u.closed1 = true := by
 obtain ⟨cells, xs, h4, h5⟩ := h.own
 obtain ⟨c1, r, c2, x1, x, x2, i1, ii, i2, rfl, hl, rfl, rfl, k1, k2, k3⟩ := h5.elem hk
 obtain ⟨op, np, oc, nc, oe, ne, u, a, z, cc, ce, xi, xe, ci, ei, rfl, hu, hoc, hcc, hci, hcs, hoe, hce, hei⟩ := blkD_inv k2
 refine ⟨_, oc, nc, oe, ne, u, cc, ce, h4, mid_get (m := 6) (p := 1) hl rfl, mid_get (m := 6) (p := 2) hl rfl, hu, mid_get (m := 6) (p := 4) hl rfl, by simp [hoc], hcc, by simp [hoe], hce, ?_, ?_, fun j hj => ?_, fun q hq => ?_⟩
 ·have h8 := h.lim oc (by simp [hoc]) _ _ hcc
  have h9 : cc.length = nc * 4 := by rw [hci.len.1, reps_len]; rfl
  omega
 ·have h8 := h.lim oe (by simp [hoe]) _ _ hce
  have h9 : ce.length = ne * 2 := by rw [hei.len.1, reps_len]; rfl
  omega
 ·obtain ⟨d1, s, d2, y1, y, y2, j1, jj, j2, rfl, hl2, rfl, rfl, m1, m2, m3⟩ := hci.elem hj
  obtain ⟨u', v', oa, na, ou, nu, ca, rfl, hu', hoa, hca, hcl, hcc'⟩ := insD_inv m2
  exact ⟨u', oa, na, ca, by have := mid_get (m := 4) (p := 0) (c2 := d2) hl2 (r := [u', v', .slice oa 0 na, .slice ou 0 nu]) rfl; simpa using this, hu', mid_get (m := 4) (p := 2) hl2 rfl, by have := hcs oa (by simp [hoa]); simp [this], hca, hcl, by have := h.lim oa (by have := hcs oa (by simp [hoa]); simp [this]) _ _ hca; omega, hcc'⟩
 ·obtain ⟨d1, s, d2, y1, y, y2, j1, jj, j2, rfl, hl2, rfl, rfl, m1, m2, m3⟩ := hei.elem hq
  obtain ⟨u', oa, na, rfl, hu'⟩ := edgeD_inv m2
  exact ⟨u', by have := mid_get (m := 2) (p := 0) (c2 := d2) hl2 (r := [u', .slice oa 0 na]) rfl; simpa using this, hu'⟩
theorem At.same {T : Store} {o p s : Nat} {cs : List V} {w w' : V} (h : At T o p w) (hg : T.get o = some (s, cs)) (hw : cs[p]? = some w') : w' = w := by
 obtain ⟨s1, cs1, h1, h2⟩ := h
 rw [hg] at h1
 cases h1
 rw [hw] at h2
 exact Option.some.inj h2
theorem St_updB {B : Store} {o : Nat} {c : Nat × List V} {l : List (Option (Nat × List V))} (ho : o < B.nx) : (St B [] l).upd o c = St (B.upd o c) [] l := by
 refine Store.ext' (funext fun o' => ?_) rfl
 have e : (B.upd o c).nx = B.nx := rfl
 rw [upd_at, St_at, St_at, e, upd_at]
 by_cases h : o' = o
 ·subst h; simp [ho, uGet]
 ·by_cases h2 : o' < B.nx
  ·simp [h, h2, uGet]
  ·simp [h, h2, uGet]
end Go.Vw

namespace Ss
open Go.Vw.G
def UpEnds (near : List Int) : Nat → Int → Prop
 | 0, b => b < 0
 | k + 1, b => b < 0 ∨ (okIx near b ∧ UpEnds near k (near.getD b.toNat 0))
end Ss
namespace Go.Vw
open Go.Proofs Go.RowKit
set_option maxRecDepth 10000
set_option maxHeartbeats 2000000
def encFar (M : Ss.Far) : List V := M.map fun e => .tuple [.agg [.int .i64 e.1.1, .int .i64 e.1.2], .int .u64 e.2]
theorem keySame_pair (a b a' b' : Int) : keySame (.agg [.int .i64 a, .int .i64 b]) (.agg [.int .i64 a', .int .i64 b']) = some (a == a' && b == b') := rfl
theorem lookV_pairs (v b : Int) (v' b' : Int) (w : V) (r : List V) (i : Nat) : lookV (.agg [.int .i64 v, .int .i64 b]) (.tuple [.agg [.int .i64 v', .int .i64 b'], w] :: r) i = if (v, b) = (v', b') then some (some (i, w)) else lookV (.agg [.int .i64 v, .int .i64 b]) r (i + 1) := by
 rw [lookV, keySame_pair]
 by_cases e1 : v = v' <;> by_cases e2 : b = b' <;> simp [e1, e2]
theorem lookV_far (v b : Int) : ∀ (M : Ss.Far) (i : Nat), (lookV (.agg [.int .i64 v, .int .i64 b]) (encFar M) i = some none ∧ Ss.farGet (v, b) M = 0 ∧ ∀ w, Ss.farPut (v, b) w M = M ++ [((v, b), w)]) ∨
  ∃ (j : Nat), lookV (.agg [.int .i64 v, .int .i64 b]) (encFar M) i = some (some (i + j, .int .u64 (Ss.farGet (v, b) M))) ∧ ∀ w, Ss.farPut (v, b) w M = M.set j ((v, b), w)
 | [], i => .inl ⟨rfl, rfl, fun w => rfl⟩
 | ((v', b'), w') :: r, i => by
  have h1 : lookV (.agg [.int .i64 v, .int .i64 b]) (encFar (((v', b'), w') :: r)) i = _ := lookV_pairs v b v' b' (.int .u64 w') (encFar r) i
  by_cases e : (v, b) = (v', b')
  ·rw [if_pos e] at h1
   exact .inr ⟨0, by rw [h1]; simp [Ss.farGet, e], fun w => by simp [Ss.farPut, e]⟩
  ·rw [if_neg e] at h1
   rcases lookV_far v b r (i + 1) with ⟨h2, h3, h4⟩ | ⟨j, h2, h3⟩
   ·exact .inl ⟨h1.trans h2, by simp only [Ss.farGet, if_neg e, h3], fun w => by simp only [Ss.farPut, if_neg e, h4]; rfl⟩
   ·exact .inr ⟨j + 1, by rw [h1, h2]; simp only [Ss.farGet, if_neg e]; congr 3; omega, fun w => by simp only [Ss.farPut, if_neg e, h3]; rfl⟩
theorem look_far {S : Store} {om : Nat} {M : Ss.Far} (h : S.get om = some (0, encFar M)) (v b : Int) : opLookup2 true (.int .u64 0) false S (.map om) (.agg [.int .i64 v, .int .i64 b]) = some (.int .u64 (Ss.farGet (v, b) M)) := by
 simp only [opLookup2, if_true, h]
 rcases lookV_far v b M 0 with ⟨h1, h2, _⟩ | ⟨j, h1, _⟩
 ·rw [h1, h2]; rfl
 ·rw [h1]; rfl
theorem put_far {S : Store} {om : Nat} {M : Ss.Far} (h : S.get om = some (0, encFar M)) (v b w : Int) : opMapUpdate2 true S (.map om) (.agg [.int .i64 v, .int .i64 b]) (.int .u64 w) = some (S.upd om (0, encFar (Ss.farPut (v, b) w M))) := by
 simp only [opMapUpdate2, if_true, h]
 rcases lookV_far v b M 0 with ⟨h1, _, h2⟩ | ⟨j, h1, h2⟩
 ·rw [h1, h2]; simp [encFar]
 ·rw [h1, h2]; simp [encFar, List.map_set]
theorem encFar_ids (p : Nat → Bool) (M : Ss.Far) : V.idsL p (encFar M) = true := by
 simp only [idsL_eq, List.all_eq_true, encFar, List.mem_map]
 rintro x ⟨e, _, rfl⟩; rfl
theorem encFar_ren (f : Nat → Nat) (M : Ss.Far) : V.renL f (encFar M) = encFar M := by
 simp only [renL_eq, encFar, List.map_map]
 exact List.map_congr_left fun e _ => rfl
theorem pairOk13 : pairOkN (P := Tryz.prog) (kt := 76) 0 = true := by rw [pairOk_iff]; kernel_rfl
theorem Clo_v (S : Store) (near : List Int) (n : Int) (M : Ss.Far) (x : Ss.Ins) (pn pr pf om oa : Nat) (ou : V) (hx : x.Fits) (hx1 : x.op = 257 → x.args ≠ [] ∧ x.n ≤ 8589934592) (hup : Ss.UpEnds near 256 n) (hn : near.length < 2^62)
  (hou : ou.one = true) (gn : S.get pn = some (1, [vint n])) (gr : S.get pr = some (1, [vl vint near])) (gf : S.get pf = some (1, [.map om])) (gm : S.get om = some (0, encFar M)) (ga : S.get oa = some (1, x.args.map vint)) :
  VCalls Tryz.prog 22 [.agg [vint x.op, vu x.n, .slice oa 0 x.args.length, ou], .ptr pn 0, .ptr pr 0, .ptr pf 0] S fun v T => v = .bool (Ss.pcov near n M x) ∧ T = S.upd om (0, encFar (Ss.pnext near n M x)) := by
 refine vcalls_start (c := bodyOf Tryz.f22) Tryz.func22 rfl rfl (by simp [Tryz.ntmps22]) ?_
 rw [Tryz.ntmps22]
 intro hwf
 have ln := old_lt hwf gn
 have lr := old_lt hwf gr
 have lf := old_lt hwf gf
 have lm := old_lt hwf gm
 have la := old_lt hwf ga
 have bn := fun u l => @St_old S u l pn ln
 have br := fun u l => @St_old S u l pr lr
 have bf := fun u l => @St_old S u l pf lf
 have bm := fun u l => @St_old S u l om lm
 have ba := fun u l => @St_old S u l oa la
 obtain ⟨op, N, args, outs⟩ := x
 simp only at *
 have hno : ∀ M', Ss.pnext near n M ⟨op, N, args, outs⟩ = M' → M' = M → St S [] [] = S.upd om (0, encFar M') := fun M' h1 h2 => by
  subst h2
  rw [St_nil hwf]
  refine Store.ext' (funext fun o => ?_) rfl
  rw [upd_at]; split
  ·rename_i e; subst e; exact gm
  ·rfl
 by_cases ho : op = 257
 case neg =>
  have ho' : ¬ (op : Int) = 257 := ho
  repeat (first|refine QG ?_|refine QX (r:=by conv=>lhs;simp[-List.map_set,QV,ho,hou]) (k:=?_))
  refine done_turned (X := .bool false) (S' := St S [] []) hwf (by simp) rfl rfl rfl ⟨?_, ?_⟩
  ·simp [Ss.pcov, ho]
  ·exact hno _ rfl (by simp [Ss.pnext, ho])
 subst ho
 obtain ⟨ha, hN⟩ := hx1 rfl
 obtain ⟨v, ar, rfl⟩ : ∃ v ar, args = v :: ar := by cases args with | nil => exact absurd rfl ha | cons v ar => exact ⟨v, ar, rfl⟩
 have ga' : S.get oa = some (1, .int .i64 v :: ar.map vint) := ga
 have h0 : (0 : Int) < (ar.length : Int) + 1 := by omega
 repeat (first|refine QG ?_|refine QX (r:=by conv=>lhs;simp[-List.map_set,QV,hou,bn,br,bf,bm,ba,gn,gr,gf,gm,ga',h0]) (k:=?_))
 have hcov : Ss.pcov near n M ⟨257, N, v :: ar, outs⟩ = (Ss.chain near 257 n).any fun up => decide (N < Ss.farGet (v, up) M) := by simp [Ss.pcov]
 have hlk : ∀ l b, opLookup2 true (.int .u64 0) false (St S [] l) (.map om) (.agg [.int .i64 v, .int .i64 b]) = some (.int .u64 (Ss.farGet (v, b) M)) := fun l b => look_far ((bm [] l).trans gm) v b
 have hput : ∀ l w, opMapUpdate2 true (St S [] l) (.map om) (.agg [.int .i64 v, .int .i64 n]) (.int .u64 w) = some (St S [(om, some (0, encFar (Ss.farPut (v, n) w M)))] l) := fun l w => by rw [put_far ((bm [] l).trans gm), St_updOld lm]; rfl
 have hpk := pairOk13
 have hwN : IntKind.u64.wrap (N + 1) = N + 1 := by
  have := hx.2.1.1
  simp only at this
  exact wrap_u64' (by omega) (by omega)
 repeat refine QS ?_
 refine vw_drawW (St S [] [some (4, [.int .i64 257, .int .u64 N, .slice oa 0 (ar.length + 1), ou])]) (St S [] [some (4, [.int .i64 257, .int .u64 N, .slice oa 0 (ar.length + 1), ou])]) [] rfl (by kernel_rfl) (by conv => lhs; reduce) (by conv => lhs; reduce) (by kernel_rfl) (by kernel_rfl) (ok_St (by simp [subU, shpU, subL, shpL])) (by conv => lhs; simp [-List.map_set,QV, hou, bn, br, bf, bm, ba, gn, gr, gf, gm, ga', h0]) ?_
 refine vseg_write rfl (by conv=>lhs;simp[-List.map_set,QV]) (ok_St (by simp [subU, shpU, subL, shpL])) ?_
 refine vseg_write rfl (by conv=>lhs;simp[-List.map_set,QV]) (ok_St (by simp [subU, shpU, subL, shpL])) ?_
 refine QN ?_
 repeat (first|refine QG ?_|refine QX (r:=by conv=>lhs;simp[-List.map_set,QV,bn,gn]) (k:=?_))
 repeat refine QS ?_
 refine vw_loopAt [2, 3, 4, 6, 7] rfl (fun c σ S' => ∃ (k : Nat) (b : Int), c = k ∧ Ss.UpEnds near k b ∧ ((Ss.chain near (k + 1) b).any fun up => decide (N < Ss.farGet (v, up) M)) = (Ss.chain near 257 n).any (fun up => decide (N < Ss.farGet (v, up) M)) ∧ σ = [(2, .ptr pr 0), (3, .ptr pf 0), (4, .ptr (lid S.nx 0) 0), (6, .ptr (lid S.nx 1) 0), (7, vint b)] ∧ S' = St S [] [some (4, [.int .i64 257, .int .u64 N, .slice oa 0 (ar.length + 1), ou]), some (2, [vint v, vint n])]) 256 ?_ ?_
 ·exact ⟨256, n, rfl, hup, rfl, by simp [Fr.only, Fr.look], rfl⟩
 ·rintro k σ T ⟨_, b, rfl, hE, hany, rfl, rfl⟩
  by_cases hb : 0 ≤ b
  case neg =>
   have hnb : ¬ Go.Vw.G.okIx near b := fun h => hb h.1
   rw [Ss.chain, if_neg hnb, List.any_nil] at hany
   rw [← hcov] at hany
   have hnx : Ss.pnext near n M ⟨257, N, v :: ar, outs⟩ = Ss.farPut (v, n) (N + 1) M := by rw [Ss.pnext, if_pos ⟨rfl, hany.symm⟩]; rfl
   rw [hnx, ← hany]
   repeat (first|refine QG ?_|refine QX (r:=by conv=>lhs;simp[-List.map_set,QV,hb]) (k:=?_))
   repeat refine QS ?_
   refine QR (r:=by conv=>lhs;simp[-List.map_set,QV,bf,gf,hwN,hpk,hput]) (k:=?_)
   refine QN ?_
   repeat (first|refine QG ?_|refine QX (r:=by conv=>lhs;simp[-List.map_set,QV]) (k:=?_))
   refine done_turned (X := .bool false) (S' := S.upd om (0, encFar (Ss.farPut (v, n) (N + 1) M))) hwf (by simp) rfl (by simp [gcOkU, gcOkE, encFar_ids]) ?_ ⟨rfl, rfl⟩
   simp only [gcU, gcE, Option.map_some, encFar_ren]
   exact St_upd1 hwf lm
  obtain ⟨m, rfl⟩ : ∃ m : Nat, b = m := ⟨b.toNat, by omega⟩
  cases k with
  | zero => simp only [Ss.UpEnds] at hE; omega
  | succ k =>
   rcases hE with hE | ⟨hok, hE⟩
   ·omega
   have hml : m < near.length := by have := hok.2; omega
   have hmi : (m : Int) < (near.length : Int) := hok.2
   have eg : near.getD m 0 = near[m] := by rw [List.getD_eq_getElem?_getD, List.getElem?_eq_getElem hml]; rfl
   rw [Ss.chain, if_pos hok, List.any_cons] at hany
   simp only [Int.toNat_natCast, eg] at hany hE
   by_cases hN2 : N < Ss.farGet (v, (m : Int)) M
   ·simp only [hN2, decide_true, Bool.true_or] at hany
    have hcv : Ss.pcov near n M ⟨257, N, v :: ar, outs⟩ = true := by rw [hcov, ← hany]
    repeat (first|refine QG ?_|refine QX (r:=by conv=>lhs;simp[-List.map_set,QV,hb,bf,gf,ba,ga',hlk,hpk,hN2,h0]) (k:=?_))
    refine done_turned (X := .bool true) (S' := St S [] []) hwf (by simp) rfl rfl rfl ⟨?_, ?_⟩
    ·rw [hcv]
    ·exact hno _ rfl (by rw [Ss.pnext, if_neg (fun h => by rw [hcv] at h; cases h.2)])
   ·simp only [hN2, decide_false, Bool.false_or] at hany
    repeat (first|refine QG ?_|refine QX (r:=by conv=>lhs;simp[-List.map_set,QV,hb,bf,gf,ba,ga',hlk,hpk,hN2,h0,br,gr,hml,hmi]) (k:=?_))
    show Again _ _ _ _ _ _ _
    exact again ⟨Nat.lt_succ_self k, k, near[m], rfl, hE, hany, by simp [Fr.only, Fr.look], rfl⟩
end Go.Vw

namespace Ss
def cutB (b : Block) (k : Nat) : Block := ⟨b.params, b.code.take k ++ b.code.drop (k + 1), b.term⟩
def cut (f : Fn) (i k : Nat) : Fn := ⟨f.sig, f.types, f.blocks.set i (cutB (f.blocks.getD i default) k)⟩
end Ss
namespace Go.Vw
open Go.Proofs Go.RowKit
set_option maxRecDepth 10000
set_option maxHeartbeats 2000000
theorem blk_split {T : Store} {bs : List Ss.Block} {cells : List V} {ids : List Nat} {n i : Nat} (h : OwL T (reps n blkT) cells (flatC encBlock bs) ids) (hn : bs.length = n) (hi : i < n) {b : Ss.Block} (hb : bs[i]? = some b) :
  ∃ (c1 c2 : List V) (oc : Nat) (i1 i2 : List Nat), cells = c1 ++ ([vl vint b.params, .slice oc 0 b.code.length, vint b.term.kind, vint b.term.arg, vl encEdge b.term.to, vl vint b.term.args] ++ c2) ∧ c1.length = i * 6 ∧ ids = i1 ++ oc :: i2 ∧ T.get oc = some (4, flatC encIns b.code) ∧
   OwL T (reps i blkT) c1 (flatC encBlock (bs.take i)) i1 ∧ OwL T (reps (n - i - 1) blkT) c2 (flatC encBlock (bs.drop (i + 1))) i2 := by
 have e1 : reps n blkT = reps i blkT ++ (blkT ++ reps (n - i - 1) blkT) := by
  rw [← reps_succ, ← reps_add]; congr 1; omega
 have e2 : flatC encBlock bs = flatC encBlock (bs.take i) ++ ((encBlock b).cells ++ flatC encBlock (bs.drop (i + 1))) := by
  have hlt : i < bs.length := by omega
  have : bs = bs.take i ++ b :: bs.drop (i + 1) := by
   have hbi : bs[i] = b := by rw [List.getElem?_eq_getElem hlt] at hb; exact Option.some.inj hb
   rw [← hbi, List.getElem_cons_drop, List.take_append_drop]
  conv => lhs; rw [this]
  simp [flatC]
 rw [e1, e2] at h
 obtain ⟨r1, r2, x1, x2, i1, i2, rfl, hx, rfl, k1, k2⟩ := h.split
 have hl1 : (flatC encBlock (bs.take i)).length = x1.length := by
  rw [flatC_len (s := 6) (fun _ => by rw [encBlock_cells]; rfl), k1.len.2, reps_len, List.length_take]
  show min i bs.length * 6 = i * 6
  rw [Nat.min_eq_left (by omega)]
 obtain ⟨rfl, rfl⟩ := List.append_inj hx hl1
 obtain ⟨r3, r4, x3, x4, i3, i4, rfl, hx2, rfl, k3, k4⟩ := k2.split
 have hl2 : (encBlock b).cells.length = x3.length := by rw [encBlock_cells, k3.len.2]; rfl
 obtain ⟨rfl, rfl⟩ := List.append_inj hx2 hl2
 rw [encBlock_cells] at k3
 cases k3 with
 | c hp k3 =>
  generalize hL : vl encIns b.code = L at k3
  cases k3 with
  | @s _ _ _ _ cells' ys ii jj oc ho hs d t =>
  have hy : ys = b.code.map encIns := by
   have : V.list (b.code.map encIns) = V.list ys := hL
   exact (V.list.inj this).symm
  subst hy
  cases t with
  | c _ t => cases t with
   | c _ t => cases t with
    | c _ t => cases t with
     | c _ t => cases t with
      | nil =>
       have hd : cells' = flatC encIns b.code ∧ ii = [] := by
        rw [List.length_map, flatC_map, reps_c] at d
        exact own_closed d
       obtain ⟨rfl, rfl⟩ := hd
       refine ⟨r1, r4, oc, i1, i4, ?_, ?_, ?_, ?_, k1, k4⟩
       ·simp
       ·rw [k1.len.1, reps_len]; rfl
       ·simp
       ·rw [ho]; rfl
theorem blk_join {T : Store} {bs : List Ss.Block} {c1 c2 : List V} {i1 i2 : List Nat} {n i oc : Nat} {b : Ss.Block} (h1 : OwL T (reps i blkT) c1 (flatC encBlock (bs.take i)) i1) (h2 : OwL T (reps (n - i - 1) blkT) c2 (flatC encBlock (bs.drop (i + 1))) i2) (hn : bs.length = n) (hi : i < n) (ho : T.get oc = some (4, flatC encIns b.code)) :
  OwL T (reps n blkT) (c1 ++ ([vl vint b.params, .slice oc 0 b.code.length, vint b.term.kind, vint b.term.arg, vl encEdge b.term.to, vl vint b.term.args] ++ c2)) (flatC encBlock (bs.set i b)) (i1 ++ oc :: i2) := by
 have e1 : reps n blkT = reps i blkT ++ (blkT ++ reps (n - i - 1) blkT) := by
  rw [← reps_succ, ← reps_add]; congr 1; omega
 have e2 : flatC encBlock (bs.set i b) = flatC encBlock (bs.take i) ++ ((encBlock b).cells ++ flatC encBlock (bs.drop (i + 1))) := by
  rw [List.set_eq_take_append_cons_drop, if_pos (by omega)]
  simp [flatC]
 rw [e1, e2, encBlock_cells]
 refine h1.append (OwL.append (i := [oc]) ?_ h2)
 exact .c rfl (OwL.slice (fun _ => by rw [encIns_cells]; rfl) encIns_closed b.code ho (.c rfl (.c rfl (.c rfl (.c rfl .nil)))))
end Go.Vw
