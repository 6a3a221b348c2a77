import Derived.Test.YtcpncecdegmliaaC19
import Derived.Test.YtcpncecdegmliaaC28
import Derived.Test.YtcpncecdegmliaaC16
import Derived.Test.YtcpncecdegmliaaC26
import Derived.Test.YtcpncecdegmliaaC21
import Derived.Test.YtcpncecdegmliaaC22
import Derived.Test.YtcpncecdegmliaaC17
import Derived.Test.YtcpncecdegmliaaC20
/-
  Part of the proof (texts VThaw, SShp, BClo, SCut, SChk2, SBlk, SSame2, SAlive, SAlive2).
-/
set_option linter.unusedVariables false
set_option linter.unusedSimpArgs false
/-
 Pure calls on what is owned: it stays owned. What is owned may be written to.
-/
namespace Go.Vw
open Go.RowKit
theorem OwL.elem {S : Store} {tys : List Ty} {cells xs : List V} {ids : List Nat} {n i : Nat} (h : OwL S (reps n tys) cells xs ids) (hi : i < n) : ∃ (c1 r c2 x1 x x2 : List V) (i1 ii i2 : List Nat), cells = c1 ++ (r ++ c2) ∧ c1.length = i * tys.length ∧ xs = x1 ++ (x ++ x2) ∧ ids = i1 ++ (ii ++ i2) ∧ OwL S (reps i tys) c1 x1 i1 ∧ OwL S tys r x ii ∧ OwL S (reps (n - i - 1) tys) c2 x2 i2 := by
 have e1 : reps n tys = reps i tys ++ (tys ++ reps (n - i - 1) tys) := by
  rw [← reps_succ, ← reps_add]; congr 1; omega
 rw [e1] at h
 obtain ⟨r1, r2, x1, x2, i1, i2, rfl, rfl, rfl, k1, k2⟩ := h.split
 obtain ⟨r3, r4, x3, x4, i3, i4, rfl, rfl, rfl, k3, k4⟩ := k2.split
 exact ⟨r1, r3, r4, x1, x3, x4, i1, i3, i4, rfl, by rw [k1.len.1, reps_len], rfl, rfl, k1, k3, k4⟩
end Go.Vw

namespace Go.Vw
open Go.Proofs Go.RowKit
theorem OwL.cell {T : Store} {us : List Ty} {cs zs : List V} {ii : List Nat} {u v : V} (h : OwL T us cs zs ii) (hu : u.closed1 = true) (hv : v.closed1 = true) : ∀ {q : Nat}, cs[q]? = some u → ∃ zs', OwL T us (cs.set q v) zs' ii := by
 induction h with
 | nil => intro q hq; simp at hq
 | c hx tt ihh =>
  intro q hq
  cases q with
  | zero => exact ⟨_, .c hv tt⟩
  | succ q =>
   obtain ⟨zs', h2⟩ := ihh (q := q) (by simpa using hq)
   exact ⟨_, .c hx h2⟩
 | s ho2 hs2 d2 t2 _ ihh =>
  intro q hq
  cases q with
  | zero =>
   simp only [List.getElem?_cons_zero, Option.some.injEq] at hq
   rw [← hq] at hu; simp [V.closed1] at hu
  | succ q =>
   obtain ⟨zs', h2⟩ := ihh (q := q) (by simpa using hq)
   exact ⟨_, .s ho2 hs2 d2 h2⟩
def At (T : Store) (o p : Nat) (w : V) : Prop := ∃ s cs, T.get o = some (s, cs) ∧ cs[p]? = some w
inductive Lim : V → Prop
 | c {x : V} (h : ∀ ys, x ≠ .list ys) : Lim x
 | l {ys : List V} (h : ys.length ≤ 140737488355328) (k : ∀ y ∈ ys, ∀ z ∈ y.cells, Lim z) : Lim (.list ys)
def LimO (T : Store) (ids : List Nat) : Prop := ∀ o ∈ ids, ∀ w cs, T.get o = some (w, cs) → cs.length ≤ 140737488355328 * w
theorem OwL.lim {T : Store} {us : List Ty} {cs zs : List V} {ii : List Nat} (h : OwL T us cs zs ii) : (∀ z ∈ zs, Lim z) → LimO T ii := by
 induction h with
 | nil => intro _ o ho; simp at ho
 | c _ _ ih => exact fun hz => ih fun z hz' => hz z (by simp [hz'])
 | @s tys ts rs xs cells ys i j o ho hs d t ihd iht =>
  intro hz
  have h1 : Lim (.list ys) := hz _ (by simp)
  cases h1 with
  | c h => exact absurd rfl (h ys)
  | l hl hk =>
   intro o' ho' w cs hg
   rcases List.mem_cons.1 ho' with rfl | h2
   ·rw [ho] at hg
    cases hg
    rw [d.len.1, reps_len]
    exact Nat.mul_le_mul_right _ hl
   ·rcases List.mem_append.1 h2 with h2 | h2
    ·refine ihd (fun z hz' => ?_) o' h2 w cs hg
     obtain ⟨y, hy, hzy⟩ := List.mem_flatMap.1 hz'
     exact hk y hy z hzy
    ·exact iht (fun z hz' => hz z (by simp [hz'])) o' h2 w cs hg
structure Shp (S T0 : Store) (ob n : Nat) (ids : List Nat) (T1 : Store) : Prop where
 nx : T1.nx = T0.nx
 wf : T1.Wf
 old : ∀ o, o < S.nx → T1.get o = S.get o
 own : ∃ cells xs, T1.get ob = some (6, cells) ∧ OwL T1 (reps n blkD) cells xs ids
 lim : LimO T1 ids
theorem insD_inv {T : Store} {r x : List V} {ii : List Nat} (h : OwL T insD r x ii) : ∃ (u v : V) (oa na ou nu : Nat) (ca : List V), r = [u, v, .slice oa 0 na, .slice ou 0 nu] ∧ u.closed1 = true ∧ oa ∈ ii ∧ T.get oa = some (1, ca) ∧ ca.length = na ∧ ∀ c ∈ ca, c.closed1 = true := by
 cases h with
 | c h1 h => cases h with
  | c h2 h => cases h with
   | @s _ _ _ _ ca ys i j oa ho hs d h => cases h with
    | s ho2 hs2 d2 h => cases h with
     | nil =>
      have hl : ca.length = ys.length := by rw [d.len.1, reps_len]; simp
      have e := own_closed (n := ys.length * 1) (by rw [← reps_c]; exact d)
      exact ⟨_, _, oa, _, _, _, ca, rfl, h1, by simp, ho, hl, by rw [e.1]; exact d.closed⟩
theorem edgeD_inv {T : Store} {r x : List V} {ii : List Nat} (h : OwL T edgeD r x ii) : ∃ (u : V) (oa na : Nat), r = [u, .slice oa 0 na] ∧ u.closed1 = true := by
 cases h with
 | c h1 h => cases h with
  | s ho hs d h => cases h with
   | nil => exact ⟨_, _, _, rfl, h1⟩
theorem blkD_inv {T : Store} {r x : List V} {ii : List Nat} (h : OwL T blkD r x ii) : ∃ (op np oc nc oe ne : Nat) (u a z : V) (cc ce xi xe : List V) (ci ei : List Nat), r = [.slice op 0 np, .slice oc 0 nc, u, a, .slice oe 0 ne, z] ∧ u.closed1 = true ∧ oc ∈ ii ∧ T.get oc = some (4, cc) ∧ OwL T (reps nc insD) cc xi ci ∧ (∀ o ∈ ci, o ∈ ii) ∧
  oe ∈ ii ∧ T.get oe = some (2, ce) ∧ OwL T (reps ne edgeD) ce xe ei := by
 cases h with
 | s ho hs d h => cases h with
  | s ho2 hs2 d2 h => cases h with
   | c h1 h => cases h with
    | c h2 h => cases h with
     | s ho3 hs3 d3 h => cases h with
      | c h3 h => cases h with
       | nil => exact ⟨_, _, _, _, _, _, _, _, _, _, _, _, _, _, _, rfl, h1, by simp, ho2, d2, fun o ho => by simp [ho], by simp, ho3, d3⟩
theorem mid_get {c1 r c2 : List V} {i m p : Nat} {w : V} (hc : c1.length = i * m) (hr : r[p]? = some w) : (c1 ++ (r ++ c2))[i * m + p]? = some w := by
 have hp : p < r.length := (List.getElem?_eq_some_iff.1 hr).1
 rw [← hc, List.getElem?_append_right (by omega), Nat.add_sub_cancel_left, List.getElem?_append_left hp]
 exact hr
theorem Shp.block {S T0 T1 : Store} {ob n k : Nat} {ids : List Nat} (h : Shp S T0 ob n ids T1) (hk : k < n) : ∃ (cells : List V) (oc nc oe ne : Nat) (u : V) (cc ce : List V), T1.get ob = some (6, cells) ∧ cells[k * 6 + 1]? = some (.slice oc 0 nc) ∧ cells[k * 6 + 2]? = some u ∧ u.closed1 = true ∧ cells[k * 6 + 4]? = some (.slice oe 0 ne) ∧
  oc ∈ ids ∧ T1.get oc = some (4, cc) ∧ oe ∈ ids ∧ T1.get oe = some (2, ce) ∧ nc ≤ 140737488355328 ∧ ne ≤ 140737488355328 ∧ (∀ j < nc, ∃ (u : V) (oa na : Nat) (ca : List V), cc[j * 4]? = some u ∧ u.closed1 = true ∧ cc[j * 4 + 2]? = some (.slice oa 0 na) ∧ oa ∈ ids ∧ T1.get oa = some (1, ca) ∧ ca.length = na ∧ na ≤ 140737488355328 ∧ ∀ c ∈ ca, c.closed1 = true) ∧ ∀ q < ne, ∃ u : V, ce[q * 2]? = some u ∧ u.closed1 = true := by
 obtain ⟨cells, xs, h4, h5⟩ := h.own
 obtain ⟨c1, r, c2, x1, x, x2, i1, ii, i2, rfl, hl, rfl, rfl, k1, k2, k3⟩ := h5.elem hk
 obtain ⟨op, np, oc, nc, oe, ne, u, a, z, cc, ce, xi, xe, ci, ei, rfl, hu, hoc, hcc, hci, hcs, hoe, hce, hei⟩ := blkD_inv k2
 refine ⟨_, oc, nc, oe, ne, u, cc, ce, h4, mid_get (m := 6) (p := 1) hl rfl, mid_get (m := 6) (p := 2) hl rfl, hu, mid_get (m := 6) (p := 4) hl rfl, by simp [hoc], hcc, by simp [hoe], hce, ?_, ?_, fun j hj => ?_, fun q hq => ?_⟩
 ·have h8 := h.lim oc (by simp [hoc]) _ _ hcc
  have h9 : cc.length = nc * 4 := by rw [hci.len.1, reps_len]; rfl
  omega
 ·have h8 := h.lim oe (by simp [hoe]) _ _ hce
  have h9 : ce.length = ne * 2 := by rw [hei.len.1, reps_len]; rfl
  omega
 ·obtain ⟨d1, s, d2, y1, y, y2, j1, jj, j2, rfl, hl2, rfl, rfl, m1, m2, m3⟩ := hci.elem hj
  obtain ⟨u', v', oa, na, ou, nu, ca, rfl, hu', hoa, hca, hcl, hcc'⟩ := insD_inv m2
  exact ⟨u', oa, na, ca, by have := mid_get (m := 4) (p := 0) (c2 := d2) hl2 (r := [u', v', .slice oa 0 na, .slice ou 0 nu]) rfl; simpa using this, hu', mid_get (m := 4) (p := 2) hl2 rfl, by have := hcs oa (by simp [hoa]); simp [this], hca, hcl, by have := h.lim oa (by have := hcs oa (by simp [hoa]); simp [this]) _ _ hca; omega, hcc'⟩
 ·obtain ⟨d1, s, d2, y1, y, y2, j1, jj, j2, rfl, hl2, rfl, rfl, m1, m2, m3⟩ := hei.elem hq
  obtain ⟨u', oa, na, rfl, hu'⟩ := edgeD_inv m2
  exact ⟨u', by have := mid_get (m := 2) (p := 0) (c2 := d2) hl2 (r := [u', .slice oa 0 na]) rfl; simpa using this, hu'⟩
theorem At.same {T : Store} {o p s : Nat} {cs : List V} {w w' : V} (h : At T o p w) (hg : T.get o = some (s, cs)) (hw : cs[p]? = some w') : w' = w := by
 obtain ⟨s1, cs1, h1, h2⟩ := h
 rw [hg] at h1
 cases h1
 rw [hw] at h2
 exact Option.some.inj h2
end Go.Vw

namespace Ss
open Go.Vw.G
def UpEnds (near : List Int) : Nat → Int → Prop
 | 0, b => b < 0
 | k + 1, b => b < 0 ∨ (okIx near b ∧ UpEnds near k (near.getD b.toNat 0))
end Ss
namespace Go.Vw
open Go.Proofs Go.RowKit
set_option maxRecDepth 10000
set_option maxHeartbeats 2000000
def encFar (M : Ss.Far) : List V := M.map fun e => .tuple [.agg [.int .i64 e.1.1, .int .i64 e.1.2], .int .u64 e.2]
theorem keySame_pair (a b a' b' : Int) : keySame (.agg [.int .i64 a, .int .i64 b]) (.agg [.int .i64 a', .int .i64 b']) = some (a == a' && b == b') := rfl
theorem lookV_pairs (v b : Int) (v' b' : Int) (w : V) (r : List V) (i : Nat) : lookV (.agg [.int .i64 v, .int .i64 b]) (.tuple [.agg [.int .i64 v', .int .i64 b'], w] :: r) i = if (v, b) = (v', b') then some (some (i, w)) else lookV (.agg [.int .i64 v, .int .i64 b]) r (i + 1) := by
 rw [lookV, keySame_pair]
 by_cases e1 : v = v' <;> by_cases e2 : b = b' <;> simp [e1, e2]
theorem lookV_far (v b : Int) : ∀ (M : Ss.Far) (i : Nat), (lookV (.agg [.int .i64 v, .int .i64 b]) (encFar M) i = some none ∧ Ss.farGet (v, b) M = 0 ∧ ∀ w, Ss.farPut (v, b) w M = M ++ [((v, b), w)]) ∨
  ∃ (j : Nat), lookV (.agg [.int .i64 v, .int .i64 b]) (encFar M) i = some (some (i + j, .int .u64 (Ss.farGet (v, b) M))) ∧ ∀ w, Ss.farPut (v, b) w M = M.set j ((v, b), w)
 | [], i => .inl ⟨rfl, rfl, fun w => rfl⟩
 | ((v', b'), w') :: r, i => by
  have h1 : lookV (.agg [.int .i64 v, .int .i64 b]) (encFar (((v', b'), w') :: r)) i = _ := lookV_pairs v b v' b' (.int .u64 w') (encFar r) i
  by_cases e : (v, b) = (v', b')
  ·rw [if_pos e] at h1
   exact .inr ⟨0, by rw [h1]; simp [Ss.farGet, e], fun w => by simp [Ss.farPut, e]⟩
  ·rw [if_neg e] at h1
   rcases lookV_far v b r (i + 1) with ⟨h2, h3, h4⟩ | ⟨j, h2, h3⟩
   ·exact .inl ⟨h1.trans h2, by simp only [Ss.farGet, if_neg e, h3], fun w => by simp only [Ss.farPut, if_neg e, h4]; rfl⟩
   ·exact .inr ⟨j + 1, by rw [h1, h2]; simp only [Ss.farGet, if_neg e]; congr 3; omega, fun w => by simp only [Ss.farPut, if_neg e, h3]; rfl⟩
theorem look_far {S : Store} {om : Nat} {M : Ss.Far} (h : S.get om = some (0, encFar M)) (v b : Int) : opLookup2 true (.int .u64 0) false S (.map om) (.agg [.int .i64 v, .int .i64 b]) = some (.int .u64 (Ss.farGet (v, b) M)) := by
 simp only [opLookup2, if_true, h]
 rcases lookV_far v b M 0 with ⟨h1, h2, _⟩ | ⟨j, h1, _⟩
 ·rw [h1, h2]; rfl
 ·rw [h1]; rfl
theorem put_far {S : Store} {om : Nat} {M : Ss.Far} (h : S.get om = some (0, encFar M)) (v b w : Int) : opMapUpdate2 true S (.map om) (.agg [.int .i64 v, .int .i64 b]) (.int .u64 w) = some (S.upd om (0, encFar (Ss.farPut (v, b) w M))) := by
 simp only [opMapUpdate2, if_true, h]
 rcases lookV_far v b M 0 with ⟨h1, _, h2⟩ | ⟨j, h1, h2⟩
 ·rw [h1, h2]; simp [encFar]
 ·rw [h1, h2]; simp [encFar, List.map_set]
theorem encFar_ids (p : Nat → Bool) (M : Ss.Far) : V.idsL p (encFar M) = true := by
 simp only [idsL_eq, List.all_eq_true, encFar, List.mem_map]
 rintro x ⟨e, _, rfl⟩; rfl
theorem encFar_ren (f : Nat → Nat) (M : Ss.Far) : V.renL f (encFar M) = encFar M := by
 simp only [renL_eq, encFar, List.map_map]
 exact List.map_congr_left fun e _ => rfl
theorem pairOk13 : pairOkN (P := Try.prog) (kt := 61) 0 = true := by rw [pairOk_iff]; kernel_rfl
theorem Clo_v (S : Store) (near : List Int) (n : Int) (M : Ss.Far) (x : Ss.Ins) (pn pr pf om oa : Nat) (ou : V) (hx : x.Fits) (hx1 : x.op = 257 → x.args ≠ [] ∧ x.n ≤ 8589934592) (hup : Ss.UpEnds near 256 n) (hn : near.length < 2^62)
  (hou : ou.one = true) (gn : S.get pn = some (1, [vint n])) (gr : S.get pr = some (1, [vl vint near])) (gf : S.get pf = some (1, [.map om])) (gm : S.get om = some (0, encFar M)) (ga : S.get oa = some (1, x.args.map vint)) :
  VCalls Try.prog 23 [.agg [vint x.op, vu x.n, .slice oa 0 x.args.length, ou], .ptr pn 0, .ptr pr 0, .ptr pf 0] S fun v T => v = .bool (Ss.pcov near n M x) ∧ T = S.upd om (0, encFar (Ss.pnext near n M x)) := by
 refine vcalls_start (c := bodyOf Try.f23) Try.func23 rfl rfl (by simp [Try.ntmps23]) ?_
 rw [Try.ntmps23]
 intro hwf
 have ln := old_lt hwf gn
 have lr := old_lt hwf gr
 have lf := old_lt hwf gf
 have lm := old_lt hwf gm
 have la := old_lt hwf ga
 have bn := fun u l => @St_old S u l pn ln
 have br := fun u l => @St_old S u l pr lr
 have bf := fun u l => @St_old S u l pf lf
 have bm := fun u l => @St_old S u l om lm
 have ba := fun u l => @St_old S u l oa la
 obtain ⟨op, N, args, outs⟩ := x
 simp only at *
 have hno : ∀ M', Ss.pnext near n M ⟨op, N, args, outs⟩ = M' → M' = M → St S [] [] = S.upd om (0, encFar M') := fun M' h1 h2 => by
  subst h2
  rw [St_nil hwf]
  refine Store.ext' (funext fun o => ?_) rfl
  rw [upd_at]; split
  ·rename_i e; subst e; exact gm
  ·rfl
 by_cases ho : op = 257
 case neg =>
  have ho' : ¬ (op : Int) = 257 := ho
  repeat (first|refine QG ?_|refine QX (r:=by conv=>lhs;simp[-List.map_set,QV,ho,hou]) (k:=?_))
  refine done_turned (X := .bool false) (S' := St S [] []) hwf (by simp) rfl rfl rfl ⟨?_, ?_⟩
  ·simp [Ss.pcov, ho]
  ·exact hno _ rfl (by simp [Ss.pnext, ho])
 subst ho
 obtain ⟨ha, hN⟩ := hx1 rfl
 obtain ⟨v, ar, rfl⟩ : ∃ v ar, args = v :: ar := by cases args with | nil => exact absurd rfl ha | cons v ar => exact ⟨v, ar, rfl⟩
 have ga' : S.get oa = some (1, .int .i64 v :: ar.map vint) := ga
 have h0 : (0 : Int) < (ar.length : Int) + 1 := by omega
 repeat (first|refine QG ?_|refine QX (r:=by conv=>lhs;simp[-List.map_set,QV,hou,bn,br,bf,bm,ba,gn,gr,gf,gm,ga',h0]) (k:=?_))
 have hcov : Ss.pcov near n M ⟨257, N, v :: ar, outs⟩ = (Ss.chain near 257 n).any fun up => decide (N < Ss.farGet (v, up) M) := by simp [Ss.pcov]
 have hlk : ∀ l b, opLookup2 true (.int .u64 0) false (St S [] l) (.map om) (.agg [.int .i64 v, .int .i64 b]) = some (.int .u64 (Ss.farGet (v, b) M)) := fun l b => look_far ((bm [] l).trans gm) v b
 have hput : ∀ l w, opMapUpdate2 true (St S [] l) (.map om) (.agg [.int .i64 v, .int .i64 n]) (.int .u64 w) = some (St S [(om, some (0, encFar (Ss.farPut (v, n) w M)))] l) := fun l w => by rw [put_far ((bm [] l).trans gm), St_updOld lm]; rfl
 have hpk := pairOk13
 have hwN : IntKind.u64.wrap (N + 1) = N + 1 := by
  have := hx.2.1.1
  simp only at this
  exact wrap_u64' (by omega) (by omega)
 repeat refine QS ?_
 refine vw_drawW (St S [] [some (4, [.int .i64 257, .int .u64 N, .slice oa 0 (ar.length + 1), ou])]) (St S [] [some (4, [.int .i64 257, .int .u64 N, .slice oa 0 (ar.length + 1), ou])]) [] rfl (by kernel_rfl) (by conv => lhs; reduce) (by conv => lhs; reduce) (by kernel_rfl) (by kernel_rfl) (ok_St (by simp [subU, shpU, subL, shpL])) (by conv => lhs; simp [-List.map_set,QV, hou, bn, br, bf, bm, ba, gn, gr, gf, gm, ga', h0]) ?_
 refine vseg_write rfl (by conv=>lhs;simp[-List.map_set,QV]) (ok_St (by simp [subU, shpU, subL, shpL])) ?_
 refine vseg_write rfl (by conv=>lhs;simp[-List.map_set,QV]) (ok_St (by simp [subU, shpU, subL, shpL])) ?_
 refine QN ?_
 repeat (first|refine QG ?_|refine QX (r:=by conv=>lhs;simp[-List.map_set,QV,bn,gn]) (k:=?_))
 repeat refine QS ?_
 refine vw_loopAt [2, 3, 4, 6, 7] rfl (fun c σ S' => ∃ (k : Nat) (b : Int), c = k ∧ Ss.UpEnds near k b ∧ ((Ss.chain near (k + 1) b).any fun up => decide (N < Ss.farGet (v, up) M)) = (Ss.chain near 257 n).any (fun up => decide (N < Ss.farGet (v, up) M)) ∧ σ = [(2, .ptr pr 0), (3, .ptr pf 0), (4, .ptr (lid S.nx 0) 0), (6, .ptr (lid S.nx 1) 0), (7, vint b)] ∧ S' = St S [] [some (4, [.int .i64 257, .int .u64 N, .slice oa 0 (ar.length + 1), ou]), some (2, [vint v, vint n])]) 256 ?_ ?_
 ·exact ⟨256, n, rfl, hup, rfl, by simp [Fr.only, Fr.look], rfl⟩
 ·rintro k σ T ⟨_, b, rfl, hE, hany, rfl, rfl⟩
  by_cases hb : 0 ≤ b
  case neg =>
   have hnb : ¬ Go.Vw.G.okIx near b := fun h => hb h.1
   rw [Ss.chain, if_neg hnb, List.any_nil] at hany
   rw [← hcov] at hany
   have hnx : Ss.pnext near n M ⟨257, N, v :: ar, outs⟩ = Ss.farPut (v, n) (N + 1) M := by rw [Ss.pnext, if_pos ⟨rfl, hany.symm⟩]; rfl
   rw [hnx, ← hany]
   repeat (first|refine QG ?_|refine QX (r:=by conv=>lhs;simp[-List.map_set,QV,hb]) (k:=?_))
   repeat refine QS ?_
   refine QR (r:=by conv=>lhs;simp[-List.map_set,QV,bf,gf,hwN,hpk,hput]) (k:=?_)
   refine QN ?_
   repeat (first|refine QG ?_|refine QX (r:=by conv=>lhs;simp[-List.map_set,QV]) (k:=?_))
   refine done_turned (X := .bool false) (S' := S.upd om (0, encFar (Ss.farPut (v, n) (N + 1) M))) hwf (by simp) rfl (by simp [gcOkU, gcOkE, encFar_ids]) ?_ ⟨rfl, rfl⟩
   simp only [gcU, gcE, Option.map_some, encFar_ren]
   exact St_upd1 hwf lm
  obtain ⟨m, rfl⟩ : ∃ m : Nat, b = m := ⟨b.toNat, by omega⟩
  cases k with
  | zero => simp only [Ss.UpEnds] at hE; omega
  | succ k =>
   rcases hE with hE | ⟨hok, hE⟩
   ·omega
   have hml : m < near.length := by have := hok.2; omega
   have hmi : (m : Int) < (near.length : Int) := hok.2
   have eg : near.getD m 0 = near[m] := by rw [List.getD_eq_getElem?_getD, List.getElem?_eq_getElem hml]; rfl
   rw [Ss.chain, if_pos hok, List.any_cons] at hany
   simp only [Int.toNat_natCast, eg] at hany hE
   by_cases hN2 : N < Ss.farGet (v, (m : Int)) M
   ·simp only [hN2, decide_true, Bool.true_or] at hany
    have hcv : Ss.pcov near n M ⟨257, N, v :: ar, outs⟩ = true := by rw [hcov, ← hany]
    repeat (first|refine QG ?_|refine QX (r:=by conv=>lhs;simp[-List.map_set,QV,hb,bf,gf,ba,ga',hlk,hpk,hN2,h0]) (k:=?_))
    refine done_turned (X := .bool true) (S' := St S [] []) hwf (by simp) rfl rfl rfl ⟨?_, ?_⟩
    ·rw [hcv]
    ·exact hno _ rfl (by rw [Ss.pnext, if_neg (fun h => by rw [hcv] at h; cases h.2)])
   ·simp only [hN2, decide_false, Bool.false_or] at hany
    repeat (first|refine QG ?_|refine QX (r:=by conv=>lhs;simp[-List.map_set,QV,hb,bf,gf,ba,ga',hlk,hpk,hN2,h0,br,gr,hml,hmi]) (k:=?_))
    show Again _ _ _ _ _ _ _
    exact again ⟨Nat.lt_succ_self k, k, near[m], rfl, hE, hany, by simp [Fr.only, Fr.look], rfl⟩
end Go.Vw

namespace Ss
def cutB (b : Block) (k : Nat) : Block := ⟨b.params, b.code.take k ++ b.code.drop (k + 1), b.term⟩
def cut (f : Fn) (i k : Nat) : Fn := ⟨f.sig, f.types, f.blocks.set i (cutB (f.blocks.getD i default) k)⟩
end Ss
namespace Go.Vw
open Go.Proofs Go.RowKit
set_option maxRecDepth 10000
set_option maxHeartbeats 2000000
theorem blk_split {T : Store} {bs : List Ss.Block} {cells : List V} {ids : List Nat} {n i : Nat} (h : OwL T (reps n blkT) cells (flatC encBlock bs) ids) (hn : bs.length = n) (hi : i < n) {b : Ss.Block} (hb : bs[i]? = some b) :
  ∃ (c1 c2 : List V) (oc : Nat) (i1 i2 : List Nat), cells = c1 ++ ([vl vint b.params, .slice oc 0 b.code.length, vint b.term.kind, vint b.term.arg, vl encEdge b.term.to, vl vint b.term.args] ++ c2) ∧ c1.length = i * 6 ∧ ids = i1 ++ oc :: i2 ∧ T.get oc = some (4, flatC encIns b.code) ∧
   OwL T (reps i blkT) c1 (flatC encBlock (bs.take i)) i1 ∧ OwL T (reps (n - i - 1) blkT) c2 (flatC encBlock (bs.drop (i + 1))) i2 := by
 have e1 : reps n blkT = reps i blkT ++ (blkT ++ reps (n - i - 1) blkT) := by
  rw [← reps_succ, ← reps_add]; congr 1; omega
 have e2 : flatC encBlock bs = flatC encBlock (bs.take i) ++ ((encBlock b).cells ++ flatC encBlock (bs.drop (i + 1))) := by
  have hlt : i < bs.length := by omega
  have : bs = bs.take i ++ b :: bs.drop (i + 1) := by
   have hbi : bs[i] = b := by rw [List.getElem?_eq_getElem hlt] at hb; exact Option.some.inj hb
   rw [← hbi, List.getElem_cons_drop, List.take_append_drop]
  conv => lhs; rw [this]
  simp [flatC]
 rw [e1, e2] at h
 obtain ⟨r1, r2, x1, x2, i1, i2, rfl, hx, rfl, k1, k2⟩ := h.split
 have hl1 : (flatC encBlock (bs.take i)).length = x1.length := by
  rw [flatC_len (s := 6) (fun _ => by rw [encBlock_cells]; rfl), k1.len.2, reps_len, List.length_take]
  show min i bs.length * 6 = i * 6
  rw [Nat.min_eq_left (by omega)]
 obtain ⟨rfl, rfl⟩ := List.append_inj hx hl1
 obtain ⟨r3, r4, x3, x4, i3, i4, rfl, hx2, rfl, k3, k4⟩ := k2.split
 have hl2 : (encBlock b).cells.length = x3.length := by rw [encBlock_cells, k3.len.2]; rfl
 obtain ⟨rfl, rfl⟩ := List.append_inj hx2 hl2
 rw [encBlock_cells] at k3
 cases k3 with
 | c hp k3 =>
  generalize hL : vl encIns b.code = L at k3
  cases k3 with
  | @s _ _ _ _ cells' ys ii jj oc ho hs d t =>
  have hy : ys = b.code.map encIns := by
   have : V.list (b.code.map encIns) = V.list ys := hL
   exact (V.list.inj this).symm
  subst hy
  cases t with
  | c _ t => cases t with
   | c _ t => cases t with
    | c _ t => cases t with
     | c _ t => cases t with
      | nil =>
       have hd : cells' = flatC encIns b.code ∧ ii = [] := by
        rw [List.length_map, flatC_map, reps_c] at d
        exact own_closed d
       obtain ⟨rfl, rfl⟩ := hd
       refine ⟨r1, r4, oc, i1, i4, ?_, ?_, ?_, ?_, k1, k4⟩
       ·simp
       ·rw [k1.len.1, reps_len]; rfl
       ·simp
       ·rw [ho]; rfl
theorem blk_join {T : Store} {bs : List Ss.Block} {c1 c2 : List V} {i1 i2 : List Nat} {n i oc : Nat} {b : Ss.Block} (h1 : OwL T (reps i blkT) c1 (flatC encBlock (bs.take i)) i1) (h2 : OwL T (reps (n - i - 1) blkT) c2 (flatC encBlock (bs.drop (i + 1))) i2) (hn : bs.length = n) (hi : i < n) (ho : T.get oc = some (4, flatC encIns b.code)) :
  OwL T (reps n blkT) (c1 ++ ([vl vint b.params, .slice oc 0 b.code.length, vint b.term.kind, vint b.term.arg, vl encEdge b.term.to, vl vint b.term.args] ++ c2)) (flatC encBlock (bs.set i b)) (i1 ++ oc :: i2) := by
 have e1 : reps n blkT = reps i blkT ++ (blkT ++ reps (n - i - 1) blkT) := by
  rw [← reps_succ, ← reps_add]; congr 1; omega
 have e2 : flatC encBlock (bs.set i b) = flatC encBlock (bs.take i) ++ ((encBlock b).cells ++ flatC encBlock (bs.drop (i + 1))) := by
  rw [List.set_eq_take_append_cons_drop, if_pos (by omega)]
  simp [flatC]
 rw [e1, e2, encBlock_cells]
 refine h1.append (OwL.append (i := [oc]) ?_ h2)
 exact .c rfl (OwL.slice (fun _ => by rw [encIns_cells]; rfl) encIns_closed b.code ho (.c rfl (.c rfl (.c rfl (.c rfl .nil)))))
end Go.Vw

namespace Go.Vw
open Go.Proofs Go.RowKit
set_option maxRecDepth 10000
set_option maxHeartbeats 8000000
theorem Check_v (e : Ss.Env) (f : Ss.Fn) (he : e.Fits) (hf : f.Fits) : VPure Try.prog 17 [encEnv e, encFn f] (.bool (Ss.check e f)) := by
 intro S
 have cer := EnvRight_v e he
 have csm := small_v f hf
 have hsb := @small_blocks f
 have ckt : VPure Try.prog 45 [.int .i64 2048, vl vint f.types] (.bool (Ss.kinds 2048 f.types)) := kinds_v 2048 f.types (by have := hf.2.1.1; omega)
 have csr := sigRight_v f.sig hf.1
 have cpa := AnyB_v f.blocks (fun b => decide (256 < b.params.length)) 48 [] rfl (by have := hf.2.2.1; omega) (fun b _ => check1_v b)
 have hpa : (f.blocks.all fun b => decide (b.params.length ≤ 256)) = !(f.blocks.any fun b => decide (256 < b.params.length)) := by
  rw [List.not_any_eq_all_not]; congr 1; funext b; by_cases h : b.params.length ≤ 256 <;> simp [h] <;> omega
 have hH : Ss.checkHead e f = (e.right && f.small && decide (f.blocks.length ≤ 256) && Ss.kinds 2048 f.types && f.sig.right && !(f.blocks.any fun b => decide (256 < b.params.length))) := by rw [← hpa]; rfl
 have hX : Ss.check e f = (Ss.checkHead e f && match Ss.defsOf f with
  | none => false
  | some ds => Ss.shapeOk f && Ss.checkBlocks e f ds (G.nearI (Ss.succs f.blocks)) 0 f.blocks) := rfl
 have hks : Ss.kinds 2048 f.types = true → f.types.length ≤ 2048 := by
  intro h; simp only [Ss.kinds, Bool.and_eq_true, decide_eq_true_eq] at h; exact h.1
 have her : e.right = true → e.muts.length = e.globals.length := by
  intro h; simp only [Ss.Env.right, Bool.and_eq_true, decide_eq_true_eq] at h; exact h.1.1.2
 rw [hX, hH]
 generalize (f.blocks.any fun b => decide (256 < b.params.length)) = pa at *
 generalize e.right = er at *
 generalize hsm : f.small = sm at *
 generalize Ss.kinds 2048 f.types = kt at *
 generalize f.sig.right = sr at *
 have hsl := he.1.1
 have hgl := he.2.2.1.1
 obtain ⟨sg, im, gl, mu, me⟩ := e
 obtain ⟨⟨fi, fo⟩, ts, bs⟩ := f
 simp only at *
 have cer' : VPure Try.prog 43 [.agg [vl encSig sg, .int .i64 im, vl vint gl, vl V.bool mu, .bool me]] (.bool er) := cer
 have csm' : VPure Try.prog 44 [.agg [vl vint fi, vl vint fo, vl vint ts, vl encBlock bs]] (.bool sm) := csm
 have csr' : VPure Try.prog 46 [.agg [vl vint fi, vl vint fo]] (.bool sr) := csr
 generalize hZ : (match Ss.defsOf ⟨⟨fi, fo⟩, ts, bs⟩ with
  | none => false
  | some ds => Ss.shapeOk ⟨⟨fi, fo⟩, ts, bs⟩ && Ss.checkBlocks ⟨sg, im, gl, mu, me⟩ ⟨⟨fi, fo⟩, ts, bs⟩ ds (G.nearI (Ss.succs bs)) 0 bs) = Z
 refine vcalls_start (c := bodyOf Try.f17) Try.func17 rfl rfl (by simp [Try.ntmps17]) ?_
 rw [Try.ntmps17]
 intro hwf
 repeat (first|refine QG ?_|refine QX (r:=by conv=>lhs;simp[-List.map_set,QV]) (k:=?_))
 repeat refine QS ?_
 refine QR (r:=by conv=>lhs;simp[-List.map_set,QV]) (k:=?_)
 refine vcall_useH (cer') (by rfl) ?_
 by_cases h1 : er = true
 case neg =>
  have h1' : er = false := by simpa using h1
  refine QM (by conv=>lhs;simp[-List.map_set,QV,h1']) ?_
  refine QN ?_
  repeat (first|refine QG ?_|refine QX (r:=by conv=>lhs;simp[-List.map_set,QV]) (k:=?_))
  exact done_pure hwf (by simp [h1']) rfl
 refine QM (by conv=>lhs;simp[-List.map_set,QV,h1]) ?_
 refine vcall_useH (csm') (by rfl) ?_
 by_cases h2 : sm = true
 case neg =>
  have h2' : sm = false := by simpa using h2
  refine QM (by conv=>lhs;simp[-List.map_set,QV,h2']) ?_
  refine QN ?_
  repeat (first|refine QG ?_|refine QX (r:=by conv=>lhs;simp[-List.map_set,QV]) (k:=?_))
  exact done_pure hwf (by simp [h2']) rfl
 by_cases h3 : (256 : Int) < (bs.length : Int)
 ·refine QM (by conv=>lhs;simp[-List.map_set,QV,h2,h3]) ?_
  refine QN ?_
  repeat (first|refine QG ?_|refine QX (r:=by conv=>lhs;simp[-List.map_set,QV]) (k:=?_))
  exact done_pure hwf (by rw [show decide (bs.length ≤ 256) = false by simp; omega]; simp) rfl
 have h3' : bs.length ≤ 256 := by omega
 refine QM (by conv=>lhs;simp[-List.map_set,QV,h2,h3]) ?_
 refine vcall_useH (ckt) (by rfl) ?_
 by_cases h4 : kt = true
 case neg =>
  have h4' : kt = false := by simpa using h4
  refine QM (by conv=>lhs;simp[-List.map_set,QV,h4']) ?_
  refine QN ?_
  repeat (first|refine QG ?_|refine QX (r:=by conv=>lhs;simp[-List.map_set,QV]) (k:=?_))
  exact done_pure hwf (by simp [h4']) rfl
 refine QM (by conv=>lhs;simp[-List.map_set,QV,h4]) ?_
 refine vcall_useH (csr') (by rfl) ?_
 by_cases h5 : sr = true
 case neg =>
  have h5' : sr = false := by simpa using h5
  refine QM (by conv=>lhs;simp[-List.map_set,QV,h5']) ?_
  refine QN ?_
  repeat (first|refine QG ?_|refine QX (r:=by conv=>lhs;simp[-List.map_set,QV]) (k:=?_))
  exact done_pure hwf (by simp [h5']) rfl
 rw [h1, h2, h4, h5, decide_eq_true h3']
 simp only [Bool.true_and]
 have htl := hks h4
 obtain ⟨_, _, hsf, _⟩ := hsb h2
 refine QM (by conv=>lhs;simp[-List.map_set,QV,h5]) ?_
 refine QN ?_
 repeat (first|refine QG ?_|refine QX (r:=by conv=>lhs;simp[-List.map_set,QV]) (k:=?_))
 repeat refine QS ?_
 refine QR (r:=by conv=>lhs;simp[-List.map_set,QV]) (k:=?_)
 refine vcall_useH (cpa) (by rfl) ?_
 by_cases h6 : pa = true
 ·refine QM (by conv=>lhs;simp[-List.map_set,QV,h6]) ?_
  refine QN ?_
  repeat (first|refine QG ?_|refine QX (r:=by conv=>lhs;simp[-List.map_set,QV]) (k:=?_))
  exact done_pure hwf (by simp [h6]) rfl
 have h6' : pa = false := by simpa using h6
 rw [h6']
 simp only [Bool.not_false, Bool.true_and]
 refine QM (by conv=>lhs;simp[-List.map_set,QV,h6']) ?_
 refine vcall_any rfl (define_v _ ⟨sg, im, gl, mu, me⟩ ⟨⟨fi, fo⟩, ts, bs⟩ (lid S.nx 2) hf (by simp only; omega) (by simp)) ?_
 rintro X S' ⟨ds, hdl, rfl, hdd, rfl⟩
 rw [St_St (by rw [St_nx]; simp [lid]), St_upd (by simp), St_add, St_nx, lid_lid]
 simp only [List.set_cons_succ, List.set_cons_zero, List.cons_append, List.nil_append, List.length_cons, List.length_nil, Nat.zero_add, Nat.add_zero]
 cases hdf : Ss.defsOf ⟨⟨fi, fo⟩, ts, bs⟩ with
 | none =>
  rw [hdf] at hZ
  simp only at hZ
  obtain ⟨z, hz⟩ : ∃ z, (none : Option (List Ss.Def)).isSome = z := ⟨_, rfl⟩
  have hz' : z = false := by rw [← hz]; rfl
  rw [hz]
  refine QM (by conv=>lhs;simp[-List.map_set,QV,hz']) ?_
  refine QN ?_
  repeat (first|refine QG ?_|refine QX (r:=by conv=>lhs;simp[-List.map_set,QV]) (k:=?_))
  exact done_pure hwf (by simp [← hZ]) rfl
 | some ds2 =>
  obtain rfl := hdd _ hdf
  rw [hdf] at hZ
  simp only at hZ
  obtain ⟨hdl2, hdin⟩ := Ss.defs_in hdf
  simp only at hdin
  obtain ⟨z, hz⟩ : ∃ z, (some ds : Option (List Ss.Def)).isSome = z := ⟨_, rfl⟩
  have hz' : z = true := by rw [← hz]; rfl
  rw [hz]
  refine QM (by conv=>lhs;simp[-List.map_set,QV,hz']) ?_
  refine vcall_any rfl (shape_v _ ⟨sg, im, gl, mu, me⟩ ⟨⟨fi, fo⟩, ts, bs⟩ (lid S.nx 2) (lid S.nx 3) hf (hsm.trans h2) (by simp [hdl]) (by simp [lid]) (fun b hb => (hdin b hb).1)) ?_
  rintro X S' ⟨nv, hnv, rfl, hnvv, rfl⟩
  rw [St_upd (by simp)]
  simp only [List.set_cons_succ, List.set_cons_zero]
  generalize hso : Ss.shapeOk ⟨⟨fi, fo⟩, ts, bs⟩ = so at *
  by_cases h7 : so = true
  case neg =>
   have h7' : so = false := by simpa using h7
   refine QM (by conv=>lhs;simp[-List.map_set,QV,h7']) ?_
   refine QN ?_
   repeat (first|refine QG ?_|refine QX (r:=by conv=>lhs;simp[-List.map_set,QV]) (k:=?_))
   exact done_pure hwf (by simp [← hZ, h7']) rfl
  have hnv2 := hnvv h7
  subst hnv2
  rw [h7, Bool.true_and] at hZ
  have hright : G.right (Ss.succs bs) = true := by
   have := hso.trans h7
   simp only [Ss.shapeOk, Bool.and_eq_true] at this
   exact this.1.1.1.1
  have hto := Ss.right_to (f := ⟨⟨fi, fo⟩, ts, bs⟩) hright
  simp only at hto
  have hnl := G.nearI_len (Ss.succs bs)
  generalize hnr : G.nearI (Ss.succs bs) = near at *
  refine QM (by conv=>lhs;simp[-List.map_set,QV,h7]) ?_
  refine QN ?_
  apply vw_reach
  ·exact Reach.frzCellS (enc := encDef) (s := 3) (fun _ => rfl) encDef_closed (k := 2) (j := 3) (i := 9) ds (by decide) (by simp) (by simp) (by rfl) (by rw [hdl]; rfl) (by rfl)
  simp only [List.set_cons_succ, List.set_cons_zero]
  refine vw_ghost' 5 rfl ((refSt (k := 2) (by simp) (by rfl) (by rfl) (by simp))) (by conv => lhs; simp [Fr.set]) ?_
  simp only [List.set_cons_succ, List.set_cons_zero]
  repeat (first|refine QG ?_|refine QX (r:=by conv=>lhs;simp[-List.map_set,QV]) (k:=?_))
  refine vw_only' [5, 54, 55, 56] (by conv => lhs; simp [Fr.only, Fr.look]) ?_
  refine vw_gc [] hwf (by decide) (by simp [-List.map_set]) (by conv => lhs; simp [-List.map_set]) (by conv => lhs; simp [-List.map_set]) (by conv => lhs; simp [-List.map_set]) ?_
  have ci : ∀ (i k : Nat) (b : Ss.Block) (x : Ss.Ins), b ∈ bs → x ∈ b.code → VPure Try.prog 51 [ckV ⟨sg, im, gl, mu, me⟩ ⟨⟨fi, fo⟩, ts, bs⟩ ds near, vnat i, vnat k, encIns x] (.bool (Ss.insOk ⟨sg, im, gl, mu, me⟩ ⟨⟨fi, fo⟩, ts, bs⟩ ds near i k x)) := by
   intro i k b x hb hx
   have hbF := hf.2.2.2 b hb
   have hxF := hbF.2.1.2 x hx
   have hsmb := ((Ss.small_iff _).1 (hsm.trans h2)).2.1 b hb
   simp only [Ss.Block.small, Bool.and_eq_true, List.all_eq_true, Ss.Ins.small, decide_eq_true_eq] at hsmb
   have hxl := (hsmb.1.2 x hx).2
   exact ins_v ⟨sg, im, gl, mu, me⟩ ⟨⟨fi, fo⟩, ts, bs⟩ ds near i k x hsl hgl (her h1) hdl (by simp only; omega) (by omega) hxF (by omega) ((hdin b hb).2 x hx)
  have ctm : ∀ (i : Nat) (b : Ss.Block), b ∈ bs → VPure Try.prog 52 [ckV ⟨sg, im, gl, mu, me⟩ ⟨⟨fi, fo⟩, ts, bs⟩ ds near, vnat i, encBlock b] (.bool (Ss.termOk ⟨⟨fi, fo⟩, ts, bs⟩ ds near i b)) := fun i b hb =>
   term_v ⟨sg, im, gl, mu, me⟩ ⟨⟨fi, fo⟩, ts, bs⟩ ds near i b hdl (by simp only; omega) (by omega) (by simp only; omega) (by have := hf.1.2.1; simp only at this ⊢; omega) (hf.2.2.2 b hb) (hto b hb) (fun b hb => ⟨by have := (hsf b hb).1; omega, (hdin b hb).1⟩)
  repeat refine QS ?_
  refine vw_loopAt [5, 54, 55, 56] rfl (fun c σ S' => ∃ (k : Nat), k ≤ bs.length ∧ c = bs.length - k ∧ Ss.checkBlocks ⟨sg, im, gl, mu, me⟩ ⟨⟨fi, fo⟩, ts, bs⟩ ds near k (bs.drop k) = Z ∧ σ = [(5, ckV ⟨sg, im, gl, mu, me⟩ ⟨⟨fi, fo⟩, ts, bs⟩ ds near), (54, vl encBlock bs), (55, vnat bs.length), (56, vnat k)] ∧ S' = St S [] []) bs.length ?_ ?_
  ·exact ⟨0, by omega, rfl, hZ, by simp [Fr.only], rfl⟩
  ·rintro c σ T ⟨k, hk, rfl, hcb, rfl, rfl⟩
   by_cases hkt : k < bs.length
   ·have hw := wrapNat hkt (by omega)
    have hst := checkBlocks_one (e := ⟨sg, im, gl, mu, me⟩) (f := ⟨⟨fi, fo⟩, ts, bs⟩) (ds := ds) (near := near) hkt
    have hmem := List.getElem_mem hkt
    have hcl := (hsf _ hmem).2.2.2
    have cti := ctm k _ hmem
    have cii := fun j x => ci k j _ x hmem
    obtain ⟨⟨ps, code, ⟨tk, ta, to, az⟩⟩, hx⟩ : ∃ b, bs[k] = b := ⟨_, rfl⟩
    rw [hx] at hst hcl cti cii
    simp only at hst hcl cii
    rw [hst] at hcb
    generalize Ss.termOk ⟨⟨fi, fo⟩, ts, bs⟩ ds near k ⟨ps, code, ⟨tk, ta, to, az⟩⟩ = tm at *
    repeat (first|refine QG ?_|refine QX (r:=by conv=>lhs;simp[-List.map_set,QV,hkt,hx]) (k:=?_))
    repeat refine QS ?_
    refine vw_loopAt [5, 6, 7, 54, 55, 56, 62, 63, 64] rfl (fun c σ S' => ∃ (j : Nat), j ≤ code.length ∧ c = code.length - j ∧ Ss.checkCode ⟨sg, im, gl, mu, me⟩ ⟨⟨fi, fo⟩, ts, bs⟩ ds near k j (code.drop j) = Ss.checkCode ⟨sg, im, gl, mu, me⟩ ⟨⟨fi, fo⟩, ts, bs⟩ ds near k 0 code ∧ σ = [(5, ckV ⟨sg, im, gl, mu, me⟩ ⟨⟨fi, fo⟩, ts, bs⟩ ds near), (6, vnat k), (7, .ptr (lid S.nx 0) 0), (54, vl encBlock bs), (55, vnat bs.length), (56, vnat k), (62, vl encIns code), (63, vnat code.length), (64, vnat j)] ∧ S' = St S [] [some (6, [vl vint ps, vl encIns code, .int .i64 tk, .int .i64 ta, vl encEdge to, vl vint az])]) code.length ?_ ?_
    ·exact ⟨0, by omega, rfl, rfl, by simp [Fr.only], rfl⟩
    ·rintro c σ T ⟨j, hj, rfl, hcc, rfl, rfl⟩
     by_cases hjt : j < code.length
     ·have hwj := wrapNat hjt (by omega)
      have hsc := checkCode_one (e := ⟨sg, im, gl, mu, me⟩) (f := ⟨⟨fi, fo⟩, ts, bs⟩) (ds := ds) (near := near) (i := k) hjt
      have cij := cii j _ (List.getElem_mem hjt)
      obtain ⟨⟨xo, xn, xa, xu⟩, hx2⟩ : ∃ x, code[j] = x := ⟨_, rfl⟩
      rw [hx2] at hsc cij
      generalize Ss.insOk ⟨sg, im, gl, mu, me⟩ ⟨⟨fi, fo⟩, ts, bs⟩ ds near k j ⟨xo, xn, xa, xu⟩ = io at *
      have cij' : VPure Try.prog 51 [ckV ⟨sg, im, gl, mu, me⟩ ⟨⟨fi, fo⟩, ts, bs⟩ ds near, vnat k, vnat j, .agg [.int .i64 xo, .int .u64 xn, vl vint xa, vl vint xu]] (.bool io) := cij
      repeat (first|refine QG ?_|refine QX (r:=by conv=>lhs;simp[-List.map_set,QV,hjt,hx2]) (k:=?_))
      repeat refine QS ?_
      refine QR (r:=by conv=>lhs;simp[-List.map_set,QV,hjt,hx2]) (k:=?_)
      refine vcall_useH (cij') (by rfl) ?_
      by_cases hio : io = true
      ·refine QM (by conv=>lhs;simp[-List.map_set,QV,hio]) ?_
       refine QN ?_
       repeat (first|refine QG ?_|refine QX (r:=by conv=>lhs;simp[-List.map_set,QV]) (k:=?_))
       refine QA [0] (h:=⟨?_, j + 1, hjt, rfl, by rw [← hcc, hsc, hio, Bool.true_and], by simp [hwj], rfl⟩)
       omega
      ·have hio' : io = false := by simpa using hio
       refine QM (by conv=>lhs;simp[-List.map_set,QV,hio']) ?_
       refine QN ?_
       repeat (first|refine QG ?_|refine QX (r:=by conv=>lhs;simp[-List.map_set,QV]) (k:=?_))
       exact done_pure hwf (by rw [← hcb, ← hcc, hsc, hio']; simp) rfl
     ·have e1 : code.drop j = [] := by rw [List.drop_eq_nil_iff]; omega
      rw [e1, Ss.checkCode] at hcc
      rw [← hcc, Bool.true_and] at hcb
      have cti' : VPure Try.prog 52 [ckV ⟨sg, im, gl, mu, me⟩ ⟨⟨fi, fo⟩, ts, bs⟩ ds near, vnat k, .agg [vl vint ps, vl encIns code, .int .i64 tk, .int .i64 ta, vl encEdge to, vl vint az]] (.bool tm) := cti
      repeat (first|refine QG ?_|refine QX (r:=by conv=>lhs;simp[-List.map_set,QV,hjt]) (k:=?_))
      repeat refine QS ?_
      refine QR (r:=by conv=>lhs;simp[-List.map_set,QV,hjt]) (k:=?_)
      refine vcall_useH (cti') (by rfl) ?_
      by_cases htm : tm = true
      ·refine QM (by conv=>lhs;simp[-List.map_set,QV,htm]) ?_
       refine QN ?_
       repeat (first|refine QG ?_|refine QX (r:=by conv=>lhs;simp[-List.map_set,QV]) (k:=?_))
       refine QA [] (h:=⟨?_, k + 1, hkt, rfl, by rw [← hcb, htm, Bool.true_and], by simp [hw], rfl⟩)
       omega
      ·have htm' : tm = false := by simpa using htm
       refine QM (by conv=>lhs;simp[-List.map_set,QV,htm']) ?_
       refine QN ?_
       repeat (first|refine QG ?_|refine QX (r:=by conv=>lhs;simp[-List.map_set,QV]) (k:=?_))
       exact done_pure hwf (by rw [← hcb, htm']; simp) rfl
   ·have e1 : bs.drop k = [] := by rw [List.drop_eq_nil_iff]; omega
    rw [e1, Ss.checkBlocks] at hcb
    repeat (first|refine QG ?_|refine QX (r:=by conv=>lhs;simp[-List.map_set,QV,hkt]) (k:=?_))
    exact done_pure hwf (by simp [← hcb]) rfl
end Go.Vw

namespace Go.Vw
open Go.Proofs Go.RowKit
set_option maxRecDepth 10000
set_option maxHeartbeats 8000000
end Go.Vw

namespace Go.Vw
open Go.Proofs Go.RowKit
set_option maxRecDepth 10000
set_option maxHeartbeats 2000000
def sameFn (f g : Ss.Fn) : Bool := f.small && g.small && decide (f = g)
end Go.Vw

namespace Ss
def smallF : Fn := ⟨⟨[], [127]⟩, [127], [⟨[], [⟨258, 0, [], []⟩, ⟨256, 5, [], [0]⟩], ⟨4, 0, [], [0]⟩⟩]⟩
def env0 : Env := ⟨[], 0, [], [], false⟩
end Ss
namespace Go.Vw
open Go.Proofs Go.RowKit
set_option maxRecDepth 10000
set_option maxHeartbeats 4000000
theorem Reach.nilCell {N b0 : Nat} {σ : Fr} {B : Store} {u : Upds} {l : List (Option (Nat × List V))} {k i s : Nat} {cs : List V} (hk : k < l.length) (hck : (l[k]?).join = some (s, cs)) (hi : cs[i]? = some .nils) :
  Reach N b0 σ (St B u l) σ (St B u (l.set k (some (s, cs.set i (.list []))))) := by
 have := Reach.cell (N := N) (b0 := b0) (σ := σ) (o := lid B.nx k) (i := i) (s := s) (cs := cs) (Ghost.nils_list (St B u l)) (by simp [V.one]) (by rw [St_get]; exact hck) hi (by rw [St_get]; exact hck)
 rw [St_upd hk] at this
 exact this
end Go.Vw

namespace Go.Vw
open Go.Proofs Go.RowKit
set_option maxRecDepth 10000
set_option maxHeartbeats 8000000
def NL (x y : V) : Prop := x = y ∨ (x = .nils ∧ y = .list [])
theorem Rep.nl {m : Imm} {β : Objs} {x y : V} {v : Value} (h : Rep m β x v) (hn : NL x y) : Rep m β y v := by
 rcases hn with rfl | ⟨rfl, rfl⟩
 ·exact h
 ·cases h with
  | imm h => cases h with | nils a => exact .imm (.list0 a 0 (Nat.zero_le _))
theorem Ghost.agg_nl {S : Store} {xs ys : List V} (hl : xs.length = ys.length) (h : ∀ (i : Nat) (x y : V), xs[i]? = some x → ys[i]? = some y → NL x y) : Ghost (.agg xs) S (.agg ys) S := by
 intro m β w v hS hr
 obtain ⟨vs, rfl, hl2, hrr, h1⟩ := hr.inv_agg
 refine ⟨m, β, hS, Ext.refl _ _ _, .agg ys vs (by omega) (fun i y u hy hu => ?_) h1⟩
 have hi : i < xs.length := by rw [hl]; exact (List.getElem?_eq_some_iff.1 hy).1
 exact (hrr i xs[i] u (List.getElem?_eq_getElem hi) hu).nl (h i _ y (List.getElem?_eq_getElem hi) hy)
end Go.Vw
