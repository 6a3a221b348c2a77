import Derived.Test.YtmfpoangempgaaaGreatC19
/-
  Part of the proof (texts STerm, CTerm).
-/
set_option linter.unusedVariables false
set_option linter.unusedSimpArgs false
namespace Go.Vw
open Go.Proofs Go.RowKit
set_option maxRecDepth 10000
set_option maxHeartbeats 4000000

theorem branches_v (t : Ss.Term) : VPure Tryz.prog 55 [encTerm t] (.bool (Ss.branches t)) := by
  intro S
  obtain ⟨k, a, to, az⟩ := t
  simp only [Ss.branches]
  refine vcalls_start (c := bodyOf Tryz.f55) Tryz.func55 rfl rfl (by simp [Tryz.ntmps55]) ?_
  rw [Tryz.ntmps55]
  intro hwf
  by_cases h : k = 2
  · repeat (first|refine QG ?_|refine QX (r:=by conv=>lhs;simp[-List.map_set,QV,h]) (k:=?_))
    exact done_pure hwf (by simp [h]) rfl
  · repeat (first|refine QG ?_|refine QX (r:=by conv=>lhs;simp[-List.map_set,QV,h]) (k:=?_))
    exact done_pure hwf (by simp [h]) rfl

theorem term_v (e : Ss.Env) (f : Ss.Fn) (ds : List Ss.Def) (near : List Int) (i : Int) (b : Ss.Block) (hds : ds.length = f.types.length) (htl : f.types.length < 2^63) (hnl : near.length < 2^63) (hbl : f.blocks.length < 2^63) (hol : f.sig.out.length < 2^63)
    (hb : b.Fits) (hto : ∀ x ∈ b.term.to, 0 ≤ x.to ∧ x.to < f.blocks.length) (hps : ∀ b ∈ f.blocks, b.params.length ≤ 1048576 ∧ Ss.InTs f.types.length b.params) :
    VPure Tryz.prog 21 [ckV e f ds near, vint i, encBlock b] (.bool (Ss.termOk f ds near i b)) := by
  intro S
  obtain ⟨_, ⟨hcl, _⟩, _, _, ⟨htol, htf⟩, ⟨haz, _⟩⟩ := hb
  have ca : ∀ l m : List Int, l.length < 2^63 → VPure Tryz.prog 54 [ckV e f ds near, vint i, vnat b.code.length, vl vint l, vl vint m] (.bool (Ss.asks f.types ds near i b.code.length l m)) := fun l m hl => asks_v e f ds near i b.code.length l m hds htl hnl hl
  have ct : ∀ b ∈ f.blocks, VPure Tryz.prog 52 [ckV e f ds near, vl vint b.params] (vl vint (Ss.typesOf f.types b.params)) := fun b hb => types_v e f ds near b.params (hps b hb).1 (hps b hb).2
  have cb := branches_v b.term
  obtain ⟨ps, code, ⟨tk, ta, to, az⟩⟩ := b
  simp only at hcl htol htf haz hto ca
  have hTT : ∀ le mo rs, Ss.termTail f ds near i code.length ⟨tk, ta, to, az⟩ le mo rs = ((if Ss.branches ⟨tk, ta, to, az⟩ then Ss.asks f.types ds near i code.length [ta] [127] else decide (ta = 0)) && decide (le ≤ to.length) && decide (to.length ≤ mo) && Ss.asks f.types ds near i code.length az rs && to.all (Ss.edgeOk f ds near i code.length)) := fun _ _ _ => rfl
  have hX : Ss.termOk f ds near i ⟨ps, code, ⟨tk, ta, to, az⟩⟩ = match Ss.termHead f.sig.out tk with
    | some (le, mo, rs) => Ss.termTail f ds near i code.length ⟨tk, ta, to, az⟩ le mo rs
    | none => false := rfl
  rw [hX]
  generalize hbr : Ss.branches ⟨tk, ta, to, az⟩ = br at *
  have cb' : VPure Tryz.prog 55 [.agg [.int .i64 tk, .int .i64 ta, vl encEdge to, vl vint az]] (.bool br) := cb
  obtain ⟨⟨fi, fo⟩, ts, bs⟩ := f
  simp only at *
  refine vcalls_start (c := bodyOf Tryz.f21) Tryz.func21 rfl rfl (by simp [Tryz.ntmps21]) ?_
  rw [Tryz.ntmps21]
  intro hwf
  repeat refine QS ?_
  refine QR (r:=by conv=>lhs;simp[-List.map_set,QV]) (k:=?_)
  refine QN ?_
  repeat refine QS ?_
  refine vw_drawW (St S [] [some (6, [vl vint ps, vl encIns code, .int .i64 tk, .int .i64 ta, vl encEdge to, vl vint az])]) (St S [] [some (6, [vl vint ps, vl encIns code, .int .i64 tk, .int .i64 ta, vl encEdge to, vl vint az])]) [] rfl (by kernel_rfl) (by conv => lhs; reduce) (by conv => lhs; reduce) (by kernel_rfl) (by kernel_rfl) (ok_St (by simp [subU, shpU, subL, shpL])) (by conv => lhs; simp [-List.map_set,QV]) ?_
  refine vseg_write rfl (by conv=>lhs;simp[-List.map_set,QV]) (ok_St (by simp [subU, shpU, subL, shpL])) ?_
  refine QM (by conv=>lhs;simp[-List.map_set,QV]) ?_
  refine vseg_write rfl (by conv=>lhs;simp[-List.map_set,QV]) (ok_St (by simp [subU, shpU, subL, shpL])) ?_
  refine QM (by conv=>lhs;simp[-List.map_set,QV]) ?_
  refine QN ?_
  repeat refine QS ?_
  refine QR (r:=by conv=>lhs;simp[-List.map_set,QV]) (k:=?_)
  refine QN ?_
  repeat refine QS ?_
  refine QR (r:=by conv=>lhs;simp[-List.map_set,QV]) (k:=?_)
  refine QN ?_
  refine vw_ghost' 11 rfl ((Ghost.nils_list _)) (by conv => lhs; simp [Fr.set]) ?_
  refine vw_seqAt rfl ?_
  refine vw_join (fun σ S' => ∃ (le mo : Nat) (rs : List Int), Ss.termHead fo tk = some (le, mo, rs) ∧ le ≤ 1000 ∧ mo ≤ 1000 ∧ σ = [(0, ckV e ⟨⟨fi, fo⟩, ts, bs⟩ ds near), (1, vint i), (5, .ptr (lid S.nx 0) 0), (7, .ptr (lid S.nx 1) 0), (8, vnat code.length), (9, vnat le), (10, vnat mo), (11, .list (rs.map vint))] ∧ S' = St S [] [some (6, [vl vint ps, vl encIns code, .int .i64 tk, .int .i64 ta, vl encEdge to, vl vint az]), some (4, [.int .i64 tk, .int .i64 ta, vl encEdge to, vl vint az])]) [0, 1, 5, 7, 8, 9, 10, 11] ?_ ?_
  · by_cases k1 : tk = 1
    · subst k1
      repeat (first|refine QG ?_|refine QX (r:=by conv=>lhs;simp[-List.map_set,QV]) (k:=?_))
      exact ⟨1, 1, [], rfl, by omega, by omega, by simp [Fr.only], rfl⟩
    by_cases k2 : tk = 2
    · subst k2
      repeat (first|refine QG ?_|refine QX (r:=by conv=>lhs;simp[-List.map_set,QV]) (k:=?_))
      exact ⟨2, 2, [], rfl, by omega, by omega, by simp [Fr.only], rfl⟩
    by_cases k3 : tk = 3
    · subst k3
      repeat (first|refine QG ?_|refine QX (r:=by conv=>lhs;simp[-List.map_set,QV]) (k:=?_))
      exact ⟨1, 65, [], rfl, by omega, by omega, by simp [Fr.only], rfl⟩
    by_cases k4 : tk = 4
    · subst k4
      repeat (first|refine QG ?_|refine QX (r:=by conv=>lhs;simp[-List.map_set,QV]) (k:=?_))
      exact ⟨0, 0, fo, rfl, by omega, by omega, by simp [Fr.only, vl], rfl⟩
    by_cases k5 : tk = 5
    · subst k5
      repeat (first|refine QG ?_|refine QX (r:=by conv=>lhs;simp[-List.map_set,QV]) (k:=?_))
      exact ⟨0, 0, [], rfl, by omega, by omega, by simp [Fr.only], rfl⟩
    have hn : Ss.termHead fo tk = none := by simp [Ss.termHead, k1, k2, k3, k4, k5]
    rw [hn]
    repeat (first|refine QG ?_|refine QX (r:=by conv=>lhs;simp[-List.map_set,QV,k1,k2,k3,k4,k5]) (k:=?_))
    exact done_pure hwf rfl rfl
  rintro σ S' ⟨le, mo, rs, hh, hle, hmo, rfl, rfl⟩
  rw [hh]
  simp only
  rw [hTT]
  generalize hA : (if br then Ss.asks ts ds near i code.length [ta] [127] else decide (ta = 0)) = A
  refine vw_seqAt rfl ?_
  refine vw_joinR (fun σ S' => A = true ∧ σ = [(0, ckV e ⟨⟨fi, fo⟩, ts, bs⟩ ds near), (1, vint i), (7, .ptr (lid S.nx 1) 0), (8, vnat code.length), (9, vnat le), (10, vnat mo), (11, .list (rs.map vint))] ∧ S' = St S [] [some (6, [vl vint ps, vl encIns code, .int .i64 tk, .int .i64 ta, vl encEdge to, vl vint az]), some (4, [.int .i64 tk, .int .i64 ta, vl encEdge to, vl vint az])]) [0, 1, 7, 8, 9, 10, 11] ?_ ?_
  · repeat refine QS ?_
    refine QR (r:=by conv=>lhs;simp[-List.map_set,QV]) (k:=?_)
    refine vcall_useH (cb') (by rfl) ?_
    by_cases h1 : br = true
    · have hA' : A = Ss.asks ts ds near i code.length [ta] [127] := by rw [← hA, if_pos h1]
      have c1 := ca [ta] [127] (by simp)
      rw [← hA'] at c1
      refine QM (by conv=>lhs;simp[-List.map_set,QV,h1]) ?_
      refine QN ?_
      repeat (first|refine QG ?_|refine QX (r:=by conv=>lhs;simp[-List.map_set,QV]) (k:=?_))
      repeat refine QS ?_
      refine QR (r:=by conv=>lhs;simp[-List.map_set,QV]) (k:=?_)
      refine vcall_useG (xs' := [ckV e ⟨⟨fi, fo⟩, ts, bs⟩ ds near, vint i, vnat code.length, vl vint [ta], vl vint [127]]) rfl (GhostArgs.trans (GhostArgs.one [_, _, _] [_] (frz1 (k := 2) (len := 1) (by simp) (by rfl) (by rfl) (by rfl))) (GhostArgs.one [_, _, _, _] [] (frz1 (k := 3) (len := 1) (by simp) (by rfl) (by rfl) (by rfl)))) c1 ?_
      simp only [List.set_cons_succ, List.set_cons_zero]
      by_cases h2 : A = true
      · refine QM (by conv=>lhs;simp[-List.map_set,QV,h2]) ?_
        refine QN ?_
        repeat (first|refine QG ?_|refine QX (r:=by conv=>lhs;simp[-List.map_set,QV]) (k:=?_))
        refine mid_gc [0, 1, 7, 8, 9, 10, 11] [0, 1] (by conv => lhs; simp [Fr.only]) hwf (by decide) (by simp [-List.map_set]) (by conv => lhs; simp [-List.map_set]) (by conv => lhs; simp [-List.map_set]) (by conv => lhs; simp [-List.map_set]) (⟨h2, by simp, rfl⟩)
      · have h2' : A = false := by simpa using h2
        refine QM (by conv=>lhs;simp[-List.map_set,QV,h2']) ?_
        refine QN ?_
        repeat (first|refine QG ?_|refine QX (r:=by conv=>lhs;simp[-List.map_set,QV]) (k:=?_))
        exact done_pure hwf (by simp [h2']) rfl
    · have h1' : br = false := by simpa using h1
      by_cases h2 : ta = 0
      · have h2' : A = true := by rw [← hA, if_neg h1]; simp [h2]
        refine QM (by conv=>lhs;simp[-List.map_set,QV,h1']) ?_
        refine QN ?_
        repeat (first|refine QG ?_|refine QX (r:=by conv=>lhs;simp[-List.map_set,QV,h2]) (k:=?_))
        refine mid_gc [0, 1, 7, 8, 9, 10, 11] [0, 1] (by conv => lhs; simp [Fr.only]) hwf (by decide) (by simp [-List.map_set]) (by conv => lhs; simp [-List.map_set]) (by conv => lhs; simp [-List.map_set]) (by conv => lhs; simp [-List.map_set]) (⟨h2', by simp, by simp [h2]⟩)
      · have h2' : A = false := by rw [← hA, if_neg h1]; simp [h2]
        refine QM (by conv=>lhs;simp[-List.map_set,QV,h1']) ?_
        refine QN ?_
        repeat (first|refine QG ?_|refine QX (r:=by conv=>lhs;simp[-List.map_set,QV,h2]) (k:=?_))
        exact done_pure hwf (by simp [h2']) rfl
  rintro σ S' ⟨hAt, rfl, rfl⟩
  rw [hAt, Bool.true_and]
  have c2 := ca az rs (by omega)
  generalize Ss.asks ts ds near i code.length az rs = B at *
  by_cases h1 : (to.length : Int) < (le : Int)
  · repeat (first|refine QG ?_|refine QX (r:=by conv=>lhs;simp[-List.map_set,QV,h1]) (k:=?_))
    exact done_pure hwf (by simp; omega) rfl
  by_cases h2 : (mo : Int) < (to.length : Int)
  · repeat (first|refine QG ?_|refine QX (r:=by conv=>lhs;simp[-List.map_set,QV,h1,h2]) (k:=?_))
    exact done_pure hwf (by simp; omega) rfl
  have hlm : (decide (le ≤ to.length) && decide (to.length ≤ mo)) = true := by simp; omega
  rw [hlm, Bool.true_and]
  repeat (first|refine QG ?_|refine QX (r:=by conv=>lhs;simp[-List.map_set,QV,h1,h2]) (k:=?_))
  repeat refine QS ?_
  refine QR (r:=by conv=>lhs;simp[-List.map_set,QV,h1,h2]) (k:=?_)
  refine vcall_useH (c2) (by rfl) ?_
  by_cases h3 : B = true
  case neg =>
    have h3' : B = false := by simpa using h3
    refine QM (by conv=>lhs;simp[-List.map_set,QV,h3']) ?_
    refine QN ?_
    repeat (first|refine QG ?_|refine QX (r:=by conv=>lhs;simp[-List.map_set,QV]) (k:=?_))
    exact done_pure hwf (by simp [h3']) rfl
  rw [h3, Bool.true_and]
  refine QM (by conv=>lhs;simp[-List.map_set,QV,h3]) ?_
  refine QN ?_
  repeat (first|refine QG ?_|refine QX (r:=by conv=>lhs;simp[-List.map_set,QV]) (k:=?_))
  repeat refine QS ?_
  refine vw_loopAt [0, 1, 8, 74, 75, 76] rfl (fun c σ S' => ∃ (k : Nat), k ≤ to.length ∧ c = to.length - k ∧ (to.drop k).all (Ss.edgeOk ⟨⟨fi, fo⟩, ts, bs⟩ ds near i code.length) = to.all (Ss.edgeOk ⟨⟨fi, fo⟩, ts, bs⟩ ds near i code.length) ∧ σ = [(0, ckV e ⟨⟨fi, fo⟩, ts, bs⟩ ds near), (1, vint i), (8, vnat code.length), (74, vl encEdge to), (75, vnat to.length), (76, vnat k)] ∧ S' = St S [] [some (6, [vl vint ps, vl encIns code, .int .i64 tk, .int .i64 ta, vl encEdge to, vl vint az]), some (4, [.int .i64 tk, .int .i64 ta, vl encEdge to, vl vint az])]) to.length ?_ ?_
  · exact ⟨0, by omega, rfl, rfl, by simp [Fr.only], rfl⟩
  · rintro c σ T ⟨k, hk, rfl, hd, rfl, rfl⟩
    by_cases hkt : k < to.length
    · have hw := wrapNat hkt (by omega)
      have hst := Ss.drop_all (Ss.edgeOk ⟨⟨fi, fo⟩, ts, bs⟩ ds near i code.length) hkt
      obtain ⟨t0, t1⟩ := hto _ (List.getElem_mem hkt)
      have htk := htf _ (List.getElem_mem hkt)
      obtain ⟨⟨xt, xa⟩, hx⟩ : ∃ x, to[k] = x := ⟨_, rfl⟩
      rw [hx] at hst t0 t1 htk
      simp only at t0 t1
      obtain ⟨_, ⟨hxl, _⟩⟩ := htk
      simp only at hxl
      by_cases h0 : xt = 0
      · have he : Ss.edgeOk ⟨⟨fi, fo⟩, ts, bs⟩ ds near i code.length ⟨xt, xa⟩ = false := by simp [Ss.edgeOk, h0]
        rw [he] at hst
        repeat (first|refine QG ?_|refine QX (r:=by conv=>lhs;simp[-List.map_set,QV,hkt,hx,h0]) (k:=?_))
        exact done_pure hwf (by rw [← hd, hst]; rfl) rfl
      obtain ⟨n, rfl⟩ : ∃ n : Nat, xt = n := ⟨xt.toNat, by omega⟩
      have hn : n < bs.length := by omega
      have ctn := ct _ (List.getElem_mem hn)
      obtain ⟨⟨qs, qc, ⟨q1, q2, q3, q4⟩⟩, hq⟩ : ∃ b, bs[n] = b := ⟨_, rfl⟩
      rw [hq] at ctn
      have ce := ca xa (Ss.typesOf ts qs) (by omega)
      have he : Ss.edgeOk ⟨⟨fi, fo⟩, ts, bs⟩ ds near i code.length ⟨n, xa⟩ = Ss.asks ts ds near i code.length xa (Ss.typesOf ts qs) := by
        simp only [Ss.edgeOk, h0, decide_false, Bool.not_false, Bool.true_and]
        simp [hn, hq]
      rw [he] at hst
      simp only at ctn
      generalize Ss.asks ts ds near i code.length xa (Ss.typesOf ts qs) = C at *
      generalize Ss.typesOf ts qs = tq at *
      have h0' : ¬ n = 0 := by omega
      repeat (first|refine QG ?_|refine QX (r:=by conv=>lhs;simp[-List.map_set,QV,hkt,hx,h0,h0',hn,hq]) (k:=?_))
      repeat refine QS ?_
      refine QD (r:=by conv=>lhs;simp[-List.map_set,QV,hkt,hx,h0,h0',hn,hq]) (k:=?_)
      refine vcall_useH (ctn) (by rfl) ?_
      refine QM (by conv=>lhs;simp[-List.map_set,QV,hkt,hx,h0,h0',hn,hq]) ?_
      refine vcall_useH (ce) (by rfl) ?_
      by_cases h9 : C = true
      · refine QM (by conv=>lhs;simp[-List.map_set,QV,h9]) ?_
        refine QN ?_
        repeat (first|refine QG ?_|refine QX (r:=by conv=>lhs;simp[-List.map_set,QV]) (k:=?_))
        refine QA [0, 1] (h:=⟨?_, k + 1, hkt, rfl, by rw [← hd, hst, h9, Bool.true_and], by simp [hw], rfl⟩)
        omega
      · have h9' : C = false := by simpa using h9
        refine QM (by conv=>lhs;simp[-List.map_set,QV,h9']) ?_
        refine QN ?_
        repeat (first|refine QG ?_|refine QX (r:=by conv=>lhs;simp[-List.map_set,QV]) (k:=?_))
        exact done_pure hwf (by rw [← hd, hst, h9']; rfl) rfl
    · rw [Ss.drop_all_end _ hkt] at hd
      rw [← hd]
      repeat (first|refine QG ?_|refine QX (r:=by conv=>lhs;simp[-List.map_set,QV,hkt]) (k:=?_))
      exact done_pure hwf rfl rfl
end Go.Vw

namespace Ss
/-- May an end be, by the document? -/
def rtermOk (f : Fn) (ds : List Def) (near : List Int) (i pos : Int) (t : Term) : Bool :=
  if t.kind = 2 then asks f.types ds near i pos [t.arg] [127] && (decide (t.args.length = 0) && decide (t.to.length = 2))
  else if t.kind = 3 then asks f.types ds near i pos [t.arg] [127] && (decide (t.args.length = 0) && (decide (1 ≤ t.to.length) && decide (t.to.length ≤ 65)))
  else decide (t.arg = 0) && (if t.kind = 4 then decide (t.to.length = 0) && asks f.types ds near i pos t.args f.sig.out
    else decide (t.args.length = 0) && (if t.kind = 1 then decide (t.to.length = 1) else decide (t.kind = 5) && decide (t.to.length = 0)))
def redgeOk (f : Fn) (ds : List Def) (near : List Int) (i pos : Int) (x : Edge) : Bool :=
  decide (1 ≤ x.to) && asks f.types ds near i pos x.args (typesOf f.types (f.blocks.getD x.to.toNat default).params)
end Ss
namespace Go.Vw
open Go.Proofs Go.RowKit
set_option maxRecDepth 10000
set_option maxHeartbeats 8000000

theorem rterm_v (e : Ss.Env) (f : Ss.Fn) (ds : List Ss.Def) (near : List Int) (i : Nat) (b : Ss.Block) (hds : ds.length = f.types.length) (htl : f.types.length < 2^63) (hnl : near.length < 2^63) (hnn : ∀ x ∈ ds, x.made = true → 0 ≤ x.block) (hi : f.blocks[i]? = some b) (hb : b.Fits) :
    VPure Tryz.prog 32 [ckR e f ds near, vnat i] (.bool (Ss.rtermOk f ds near i b.code.length b.term)) := by
  intro S
  obtain ⟨_, ⟨hcl, _⟩, _, _, ⟨htol, htf⟩, ⟨haz, _⟩⟩ := hb
  have ca : ∀ l m : List Int, l.length < 2^63 → VPure Tryz.prog 60 [ckR e f ds near, vl vint l, vl vint m, vnat i, vnat b.code.length] (.bool (Ss.asks f.types ds near i b.code.length l m)) := fun l m hl => rthere_v e f ds near i b.code.length l m hds htl hnl hl hnn
  obtain ⟨ps, code, ⟨tk, ta, to, az⟩⟩ := b
  simp only at hcl htol htf haz ca
  obtain ⟨⟨fi, fo⟩, ts, bs⟩ := f
  simp only at *
  have c1 := ca [ta] [127] (by simp)
  have c2 := ca az fo (by omega)
  obtain ⟨hi1, hi2⟩ := List.getElem?_eq_some_iff.1 hi
  have hX : Ss.rtermOk ⟨⟨fi, fo⟩, ts, bs⟩ ds near i code.length ⟨tk, ta, to, az⟩ = if tk = 2 then Ss.asks ts ds near i code.length [ta] [127] && (decide (az.length = 0) && decide (to.length = 2))
    else if tk = 3 then Ss.asks ts ds near i code.length [ta] [127] && (decide (az.length = 0) && (decide (1 ≤ to.length) && decide (to.length ≤ 65)))
    else decide (ta = 0) && (if tk = 4 then decide (to.length = 0) && Ss.asks ts ds near i code.length az fo
      else decide (az.length = 0) && (if tk = 1 then decide (to.length = 1) else decide (tk = 5) && decide (to.length = 0))) := rfl
  rw [hX]
  clear hX
  generalize Ss.asks ts ds near i code.length [ta] [127] = A at *
  generalize Ss.asks ts ds near i code.length az fo = B at *
  refine vcalls_start (c := bodyOf Tryz.f32) Tryz.func32 rfl rfl (by simp [Tryz.ntmps32]) ?_
  rw [Tryz.ntmps32]
  intro hwf
  repeat (first|refine QG ?_|refine QX (r:=by conv=>lhs;simp[-List.map_set,QV,hi1,hi2]) (k:=?_))
  repeat refine QS ?_
  refine vw_drawW (St S [] [some (6, [vl vint ps, vl encIns code, .int .i64 tk, .int .i64 ta, vl encEdge to, vl vint az])]) (St S [] [some (6, [vl vint ps, vl encIns code, .int .i64 tk, .int .i64 ta, vl encEdge to, vl vint az])]) [] rfl (by kernel_rfl) (by conv => lhs; reduce) (by conv => lhs; reduce) (by kernel_rfl) (by kernel_rfl) (ok_St (by simp [subU, shpU, subL, shpL])) (by conv => lhs; simp [-List.map_set,QV]) ?_
  refine vseg_write rfl (by conv=>lhs;simp[-List.map_set,QV]) (ok_St (by simp [subU, shpU, subL, shpL])) ?_
  refine QM (by conv=>lhs;simp[-List.map_set,QV]) ?_
  refine vseg_write rfl (by conv=>lhs;simp[-List.map_set,QV]) (ok_St (by simp [subU, shpU, subL, shpL])) ?_
  refine QM (by conv=>lhs;simp[-List.map_set,QV]) ?_
  refine QN ?_
  by_cases k2 : tk = 2
  · rw [if_pos k2]
    repeat (first|refine QG ?_|refine QX (r:=by conv=>lhs;simp[-List.map_set,QV,k2]) (k:=?_))
    repeat refine QS ?_
    refine QR (r:=by conv=>lhs;simp[-List.map_set,QV]) (k:=?_)
    refine vcall_useG (xs' := [ckR e ⟨⟨fi, fo⟩, ts, bs⟩ ds near, vl vint [ta], vl vint [127], vnat i, vnat code.length]) rfl (GhostArgs.trans (GhostArgs.one [_] [_, _, _] (frz1 (k := 2) (len := 1) (by simp) (by rfl) (by rfl) (by rfl))) (GhostArgs.one [_, _] [_, _] (frz1 (k := 3) (len := 1) (by simp) (by rfl) (by rfl) (by rfl)))) c1 ?_
    simp only [List.set_cons_succ, List.set_cons_zero]
    by_cases h2 : A = true
    case neg =>
      have h2' : A = false := by simpa using h2
      refine QM (by conv=>lhs;simp[-List.map_set,QV,h2']) ?_
      refine QN ?_
      repeat (first|refine QG ?_|refine QX (r:=by conv=>lhs;simp[-List.map_set,QV]) (k:=?_))
      exact done_pure hwf (by simp [h2']) rfl
    by_cases h3 : az.length = 0
    case neg =>
      have h3' : (0 : Int) < (az.length : Int) := by omega
      have h3n : 0 < az.length := by omega
      refine QM (by conv=>lhs;simp[-List.map_set,QV,h2,k2,h3,h3',h3n]) ?_
      refine QN ?_
      repeat (first|refine QG ?_|refine QX (r:=by conv=>lhs;simp[-List.map_set,QV]) (k:=?_))
      exact done_pure hwf (by simp [h3]) rfl
    have h3' : az = [] := List.eq_nil_of_length_eq_zero h3
    subst h3'
    refine QM (by conv=>lhs;simp[-List.map_set,QV,h2,k2]) ?_
    refine QN ?_
    repeat (first|refine QG ?_|refine QX (r:=by conv=>lhs;simp[-List.map_set,QV,k2]) (k:=?_))
    exact done_pure hwf (by simp [h2]; try omega) rfl
  rw [if_neg k2]
  by_cases k3 : tk = 3
  · rw [if_pos k3]
    repeat (first|refine QG ?_|refine QX (r:=by conv=>lhs;simp[-List.map_set,QV,k2,k3]) (k:=?_))
    repeat refine QS ?_
    refine QR (r:=by conv=>lhs;simp[-List.map_set,QV]) (k:=?_)
    refine vcall_useG (xs' := [ckR e ⟨⟨fi, fo⟩, ts, bs⟩ ds near, vl vint [ta], vl vint [127], vnat i, vnat code.length]) rfl (GhostArgs.trans (GhostArgs.one [_] [_, _, _] (frz1 (k := 2) (len := 1) (by simp) (by rfl) (by rfl) (by rfl))) (GhostArgs.one [_, _] [_, _] (frz1 (k := 3) (len := 1) (by simp) (by rfl) (by rfl) (by rfl)))) c1 ?_
    simp only [List.set_cons_succ, List.set_cons_zero]
    by_cases h2 : A = true
    case neg =>
      have h2' : A = false := by simpa using h2
      refine QM (by conv=>lhs;simp[-List.map_set,QV,h2']) ?_
      refine QN ?_
      repeat (first|refine QG ?_|refine QX (r:=by conv=>lhs;simp[-List.map_set,QV]) (k:=?_))
      exact done_pure hwf (by simp [h2']) rfl
    by_cases h3 : az.length = 0
    case neg =>
      have h3' : (0 : Int) < (az.length : Int) := by omega
      have h3n : 0 < az.length := by omega
      refine QM (by conv=>lhs;simp[-List.map_set,QV,h2,k2,k3,h3,h3',h3n]) ?_
      refine QN ?_
      repeat (first|refine QG ?_|refine QX (r:=by conv=>lhs;simp[-List.map_set,QV]) (k:=?_))
      exact done_pure hwf (by simp [h3]) rfl
    have h3' : az = [] := List.eq_nil_of_length_eq_zero h3
    subst h3'
    have k4 : ¬ tk = 4 := by omega
    refine QM (by conv=>lhs;simp[-List.map_set,QV,h2,k2,k3,k4]) ?_
    refine QN ?_
    by_cases h5 : (1 : Int) ≤ (to.length : Int)
    case neg =>
      repeat (first|refine QG ?_|refine QX (r:=by conv=>lhs;simp[-List.map_set,QV,k2,k3,h5]) (k:=?_))
      exact done_pure hwf (by simp; omega) rfl
    have h6 : decide (1 ≤ to.length) = true := decide_eq_true (by omega)
    repeat (first|refine QG ?_|refine QX (r:=by conv=>lhs;simp[-List.map_set,QV,k2,k3,h5]) (k:=?_))
    exact done_pure hwf (by rw [h6]; simp [h2]; try omega) rfl
  rw [if_neg k3]
  by_cases h1 : ta = 0
  case neg =>
    repeat (first|refine QG ?_|refine QX (r:=by conv=>lhs;simp[-List.map_set,QV,k2,k3,h1]) (k:=?_))
    exact done_pure hwf (by simp [h1]) rfl
  by_cases k4 : tk = 4
  · rw [if_pos k4]
    by_cases h5 : to.length = 0
    case neg =>
      have h5' : ¬ (to.length : Int) = 0 := by omega
      have k1 : ¬ tk = 1 := by omega
      repeat (first|refine QG ?_|refine QX (r:=by conv=>lhs;simp[-List.map_set,QV,k2,k3,h1,k4,k1,h5,h5']) (k:=?_))
      exact done_pure hwf (by simp [h5]) rfl
    have h5' : (to.length : Int) = 0 := by omega
    have k1 : ¬ tk = 1 := by omega
    obtain rfl : to = [] := List.eq_nil_of_length_eq_zero h5
    repeat (first|refine QG ?_|refine QX (r:=by conv=>lhs;simp[-List.map_set,QV,k2,k3,h1,k4,k1]) (k:=?_))
    repeat refine QS ?_
    refine QD (r:=by conv=>lhs;simp[-List.map_set,QV]) (k:=?_)
    refine vcall_useH (c2) (by rfl) ?_
    refine QM (by conv=>lhs;simp[-List.map_set,QV]) ?_
    refine QN ?_
    repeat (first|refine QG ?_|refine QX (r:=by conv=>lhs;simp[-List.map_set,QV]) (k:=?_))
    exact done_pure hwf (by simp [h1]) rfl
  rw [if_neg k4]
  by_cases h3 : az.length = 0
  case neg =>
    have h3' : (0 : Int) < (az.length : Int) := by omega
    have h3n : 0 < az.length := by omega
    repeat (first|refine QG ?_|refine QX (r:=by conv=>lhs;simp[-List.map_set,QV,k2,k3,h1,k4,h3,h3',h3n]) (k:=?_))
    exact done_pure hwf (by simp [h3]) rfl
  have h3' : az = [] := List.eq_nil_of_length_eq_zero h3
  subst h3'
  by_cases k1 : tk = 1
  · repeat (first|refine QG ?_|refine QX (r:=by conv=>lhs;simp[-List.map_set,QV,k2,k3,h1,k4,k1]) (k:=?_))
    exact done_pure hwf (by simp [h1, k1]; try omega) rfl
  by_cases k5 : tk = 5
  · repeat (first|refine QG ?_|refine QX (r:=by conv=>lhs;simp[-List.map_set,QV,k2,k3,h1,k4,k1,k5]) (k:=?_))
    exact done_pure hwf (by simp [h1, k1, k5]; try omega) rfl
  · repeat (first|refine QG ?_|refine QX (r:=by conv=>lhs;simp[-List.map_set,QV,k2,k3,h1,k4,k1,k5]) (k:=?_))
    exact done_pure hwf (by simp [h1, k1, k5]; try omega) rfl

theorem redges_v (e : Ss.Env) (f : Ss.Fn) (ds : List Ss.Def) (near : List Int) (i : Nat) (b : Ss.Block) (hds : ds.length = f.types.length) (htl : f.types.length < 2^63) (hnl : near.length < 2^63) (hnn : ∀ x ∈ ds, x.made = true → 0 ≤ x.block) (hi : f.blocks[i]? = some b) (hb : b.Fits)
    (hbl : f.blocks.length < 2^63) (hto : ∀ x ∈ b.term.to, 0 ≤ x.to ∧ x.to < f.blocks.length) (hps : ∀ b ∈ f.blocks, b.params.length ≤ 1048576 ∧ Ss.InTs f.types.length b.params) :
    VPure Tryz.prog 33 [ckR e f ds near, vnat i] (.bool (b.term.to.all (Ss.redgeOk f ds near i b.code.length))) := by
  intro S
  obtain ⟨_, ⟨hcl, _⟩, _, _, ⟨htol, htf⟩, ⟨haz, _⟩⟩ := hb
  have ca : ∀ l m : List Int, l.length < 2^63 → VPure Tryz.prog 60 [ckR e f ds near, vl vint l, vl vint m, vnat i, vnat b.code.length] (.bool (Ss.asks f.types ds near i b.code.length l m)) := fun l m hl => rthere_v e f ds near i b.code.length l m hds htl hnl hl hnn
  have ct : ∀ b ∈ f.blocks, VPure Tryz.prog 29 [ckR e f ds near, vl vint b.params] (vl vint (Ss.typesOf f.types b.params)) := fun b hb => rtypes_v e f ds near b.params (hps b hb).1 (hps b hb).2
  obtain ⟨ps, code, ⟨tk, ta, to, az⟩⟩ := b
  simp only at hcl htol htf haz hto ca
  obtain ⟨hi1, hi2⟩ := List.getElem?_eq_some_iff.1 hi
  have htl63 : to.length < 2^63 := by omega
  have hE : ∀ x : Ss.Edge, Ss.redgeOk f ds near i code.length x = (decide (1 ≤ x.to) && Ss.asks f.types ds near i code.length x.args (Ss.typesOf f.types (f.blocks.getD x.to.toNat default).params)) := fun x => rfl
  obtain ⟨⟨fi, fo⟩, ts, bs⟩ := f
  simp only at *
  generalize hP : Ss.redgeOk ⟨⟨fi, fo⟩, ts, bs⟩ ds near i code.length = P at *
  refine vcalls_start (c := bodyOf Tryz.f33) Tryz.func33 rfl rfl (by simp [Tryz.ntmps33]) ?_
  rw [Tryz.ntmps33]
  intro hwf
  repeat (first|refine QG ?_|refine QX (r:=by conv=>lhs;simp[-List.map_set,QV,hi1,hi2]) (k:=?_))
  repeat refine QS ?_
  refine vw_loopAt [0, 1, 5, 6] rfl (fun c σ S' => ∃ (k : Nat), k ≤ to.length ∧ c = to.length - k ∧ (to.drop k).all P = to.all P ∧ σ = [(0, ckR e ⟨⟨fi, fo⟩, ts, bs⟩ ds near), (1, vnat i), (5, .ptr (lid S.nx 0) 0), (6, vnat k)] ∧ S' = St S [] [some (6, [vl vint ps, vl encIns code, vint tk, vint ta, vl encEdge to, vl vint az])]) to.length ?_ ?_
  · exact ⟨0, by omega, rfl, rfl, by simp [Fr.only], rfl⟩
  · rintro c σ T ⟨k, hk, rfl, hd, rfl, rfl⟩
    by_cases hkt : k < to.length
    case neg =>
      repeat (first|refine QG ?_|refine QX (r:=by conv=>lhs;simp[-List.map_set,QV,hkt]) (k:=?_))
      rw [← hd, Ss.drop_all_end _ hkt]
      exact done_pure hwf rfl rfl
    have hw := wrapNat hkt htl63
    have hst := Ss.drop_all P hkt
    obtain ⟨h0, h1⟩ := hto _ (List.getElem_mem hkt)
    have hxa := (htf _ (List.getElem_mem hkt)).2.1
    obtain ⟨⟨xt, xa⟩, hx⟩ : ∃ x, to[k] = x := ⟨_, rfl⟩
    rw [hx] at hst h0 h1 hxa
    simp only at h0 h1 hxa
    obtain ⟨n, rfl⟩ : ∃ n : Nat, xt = n := ⟨xt.toNat, by omega⟩
    have hn : n < bs.length := by omega
    obtain ⟨⟨qs, qc, ⟨qk, qa, qt, qz⟩⟩, hq⟩ : ∃ b, bs[n] = b := ⟨_, rfl⟩
    have hqg : bs.getD (n : Int).toNat default = ⟨qs, qc, ⟨qk, qa, qt, qz⟩⟩ := by simp [hn, hq]
    have hE' := hE ⟨(n : Int), xa⟩
    rw [hqg] at hE'
    simp only at hE'
    rw [hE'] at hst
    by_cases h2 : (n : Int) < 1
    · have h2' : ¬ (1 : Int) ≤ (n : Int) := by omega
      rw [decide_eq_false h2', Bool.false_and, Bool.false_and, hd] at hst
      repeat (first|refine QG ?_|refine QX (r:=by conv=>lhs;simp[-List.map_set,QV,hkt,hx,h2]) (k:=?_))
      rw [hst]
      exact done_pure hwf rfl rfl
    have h2' : (1 : Int) ≤ (n : Int) := by omega
    rw [decide_eq_true h2', Bool.true_and] at hst
    have c1 := ct _ (List.getElem_mem hn)
    rw [hq] at c1
    simp only at c1
    generalize Ss.typesOf ts qs = tq at *
    have c2 := ca xa tq (by omega)
    generalize Ss.asks ts ds near i code.length xa tq = B at *
    repeat (first|refine QG ?_|refine QX (r:=by conv=>lhs;simp[-List.map_set,QV,hkt,hx,h2,hn,hq]) (k:=?_))
    repeat refine QS ?_
    refine QD (r:=by conv=>lhs;simp[-List.map_set,QV,h2,hn,hq]) (k:=?_)
    refine vcall_useH (c1) (by rfl) ?_
    refine QM (by conv=>lhs;simp[-List.map_set,QV]) ?_
    refine vcall_useH (c2) (by rfl) ?_
    by_cases h3 : B = true
    · rw [h3, Bool.true_and, hd] at hst
      refine QM (by conv=>lhs;simp[-List.map_set,QV,h3]) ?_
      refine QN ?_
      repeat (first|refine QG ?_|refine QX (r:=by conv=>lhs;simp[-List.map_set,QV]) (k:=?_))
      refine QA [0] (h:=⟨?_, k + 1, hkt, rfl, hst.symm, by simp [hw], by simp⟩)
      omega
    · have h3' : B = false := by simpa using h3
      rw [h3', Bool.false_and, hd] at hst
      refine QM (by conv=>lhs;simp[-List.map_set,QV,h3']) ?_
      refine QN ?_
      repeat (first|refine QG ?_|refine QX (r:=by conv=>lhs;simp[-List.map_set,QV]) (k:=?_))
      rw [hst]
      exact done_pure hwf rfl rfl
end Go.Vw
