import Derived.Test.YtmfpoangempgaaaGreatC21
import Derived.Test.YtmfpoangempgaaaGreatC13
import Derived.Test.YtmfpoangempgaaaGreatC14
/-
  Part of the proof (texts SSmall, SSucc, CSucc, SRingP, CTick).
-/
set_option linter.unusedVariables false
set_option linter.unusedSimpArgs false
namespace Go.Vw
open Go.Proofs Go.RowKit
set_option maxRecDepth 10000
set_option maxHeartbeats 8000000

theorem short1_v (l : List Int) : VPure Tryz.prog 67 ([vl vint l] ++ []) (.bool (decide (4096 < l.length))) := by
  intro S
  refine vcalls_start (c := bodyOf Tryz.f67) Tryz.func67 rfl rfl (by simp [Tryz.ntmps67]) ?_
  rw [Tryz.ntmps67]
  intro hwf
  repeat (first|refine QG ?_|refine QX (r:=by conv=>lhs;simp[-List.map_set,QV]) (k:=?_))
  exact done_pure hwf (by simp; omega) rfl

theorem short_v (ls : List (List Int)) (hl : ls.length < 2^63) : VPure Tryz.prog 45 [vl (vl vint) ls] (.bool (Ss.shortL ls)) := by
  intro S
  have e : (!ls.any fun l => decide (4096 < l.length)) = Ss.shortL ls := by
    rw [Ss.shortL, List.not_any_eq_all_not]
    congr 1; funext l; by_cases h : l.length ≤ 4096 <;> simp [h] <;> omega
  rw [← e]
  refine vcalls_start (c := bodyOf Tryz.f45) Tryz.func45 rfl rfl (by simp [Tryz.ntmps45]) ?_
  rw [Tryz.ntmps45]
  intro hwf
  repeat (first|refine QG ?_|refine QX (r:=by conv=>lhs;simp[-List.map_set,QV]) (k:=?_))
  repeat refine QS ?_
  refine QR (r:=by conv=>lhs;simp[-List.map_set,QV]) (k:=?_)
  refine vcall_use rfl (AnyL_v ls (fun l => decide (4096 < l.length)) _ [] rfl hl (fun l _ => short1_v l)) ?_
  refine QM (by conv=>lhs;simp[-List.map_set,QV]) ?_
  refine QN ?_
  repeat (first|refine QG ?_|refine QX (r:=by conv=>lhs;simp[-List.map_set,QV]) (k:=?_))
  exact done_pure hwf rfl rfl

theorem shortL_1 (a : List Int) : Ss.shortL [a] = decide (a.length ≤ 4096) := by simp [Ss.shortL]
theorem shortL_2 (a b : List Int) : Ss.shortL [a, b] = (decide (a.length ≤ 4096) && decide (b.length ≤ 4096)) := by simp [Ss.shortL]
theorem shortL_3 (a b c : List Int) : Ss.shortL [a, b, c] = (decide (a.length ≤ 4096) && decide (b.length ≤ 4096) && decide (c.length ≤ 4096)) := by simp [Ss.shortL, Bool.and_assoc]

theorem small_v (f : Ss.Fn) (hf : f.Fits) : VPure Tryz.prog 15 [encFn f] (.bool f.small) := by
  intro S
  obtain ⟨⟨fi, fo⟩, ts, bs⟩ := f
  obtain ⟨_, _, hbl0, hbf⟩ := hf
  simp only at hbl0 hbf
  have hbl : bs.length < 2^63 := by omega
  refine vcalls_start (c := bodyOf Tryz.f15) Tryz.func15 rfl rfl (by simp [Tryz.ntmps15]) ?_
  rw [Tryz.ntmps15]
  intro hwf
  repeat (first|refine QG ?_|refine QX (r:=by conv=>lhs;simp[-List.map_set,QV]) (k:=?_))
  repeat refine QS ?_
  refine QR (r:=by conv=>lhs;simp[-List.map_set,QV]) (k:=?_)
  refine vcall_useG (xs' := [vl (vl vint) [ts, fi, fo]]) rfl (GhostArgs.one [] [] (frz1 (k := 1) (len := 3) (by simp) rfl rfl rfl)) (short_v _ (by simp)) ?_
  simp only [List.set_cons_succ, List.set_cons_zero]
  cases h1 : Ss.shortL [ts, fi, fo] with
  | false =>
    refine QM (by conv=>lhs;simp[-List.map_set,QV,h1]) ?_
    refine QN ?_
    repeat (first|refine QG ?_|refine QX (r:=by conv=>lhs;simp[-List.map_set,QV]) (k:=?_))
    refine done_pure hwf ?_ rfl
    rw [shortL_3] at h1
    simp [Ss.Fn.small, Ss.Fn.heads] at h1 ⊢
    omega
  | true =>
  by_cases h2 : (4096 : Int) < (bs.length : Int)
  · refine QM (by conv=>lhs;simp[-List.map_set,QV,h1,h2]) ?_
    refine QN ?_
    repeat (first|refine QG ?_|refine QX (r:=by conv=>lhs;simp[-List.map_set,QV]) (k:=?_))
    exact done_pure hwf (by simp [Ss.Fn.small, Ss.Fn.heads]; omega) rfl
  have hh : Ss.Fn.small ⟨⟨fi, fo⟩, ts, bs⟩ = Ss.smallFrom 0 bs := by
    have : Ss.Fn.heads ⟨⟨fi, fo⟩, ts, bs⟩ = true := by rw [shortL_3] at h1; simp [Ss.Fn.heads] at h1 ⊢; omega
    simp [Ss.Fn.small, this]
  rw [hh]
  refine QM (by conv=>lhs;simp[-List.map_set,QV,h1,h2]) ?_
  refine QN ?_
  repeat (first|refine QG ?_|refine QX (r:=by conv=>lhs;simp[-List.map_set,QV]) (k:=?_))
  refine vw_only' [3, 28, 29, 30] (by conv => lhs; simp [Fr.only, Fr.look]) ?_
  refine vw_gc [0] hwf (by decide) (by simp [-List.map_set]) (by conv => lhs; simp [-List.map_set]) (by conv => lhs; simp [-List.map_set]) (by conv => lhs; simp [-List.map_set]) ?_
  repeat refine QS ?_
  refine vw_loopAt [3, 28, 29, 30] rfl (fun c σ S' => ∃ (k n : Nat), k ≤ bs.length ∧ n ≤ 4096 ∧ c = bs.length - k ∧ Ss.smallFrom n (bs.drop k) = Ss.smallFrom 0 bs ∧ σ = [(3, vint (4096 - (n : Int))), (28, vl encBlock bs), (29, vnat bs.length), (30, vnat k)] ∧ S' = St S [] [some (4, [vl vint fi, vl vint fo, vl vint ts, vl encBlock bs])]) bs.length ?_ ?_
  · exact ⟨0, 0, by omega, by omega, rfl, rfl, by simp [Fr.only], rfl⟩
  · rintro c σ T ⟨k, n, hk, hn, rfl, hd, rfl, rfl⟩
    by_cases hkt : k < bs.length
    · have hw := wrapNat hkt hbl
      have hbk := hbf _ (List.getElem_mem hkt)
      have hst := Ss.drop_small (n := n) hkt
      obtain ⟨⟨ps, code, ⟨tk, ta, to, az⟩⟩, hb⟩ : ∃ b, bs[k] = b := ⟨_, rfl⟩
      rw [hb] at hst hbk
      obtain ⟨_, ⟨hcl0, _⟩, _, _, ⟨htl0, _⟩, _⟩ := hbk
      simp only at hcl0 htl0
      have hcl : code.length < 2^63 := by omega
      have htl : to.length < 2^63 := by omega
      have hwn : IntKind.i64.wrap (4096 - (n : Int) - (code.length : Int)) = 4096 - (n : Int) - (code.length : Int) := wrap_i64 (by omega) (by omega)
      have hS : Ss.Block.small ⟨ps, code, ⟨tk, ta, to, az⟩⟩ = (decide (ps.length ≤ 4096) && decide (to.length ≤ 4096) && decide (az.length ≤ 4096) && code.all Ss.Ins.small && to.all Ss.Edge.small) := rfl
      by_cases g1 : 4096 - (n : Int) - (code.length : Int) < 0
      · have e : Ss.smallFrom n (bs.drop k) = false := by rw [hst]; simp; omega
        rw [← hd, e]
        repeat (first|refine QG ?_|refine QX (r:=by conv=>lhs;simp[-List.map_set,QV,hkt,hb,hwn,g1]) (k:=?_))
        exact done_pure hwf rfl rfl
      repeat (first|refine QG ?_|refine QX (r:=by conv=>lhs;simp[-List.map_set,QV,hkt,hb,hwn,g1]) (k:=?_))
      repeat refine QS ?_
      refine QR (r:=by conv=>lhs;simp[-List.map_set,QV,hkt,hb,hwn,g1]) (k:=?_)
      refine vcall_useG (xs' := [vl (vl vint) [ps, az]]) rfl (GhostArgs.one [] [] (frz1 (k := 2) (len := 2) (by simp) rfl rfl rfl)) (short_v _ (by simp)) ?_
      simp only [List.set_cons_succ, List.set_cons_zero]
      cases g2 : Ss.shortL [ps, az] with
      | false =>
        have e : Ss.smallFrom n (bs.drop k) = false := by rw [shortL_2] at g2; rw [hst, hS]; simp at g2 ⊢; omega
        rw [← hd, e]
        refine QM (by conv=>lhs;simp[-List.map_set,QV,g2]) ?_
        refine QN ?_
        repeat (first|refine QG ?_|refine QX (r:=by conv=>lhs;simp[-List.map_set,QV]) (k:=?_))
        exact done_pure hwf rfl rfl
      | true =>
      by_cases g3 : (4096 : Int) < (to.length : Int)
      · have e : Ss.smallFrom n (bs.drop k) = false := by rw [hst, hS]; simp; omega
        rw [← hd, e]
        refine QM (by conv=>lhs;simp[-List.map_set,QV,g2,g3]) ?_
        refine QN ?_
        repeat (first|refine QG ?_|refine QX (r:=by conv=>lhs;simp[-List.map_set,QV]) (k:=?_))
        exact done_pure hwf rfl rfl
      rw [shortL_2] at g2
      have g2' : ps.length ≤ 4096 ∧ az.length ≤ 4096 := by simpa using g2
      rw [show decide (n + code.length ≤ 4096) = true by simp; omega, hS, show decide (ps.length ≤ 4096) = true by simp; omega, show decide (to.length ≤ 4096) = true by simp; omega, show decide (az.length ≤ 4096) = true by simp; omega, Bool.true_and, Bool.true_and, Bool.true_and, Bool.true_and] at hst
      rw [← shortL_2] at g2
      refine QM (by conv=>lhs;simp[-List.map_set,QV,g2,g3]) ?_
      refine QN ?_
      repeat (first|refine QG ?_|refine QX (r:=by conv=>lhs;simp[-List.map_set,QV]) (k:=?_))
      refine vw_only' [3, 5, 28, 29, 30, 59, 60, 61] (by conv => lhs; simp [Fr.only, Fr.look]) ?_
      refine vw_gc [0, 1] hwf (by decide) (by simp [-List.map_set]) (by conv => lhs; simp [-List.map_set]) (by conv => lhs; simp [-List.map_set]) (by conv => lhs; simp [-List.map_set]) ?_
      repeat refine QS ?_
      refine vw_loopAt [3, 5, 28, 29, 30, 59, 60, 61] rfl (fun c σ S' => ∃ (j : Nat), j ≤ code.length ∧ c = code.length - j ∧ (code.drop j).all Ss.Ins.small = code.all Ss.Ins.small ∧ σ = [(3, vint (4096 - (n : Int) - (code.length : Int))), (5, .ptr (lid S.nx 1) 0), (28, vl encBlock bs), (29, vnat bs.length), (30, vnat k), (59, vl encIns code), (60, vnat code.length), (61, vnat j)] ∧ S' = St S [] [some (4, [vl vint fi, vl vint fo, vl vint ts, vl encBlock bs]), some (6, [vl vint ps, vl encIns code, .int .i64 tk, .int .i64 ta, vl encEdge to, vl vint az])]) code.length ?_ ?_
      · exact ⟨0, by omega, rfl, rfl, by simp [Fr.only], rfl⟩
      · rintro c σ T ⟨j, hj, rfl, hdj, rfl, rfl⟩
        by_cases hjt : j < code.length
        · have hwj := wrapNat hjt hcl
          have hstj := Ss.drop_all Ss.Ins.small hjt
          obtain ⟨⟨io, iN, ia, iu⟩, hx⟩ : ∃ b, code[j] = b := ⟨_, rfl⟩
          rw [hx] at hstj
          have hX : Ss.Ins.small ⟨io, iN, ia, iu⟩ = Ss.shortL [ia, iu] := (shortL_2 _ _).symm
          rw [hX] at hstj
          repeat (first|refine QG ?_|refine QX (r:=by conv=>lhs;simp[-List.map_set,QV,hjt,hx]) (k:=?_))
          repeat refine QS ?_
          refine QR (r:=by conv=>lhs;simp[-List.map_set,QV,hjt,hx]) (k:=?_)
          refine vcall_useG (xs' := [vl (vl vint) [ia, iu]]) rfl (GhostArgs.one [] [] (frz1 (k := 3) (len := 2) (by simp) rfl rfl rfl)) (short_v _ (by simp)) ?_
          simp only [List.set_cons_succ, List.set_cons_zero]
          cases q1 : Ss.shortL [ia, iu] with
          | false =>
            rw [q1, Bool.false_and] at hstj
            have e : code.all Ss.Ins.small = false := by rw [← hdj, hstj]
            rw [← hd, hst, e]
            refine QM (by conv=>lhs;simp[-List.map_set,QV,q1]) ?_
            refine QN ?_
            repeat (first|refine QG ?_|refine QX (r:=by conv=>lhs;simp[-List.map_set,QV]) (k:=?_))
            exact done_pure hwf rfl rfl
          | true =>
            rw [q1, Bool.true_and] at hstj
            refine QM (by conv=>lhs;simp[-List.map_set,QV,q1]) ?_
            refine QN ?_
            repeat (first|refine QG ?_|refine QX (r:=by conv=>lhs;simp[-List.map_set,QV]) (k:=?_))
            refine QA [0, 1] (h:=⟨?_, j + 1, hjt, rfl, by rw [← hdj, hstj], by simp [hwj], rfl⟩)
            omega
        · rw [Ss.drop_all_end _ hjt] at hdj
          rw [← hdj, Bool.true_and] at hst
          repeat (first|refine QG ?_|refine QX (r:=by conv=>lhs;simp[-List.map_set,QV,hjt]) (k:=?_))
          repeat refine QS ?_
          refine vw_loopAt [3, 28, 29, 30, 75, 76, 77] rfl (fun c σ S' => ∃ (j : Nat), j ≤ to.length ∧ c = to.length - j ∧ (to.drop j).all Ss.Edge.small = to.all Ss.Edge.small ∧ σ = [(3, vint (4096 - (n : Int) - (code.length : Int))), (28, vl encBlock bs), (29, vnat bs.length), (30, vnat k), (75, vl encEdge to), (76, vnat to.length), (77, vnat j)] ∧ S' = St S [] [some (4, [vl vint fi, vl vint fo, vl vint ts, vl encBlock bs]), some (6, [vl vint ps, vl encIns code, .int .i64 tk, .int .i64 ta, vl encEdge to, vl vint az])]) to.length ?_ ?_
          · exact ⟨0, by omega, rfl, rfl, by simp [Fr.only], rfl⟩
          · rintro c σ T ⟨j, hj, rfl, hdj, rfl, rfl⟩
            by_cases hjt : j < to.length
            · have hwj := wrapNat hjt htl
              have hstj := Ss.drop_all Ss.Edge.small hjt
              obtain ⟨⟨io, ia⟩, hx⟩ : ∃ b, to[j] = b := ⟨_, rfl⟩
              rw [hx] at hstj
              have hX : Ss.Edge.small ⟨io, ia⟩ = Ss.shortL [ia] := (shortL_1 _).symm
              rw [hX] at hstj
              repeat (first|refine QG ?_|refine QX (r:=by conv=>lhs;simp[-List.map_set,QV,hjt,hx]) (k:=?_))
              repeat refine QS ?_
              refine QR (r:=by conv=>lhs;simp[-List.map_set,QV,hjt,hx]) (k:=?_)
              refine vcall_useG (xs' := [vl (vl vint) [ia]]) rfl (GhostArgs.one [] [] (frz1 (k := 3) (len := 1) (by simp) rfl rfl rfl)) (short_v _ (by simp)) ?_
              simp only [List.set_cons_succ, List.set_cons_zero]
              cases q1 : Ss.shortL [ia] with
              | false =>
                rw [q1, Bool.false_and] at hstj
                have e : to.all Ss.Edge.small = false := by rw [← hdj, hstj]
                rw [← hd, hst, e]
                refine QM (by conv=>lhs;simp[-List.map_set,QV,q1]) ?_
                refine QN ?_
                repeat (first|refine QG ?_|refine QX (r:=by conv=>lhs;simp[-List.map_set,QV]) (k:=?_))
                exact done_pure hwf rfl rfl
              | true =>
                rw [q1, Bool.true_and] at hstj
                refine QM (by conv=>lhs;simp[-List.map_set,QV,q1]) ?_
                refine QN ?_
                repeat (first|refine QG ?_|refine QX (r:=by conv=>lhs;simp[-List.map_set,QV]) (k:=?_))
                refine QA [0, 1] (h:=⟨?_, j + 1, hjt, rfl, by rw [← hdj, hstj], by simp [hwj], rfl⟩)
                omega
            · rw [Ss.drop_all_end _ hjt] at hdj
              rw [← hdj] at hst
              repeat (first|refine QG ?_|refine QX (r:=by conv=>lhs;simp[-List.map_set,QV,hjt,hw]) (k:=?_))
              refine QA [0] (h:=⟨?_, k + 1, n + code.length, hkt, by omega, rfl, by rw [← hd, hst, Bool.true_and], by simp; omega, rfl⟩)
              omega
    · rw [Ss.drop_small_end hkt] at hd
      rw [← hd]
      repeat (first|refine QG ?_|refine QX (r:=by conv=>lhs;simp[-List.map_set,QV,hkt]) (k:=?_))
      exact done_pure hwf rfl rfl
end Go.Vw

namespace Ss
def rowOf (b : Block) : List Int := b.term.to.map Edge.to
def succs (bs : List Block) : List (List Int) := bs.map rowOf
end Ss
namespace Go.Vw
open Go.Proofs Go.RowKit
set_option maxRecDepth 10000
set_option maxHeartbeats 4000000

theorem count_mem : ∀ {bs : List Ss.Block} {b : Ss.Block}, b ∈ bs → b.code.length ≤ Ss.count bs
  | x :: bs, b, h => by
    simp only [Ss.count, List.map_cons, List.sum_cons]
    rcases List.mem_cons.1 h with rfl | h
    · omega
    · have := count_mem h
      simp only [Ss.count] at this
      omega
theorem small_blocks {f : Ss.Fn} (h : f.small = true) : f.types.length ≤ 4096 ∧ f.blocks.length ≤ 4096 ∧ (∀ b ∈ f.blocks, b.params.length ≤ 4096 ∧ b.term.to.length ≤ 4096 ∧ b.term.args.length ≤ 4096 ∧ b.code.length ≤ 4096) ∧ Ss.count f.blocks ≤ 4096 := by
  obtain ⟨h1, h2, h3⟩ := (Ss.small_iff f).1 h
  simp only [Ss.Fn.heads, Bool.and_eq_true, decide_eq_true_eq] at h1
  refine ⟨h1.1.1.1, h1.1.1.2, fun b hb => ?_, h3⟩
  have := h2 b hb
  simp only [Ss.Block.small, Bool.and_eq_true, decide_eq_true_eq] at this
  refine ⟨this.1.1.1.1, this.1.1.1.2, this.1.1.2, ?_⟩
  exact Nat.le_trans (count_mem hb) h3

theorem Succ_v (f : Ss.Fn) (hf : f.Fits) : VPure Tryz.prog 38 [encFn f] (vl (vl vint) (if f.small then Ss.succs f.blocks else [])) := by
  intro S
  have cs := small_v f hf
  have hsb := @small_blocks f
  generalize f.small = sm at *
  obtain ⟨⟨fi, fo⟩, ts, bs⟩ := f
  have cs' : VPure Tryz.prog 15 [.agg [vl vint fi, vl vint fo, vl vint ts, vl encBlock bs]] (.bool sm) := cs
  by_cases hs : sm = true
  case neg =>
    rw [if_neg hs]
    have hs' : sm = false := by simpa using hs
    refine vcalls_start (c := bodyOf Tryz.f38) Tryz.func38 rfl rfl (by simp [Tryz.ntmps38]) ?_
    rw [Tryz.ntmps38]
    intro hwf
    repeat (first|refine QG ?_|refine QX (r:=by conv=>lhs;simp[-List.map_set,QV]) (k:=?_))
    repeat refine QS ?_
    refine QR (r:=by conv=>lhs;simp[-List.map_set,QV]) (k:=?_)
    refine vcall_useH (cs') (by rfl) ?_
    refine QM (by conv=>lhs;simp[-List.map_set,QV,hs']) ?_
    refine QN ?_
    repeat (first|refine QG ?_|refine QX (r:=by conv=>lhs;simp[-List.map_set,QV]) (k:=?_))
    exact done_via (l := [_]) hwf (Ghost.toB (Ghost.nils_list _) _) rfl
  rw [if_pos hs]
  obtain ⟨_, hbl, hbf, _⟩ := hsb hs
  simp only at hbl hbf ⊢
  refine vcalls_start (c := bodyOf Tryz.f38) Tryz.func38 rfl rfl (by simp [Tryz.ntmps38]) ?_
  rw [Tryz.ntmps38]
  intro hwf
  repeat (first|refine QG ?_|refine QX (r:=by conv=>lhs;simp[-List.map_set,QV]) (k:=?_))
  repeat refine QS ?_
  refine QR (r:=by conv=>lhs;simp[-List.map_set,QV]) (k:=?_)
  refine vcall_useH (cs') (by rfl) ?_
  refine QM (by conv=>lhs;simp[-List.map_set,QV,hs]) ?_
  refine QN ?_
  repeat refine QS ?_
  refine vw_condF rfl rfl rfl ?_
  repeat refine QS ?_
  refine vw_skipAt rfl ?_
  repeat refine QS ?_
  refine QR (r:=by conv=>lhs;simp[-List.map_set,QV]) (k:=?_)
  refine QN ?_
  refine vw_void 3 1 rfl (by conv => lhs; simp [Fr.set]) ?_
  repeat (first|refine QG ?_|refine QX (r:=by conv=>lhs;simp[-List.map_set,QV]) (k:=?_))
  refine vw_only' [3, 13, 14, 15] (by conv => lhs; simp [Fr.only, Fr.look]) ?_
  refine vw_gc [1] hwf (by decide) (by simp [-List.map_set]) (by conv => lhs; simp [-List.map_set]) (by conv => lhs; simp [-List.map_set]) (by conv => lhs; simp [-List.map_set]) ?_
  repeat refine QS ?_
  refine vw_loopAt [3, 13, 14, 15] rfl (fun c σ S' => ∃ (k : Nat) (out : List (List Int)), k ≤ bs.length ∧ c = bs.length - k ∧ out.length = k ∧ out = (bs.take k).map Ss.rowOf ∧ σ = [(3, .slice (lid S.nx 0) 0 k), (13, vl encBlock bs), (14, vnat bs.length), (15, vnat k)] ∧ S' = St S [] [some (1, out.map (vl vint))]) bs.length ?_ ?_
  · exact ⟨0, [], by omega, rfl, rfl, by simp, by simp [Fr.only], by simp⟩
  · rintro c σ T ⟨k, out, hk, rfl, hol, ho, rfl, rfl⟩
    by_cases hkt : k < bs.length
    · have hw := wrapNat hkt (by omega)
      obtain ⟨_, htl, _, _⟩ := hbf _ (List.getElem_mem hkt)
      obtain ⟨⟨ps, code, ⟨tk, ta, to, az⟩⟩, hx⟩ : ∃ b, bs[k] = b := ⟨_, rfl⟩
      rw [hx] at htl
      simp only at htl
      have htk : bs.take (k + 1) = bs.take k ++ [⟨ps, code, ⟨tk, ta, to, az⟩⟩] := by rw [List.take_add_one, List.getElem?_eq_getElem hkt, hx]; rfl
      repeat refine QS ?_
      refine QR (r:=by conv=>lhs;simp[-List.map_set,QV,hkt]) (k:=?_)
      refine QN ?_
      repeat refine QS ?_
      refine vw_condT rfl rfl rfl ?_
      repeat refine QS ?_
      refine vw_skipAt rfl ?_
      repeat refine QS ?_
      refine vw_blockAt 1 rfl rfl ?_
      repeat refine QS ?_
      refine QR (r:=by conv=>lhs;simp[-List.map_set,QV,hkt,hx]) (k:=?_)
      refine QN ?_
      repeat refine QS ?_
      refine QR (r:=by conv=>lhs;simp[-List.map_set,QV]) (k:=?_)
      refine QN ?_
      refine vw_void 6 1 rfl (by conv => lhs; simp [Fr.set]) ?_
      repeat (first|refine QG ?_|refine QX (r:=by conv=>lhs;simp[-List.map_set,QV]) (k:=?_))
      refine vw_only' [3, 6, 13, 14, 15, 21, 22, 23] (by conv => lhs; simp [Fr.only, Fr.look]) ?_
      refine vw_gc [0, 2] hwf (by decide) (by simp [-List.map_set]) (by conv => lhs; simp [-List.map_set]) (by conv => lhs; simp [-List.map_set]) (by conv => lhs; simp [-List.map_set]) ?_
      repeat refine QS ?_
      refine vw_loopAt [3, 6, 13, 14, 15, 21, 22, 23] rfl (fun c σ S' => ∃ (j : Nat) (r : List Int), j ≤ to.length ∧ c = to.length - j ∧ r.length = j ∧ r = (to.take j).map Ss.Edge.to ∧ σ = [(3, .slice (lid S.nx 0) 0 k), (6, .slice (lid S.nx 1) 0 j), (13, vl encBlock bs), (14, vnat bs.length), (15, vnat k), (21, vl encEdge to), (22, vnat to.length), (23, vnat j)] ∧ S' = St S [] [some (1, out.map (vl vint)), some (1, r.map vint)]) to.length ?_ ?_
      · exact ⟨0, [], by omega, rfl, rfl, by simp, by simp [Fr.only], by simp⟩
      · rintro c σ T ⟨j, r, hj, rfl, hrl, hr, rfl, rfl⟩
        by_cases hjt : j < to.length
        · have hwj := wrapNat hjt (by omega)
          have hb : (j + 1) * 8 ≤ 140737488355328 := by omega
          have hb' : j + 1 ≤ 140737488355328 := by omega
          obtain ⟨⟨xt, xa⟩, hx2⟩ : ∃ b, to[j] = b := ⟨_, rfl⟩
          have htj : to.take (j + 1) = to.take j ++ [⟨xt, xa⟩] := by rw [List.take_add_one, List.getElem?_eq_getElem hjt, hx2]; rfl
          repeat (first|refine QG ?_|refine QX (r:=by conv=>lhs;simp[-List.map_set,QV,hjt,hx2,hb,hb',hrl]) (k:=?_))
          refine QA [0, 4] (h:=⟨?_, j + 1, r ++ [xt], hjt, rfl, by simp [hrl], by rw [htj, List.map_append, hr]; rfl, by simp [hwj], by simp⟩)
          omega
        · have hje : j = to.length := by omega
          subst hje
          rw [List.take_length] at hr
          have hb : (k + 1) * 24 ≤ 140737488355328 := by omega
          have hb' : k + 1 ≤ 140737488355328 := by omega
          repeat refine QS ?_
          refine QR (r:=by conv=>lhs;simp[-List.map_set,QV,hjt]) (k:=?_)
          refine QN ?_
          repeat refine QS ?_
          refine vw_condF rfl rfl rfl ?_
          repeat refine QS ?_
          refine vw_exitAt 2 rfl rfl ?_
          refine vw_ghost' 6 rfl ((frz1 (k := 1) (len := to.length) (by simp) (by rfl) (all_closed1 vint (fun _ => rfl) _) (by simpa using hrl))) (by conv => lhs; simp [Fr.set]) ?_
          simp only [List.set_cons_succ, List.set_cons_zero]
          repeat (first|refine QG ?_|refine QX (r:=by conv=>lhs;simp[-List.map_set,QV,hb,hb',hol]) (k:=?_))
          refine QA [3] (h:=⟨?_, k + 1, out ++ [r], hkt, rfl, by simp [hol], by rw [htk, List.map_append, ← ho, hr]; rfl, by simp [hw], by simp [vl]⟩)
          omega
    · have hke : k = bs.length := by omega
      subst hke
      rw [List.take_length] at ho
      repeat (first|refine QG ?_|refine QX (r:=by conv=>lhs;simp[-List.map_set,QV,hkt]) (k:=?_))
      rw [Ss.succs, ← ho]
      exact done_via hwf ((frz1 (by simp) (by rfl) (all_closed1 (vl vint) (fun _ => rfl) _) (by simpa using hol)).toB _) rfl
end Go.Vw

namespace Go.Vw
open Go.Proofs Go.RowKit
set_option maxRecDepth 10000
set_option maxHeartbeats 8000000

/-- The document's Succ leaves its list to who calls it. -/
theorem RSuccO_v (S : Store) (f : Ss.Fn) (hf : f.Fits) (hs : f.small = true) : VCalls Tryz.prog 23 [encFn f] S (fun r T => r = .slice (lid S.nx 0) 0 f.blocks.length ∧ T = St S [] [some (1, (Ss.succs f.blocks).map (vl vint))]) := by
  have cs := RSmall_v f hf
  have hsb := @small_blocks f
  obtain ⟨⟨fi, fo⟩, ts, bs⟩ := f
  rw [hs] at cs
  obtain ⟨sm, hsm⟩ : ∃ sm, sm = true := ⟨_, rfl⟩
  rw [← hsm] at cs
  have cs' : VPure Tryz.prog 22 [.agg [vl vint fi, vl vint fo, vl vint ts, vl encBlock bs]] (.bool sm) := cs
  obtain ⟨_, hbl, hbf, _⟩ := hsb hs
  simp only at hbl hbf ⊢
  refine vcalls_start (c := bodyOf Tryz.f23) Tryz.func23 rfl rfl (by simp [Tryz.ntmps23]) ?_
  rw [Tryz.ntmps23]
  intro hwf
  repeat (first|refine QG ?_|refine QX (r:=by conv=>lhs;simp[-List.map_set,QV]) (k:=?_))
  repeat refine QS ?_
  refine QR (r:=by conv=>lhs;simp[-List.map_set,QV]) (k:=?_)
  refine vcall_useH (cs') (by rfl) ?_
  refine QM (by conv=>lhs;simp[-List.map_set,QV,hsm]) ?_
  refine QN ?_
  repeat (first|refine QG ?_|refine QX (r:=by conv=>lhs;simp[-List.map_set,QV]) (k:=?_))
  refine vw_void 3 1 rfl (by conv => lhs; simp [Fr.set]) ?_
  repeat refine QS ?_
  refine vw_loopAt [1, 3, 4] rfl (fun c σ S' => ∃ (k : Nat) (out : List (List Int)), k ≤ bs.length ∧ c = bs.length - k ∧ out.length = k ∧ out = (bs.take k).map Ss.rowOf ∧ σ = [(1, .ptr (lid S.nx 0) 0), (3, .slice (lid S.nx 1) 0 k), (4, vnat k)] ∧ S' = St S [] [some (4, [vl vint fi, vl vint fo, vl vint ts, vl encBlock bs]), some (1, out.map (vl vint))]) bs.length ?_ ?_
  · exact ⟨0, [], by omega, rfl, rfl, by simp, by simp [Fr.only], by simp⟩
  · rintro c σ T ⟨k, out, hk, rfl, hol, ho, rfl, rfl⟩
    by_cases hkt : k < bs.length
    · have hw := wrapNat hkt (by omega)
      obtain ⟨_, htl, _, _⟩ := hbf _ (List.getElem_mem hkt)
      obtain ⟨⟨ps, code, ⟨tk, ta, to, az⟩⟩, hx⟩ : ∃ b, bs[k] = b := ⟨_, rfl⟩
      rw [hx] at htl
      simp only at htl
      have htk : bs.take (k + 1) = bs.take k ++ [⟨ps, code, ⟨tk, ta, to, az⟩⟩] := by rw [List.take_add_one, List.getElem?_eq_getElem hkt, hx]; rfl
      repeat (first|refine QG ?_|refine QX (r:=by conv=>lhs;simp[-List.map_set,QV,hkt,hx]) (k:=?_))
      refine vw_void 5 1 rfl (by conv => lhs; simp [Fr.set]) ?_
      repeat refine QS ?_
      refine vw_loopAt [1, 3, 4, 5, 6] rfl (fun c σ S' => ∃ (j : Nat) (r : List Int), j ≤ to.length ∧ c = to.length - j ∧ r.length = j ∧ r = (to.take j).map Ss.Edge.to ∧ σ = [(1, .ptr (lid S.nx 0) 0), (3, .slice (lid S.nx 1) 0 k), (4, vnat k), (5, .slice (lid S.nx 2) 0 j), (6, vnat j)] ∧ S' = St S [] [some (4, [vl vint fi, vl vint fo, vl vint ts, vl encBlock bs]), some (1, out.map (vl vint)), some (1, r.map vint)]) to.length ?_ ?_
      · exact ⟨0, [], by omega, rfl, rfl, by simp, by simp [Fr.only], by simp⟩
      · rintro c σ T ⟨j, r, hj, rfl, hrl, hr, rfl, rfl⟩
        by_cases hjt : j < to.length
        · have hwj := wrapNat hjt (by omega)
          have hb : (j + 1) * 8 ≤ 140737488355328 := by omega
          have hb' : j + 1 ≤ 140737488355328 := by omega
          obtain ⟨⟨xt, xa⟩, hx2⟩ : ∃ b, to[j] = b := ⟨_, rfl⟩
          have htj : to.take (j + 1) = to.take j ++ [⟨xt, xa⟩] := by rw [List.take_add_one, List.getElem?_eq_getElem hjt, hx2]; rfl
          repeat (first|refine QG ?_|refine QX (r:=by conv=>lhs;simp[-List.map_set,QV,hkt,hx,hjt,hx2,hb,hb',hrl]) (k:=?_))
          refine QA [0, 1, 4] (h:=⟨?_, j + 1, r ++ [xt], hjt, rfl, by simp [hrl], by rw [htj, List.map_append, hr]; rfl, by simp [hwj], by simp⟩)
          omega
        · have hje : j = to.length := by omega
          subst hje
          rw [List.take_length] at hr
          have hb : (k + 1) * 24 ≤ 140737488355328 := by omega
          have hb' : k + 1 ≤ 140737488355328 := by omega
          repeat refine QS ?_
          refine QR (r:=by conv=>lhs;simp[-List.map_set,QV,hkt,hx,hjt]) (k:=?_)
          refine QN ?_
          repeat refine QS ?_
          refine vw_condF rfl rfl rfl ?_
          repeat refine QS ?_
          refine vw_exitAt 2 rfl rfl ?_
          refine vw_ghost' 5 rfl ((frz1 (k := 2) (len := to.length) (by simp) (by rfl) (all_closed1 vint (fun _ => rfl) _) (by simpa using hrl))) (by conv => lhs; simp [Fr.set]) ?_
          simp only [List.set_cons_succ, List.set_cons_zero]
          repeat (first|refine QG ?_|refine QX (r:=by conv=>lhs;simp[-List.map_set,QV,hb,hb',hol]) (k:=?_))
          refine QA [0, 4] (h:=⟨?_, k + 1, out ++ [r], hkt, rfl, by simp [hol], by rw [htk, List.map_append, ← ho, hr]; rfl, by simp [hw], by simp [vl]⟩)
          omega
    · have hke : k = bs.length := by omega
      subst hke
      rw [List.take_length] at ho
      repeat refine QS ?_
      refine QR (r:=by conv=>lhs;simp[-List.map_set,QV,hkt]) (k:=?_)
      refine QN ?_
      repeat refine QS ?_
      refine vw_condF rfl rfl rfl ?_
      repeat refine QS ?_
      refine vw_exitAt 0 rfl rfl ?_
      refine vw_only' [3] (by conv => lhs; simp [Fr.only, Fr.look]) ?_
      refine vw_gc [1] hwf (by decide) (by simp [-List.map_set]) (by conv => lhs; simp [-List.map_set]) (by conv => lhs; simp [-List.map_set]) (by conv => lhs; simp [-List.map_set]) ?_
      repeat (first|refine QG ?_|refine QX (r:=by conv=>lhs;simp[-List.map_set,QV]) (k:=?_))
      rw [Ss.succs, ← ho]
      exact done_as ⟨by simp, rfl⟩
end Go.Vw

/-
  Circles of blocks, by a walk in depth: the walk ends.
-/
namespace Ss
def tickB (b : Block) : Bool := b.code.any fun x => decide (x.op = 258)
mutual
/-- The walk from a node: a circle?, and the nodes' states behind it (0 not met, 1 under way, 2 done); none: out of fuel. -/
def ringW (tick : List Bool) (g : List (List Nat)) : Nat → Nat → List Nat → Option (Bool × List Nat)
  | 0, _, _ => none
  | fuel + 1, n, st => if tick.getD n false then some (false, st) else
      match ringL tick g fuel (g.getD n []) (st.set n 1) with
      | some (true, s) => some (true, s)
      | some (false, s) => some (false, s.set n 2)
      | none => none
  termination_by fuel _ _ => (fuel, 0)
def ringL (tick : List Bool) (g : List (List Nat)) : Nat → List Nat → List Nat → Option (Bool × List Nat)
  | _, [], st => some (false, st)
  | fuel, k :: ks, st => if st.getD k 0 = 1 then some (true, st) else if st.getD k 0 = 0 then
      match ringW tick g fuel k st with
      | some (true, s) => some (true, s)
      | some (false, s) => ringL tick g fuel ks s
      | none => none
    else ringL tick g fuel ks st
  termination_by fuel ks _ => (fuel, ks.length + 1)
end
def ringM (tick : List Bool) (g : List (List Nat)) (fuel : Nat) : List Nat → List Nat → Option Bool
  | [], _ => some false
  | n :: ns, st => if st.getD n 0 = 0 then
      match ringW tick g fuel n st with
      | some (true, _) => some true
      | some (false, s) => ringM tick g fuel ns s
      | none => none
    else ringM tick g fuel ns st
def zeros (st : List Nat) : Nat := (st.filter fun x => decide (x = 0)).length
theorem zeros_set (v : Nat) : ∀ (st : List Nat) (n : Nat), v ≠ 0 → zeros (st.set n v) ≤ zeros st ∧ (n < st.length → st.getD n 1 = 0 → zeros (st.set n v) + 1 = zeros st)
  | [], n, _ => by simp [zeros]
  | x :: st, 0, hv => by
    have e : zeros ((x :: st).set 0 v) = zeros st := by simp [zeros, hv]
    rw [e]
    refine ⟨?_, fun _ h => ?_⟩
    · simp only [zeros, List.filter_cons]
      split <;> simp
    · simp at h; subst h; simp [zeros]
  | x :: st, n + 1, hv => by
    obtain ⟨h1, h2⟩ := zeros_set v st n hv
    simp only [zeros, List.set_cons_succ, List.filter_cons] at h1 h2 ⊢
    split
    · simp only [List.length_cons]
      refine ⟨by omega, fun h3 h4 => ?_⟩
      have := h2 (by simpa using h3) (by simpa using h4)
      omega
    · exact ⟨h1, fun h3 h4 => h2 (by simpa using h3) (by simpa using h4)⟩
theorem zeros_le (st : List Nat) : zeros st ≤ st.length := List.length_filter_le _ _

section
variable {tick : List Bool} {g : List (List Nat)}
theorem ringL_ends {N fuel : Nat} (hg : ∀ n, ∀ k ∈ g.getD n [], k < N)
    (ih : ∀ n st, n < N → st.length = N → st.getD n 0 = 0 → zeros st < fuel → ∃ r s, ringW tick g fuel n st = some (r, s) ∧ zeros s ≤ zeros st ∧ s.length = st.length) :
    ∀ (ks st : List Nat), (∀ k ∈ ks, k < N) → st.length = N → zeros st < fuel → ∃ r s, ringL tick g fuel ks st = some (r, s) ∧ zeros s ≤ zeros st ∧ s.length = st.length
  | [], st, _, _, _ => ⟨false, st, by rw [ringL], Nat.le_refl _, rfl⟩
  | k :: ks, st, hk, hl, hz => by
    rw [ringL]
    split
    · exact ⟨true, st, rfl, Nat.le_refl _, rfl⟩
    · split
      · rename_i h0
        obtain ⟨r, s, h1, h2, h3⟩ := ih k st (hk k (by simp)) hl h0 hz
        rw [h1]
        cases r with
        | true => exact ⟨true, s, rfl, h2, h3⟩
        | false =>
          obtain ⟨r', s', k1, k2, k3⟩ := ringL_ends hg ih ks s (fun x hx => hk x (by simp [hx])) (by omega) (by omega)
          exact ⟨r', s', k1, by omega, by omega⟩
      · exact ringL_ends hg ih ks st (fun x hx => hk x (by simp [hx])) hl hz
theorem ringW_ends {N : Nat} (hg : ∀ n, ∀ k ∈ g.getD n [], k < N) : ∀ (fuel n : Nat) (st : List Nat), n < N → st.length = N → st.getD n 0 = 0 → zeros st < fuel → ∃ r s, ringW tick g fuel n st = some (r, s) ∧ zeros s ≤ zeros st ∧ s.length = st.length
  | 0, _, _, _, _, _, hz => by omega
  | fuel + 1, n, st, hn, hl, h0, hz => by
    rw [ringW]
    split
    · exact ⟨false, st, rfl, Nat.le_refl _, rfl⟩
    · have hz1 := (zeros_set 1 st n (by decide)).2 (by omega) (by
        rw [List.getD_eq_getElem?_getD, List.getElem?_eq_getElem (by omega)] at h0 ⊢
        exact h0)
      obtain ⟨r, s, h1, h2, h3⟩ := ringL_ends hg (fun n st => ringW_ends hg fuel n st) (g.getD n []) (st.set n 1) (hg n) (by simp; omega) (by omega)
      rw [h1]
      have h3' : s.length = st.length := by rw [h3]; simp
      cases r with
      | true => exact ⟨true, s, rfl, by omega, h3'⟩
      | false =>
        have := (zeros_set 2 s n (by decide)).1
        exact ⟨false, s.set n 2, rfl, by omega, by simp [h3']⟩
theorem ringM_ends {N fuel : Nat} (hg : ∀ n, ∀ k ∈ g.getD n [], k < N) (hf : N < fuel) : ∀ (ns st : List Nat), (∀ n ∈ ns, n < N) → st.length = N → ∃ r, ringM tick g fuel ns st = some r
  | [], _, _, _ => ⟨false, rfl⟩
  | n :: ns, st, hn, hl => by
    simp only [ringM]
    split
    · rename_i h0
      obtain ⟨r, s, h1, h2, h3⟩ := ringW_ends (tick := tick) hg fuel n st (hn n (by simp)) hl h0 (by have := zeros_le st; omega)
      rw [h1]
      cases r with
      | true => exact ⟨true, rfl⟩
      | false => exact ringM_ends hg hf ns s (fun x hx => hn x (by simp [hx])) (by omega)
    · exact ringM_ends hg hf ns st (fun x hx => hn x (by simp [hx])) hl
theorem ringL_len {fuel : Nat} (ih : ∀ n st r s, ringW tick g fuel n st = some (r, s) → s.length = st.length) : ∀ (ks st : List Nat) (r : Bool) (s : List Nat), ringL tick g fuel ks st = some (r, s) → s.length = st.length
  | [], st, r, s, h => by rw [ringL] at h; cases h; rfl
  | k :: ks, st, r, s, h => by
    rw [ringL] at h
    split at h
    · cases h; rfl
    · split at h
      · cases hw : ringW tick g fuel k st with
        | none => rw [hw] at h; cases h
        | some p =>
          obtain ⟨b, s1⟩ := p
          rw [hw] at h
          have e1 := ih k st b s1 hw
          cases b with
          | true => cases h; exact e1
          | false => exact (ringL_len ih ks s1 r s h).trans e1
      · exact ringL_len ih ks st r s h
theorem ringW_len : ∀ (fuel n : Nat) (st : List Nat) (r : Bool) (s : List Nat), ringW tick g fuel n st = some (r, s) → s.length = st.length
  | 0, _, _, _, _, h => by rw [ringW] at h; cases h
  | fuel + 1, n, st, r, s, h => by
    rw [ringW] at h
    split at h
    · cases h; rfl
    · cases hl : ringL tick g fuel (g.getD n []) (st.set n 1) with
      | none => rw [hl] at h; cases h
      | some p =>
        obtain ⟨b, s1⟩ := p
        rw [hl] at h
        have e1 := ringL_len (ringW_len fuel) _ _ _ _ hl
        cases b with
        | true => cases h; simpa using e1
        | false => cases h; simpa using e1
end
/-- Is there a circle of blocks without a tick? -/
def rings (bs : List Block) (g : List (List Nat)) : Bool := (ringM (bs.map tickB) g (g.length + 1) (List.range g.length) (List.replicate g.length 0)).getD false
end Ss

namespace Go.Vw
open Go.Proofs Go.RowKit
set_option maxRecDepth 10000
set_option maxHeartbeats 4000000

theorem RSucc_v (f : Ss.Fn) (hf : f.Fits) (hs : f.small = true) : VPure Tryz.prog 23 [encFn f] (vl (vl vint) (Ss.succs f.blocks)) := by
  intro S
  refine vcalls_wf fun hwf => vcalls_postB ((RSuccO_v S f hf hs).mono ?_)
  rintro r T ⟨rfl, rfl⟩
  exact done_via hwf ((frz1 (k := 0) (cells := (Ss.succs f.blocks).map (vl vint)) (by simp) (by rfl) (all_closed1 (vl vint) (fun _ => rfl) _) (by simp [Ss.succs])).toB _) rfl

theorem any_drop {α : Type} (p : α → Bool) {l : List α} {k : Nat} (h : k < l.length) : (l.drop k).any p = (p l[k] || (l.drop (k + 1)).any p) := by
  rw [List.drop_eq_getElem_cons h, List.any_cons]
theorem any_drop_end {α : Type} (p : α → Bool) {l : List α} {k : Nat} (h : ¬ k < l.length) : (l.drop k).any p = false := by
  have : l.drop k = [] := by rw [List.drop_eq_nil_iff]; omega
  rw [this]; rfl
theorem ticks_v (b : Ss.Block) (hb : b.code.length < 2^63) : VPure Tryz.prog 58 [encBlock b] (.bool (Ss.tickB b)) := by
  intro S
  obtain ⟨ps, code, ⟨tk, ta, to, az⟩⟩ := b
  simp only at hb
  have hX : Ss.tickB ⟨ps, code, ⟨tk, ta, to, az⟩⟩ = code.any fun x => decide (x.op = 258) := rfl
  rw [hX]
  generalize hP : (fun x : Ss.Ins => decide (x.op = 258)) = P
  refine vcalls_start (c := bodyOf Tryz.f58) Tryz.func58 rfl rfl (by simp [Tryz.ntmps58]) ?_
  rw [Tryz.ntmps58]
  intro hwf
  repeat (first|refine QG ?_|refine QX (r:=by conv=>lhs;simp[-List.map_set,QV]) (k:=?_))
  repeat refine QS ?_
  refine vw_loopAt [1, 3] rfl (fun c σ S' => ∃ (k : Nat), k ≤ code.length ∧ c = code.length - k ∧ (code.drop k).any P = code.any P ∧ σ = [(1, .ptr (lid S.nx 0) 0), (3, vnat k)] ∧ S' = St S [] [some (6, [vl vint ps, vl encIns code, vint tk, vint ta, vl encEdge to, vl vint az])]) code.length ?_ ?_
  · exact ⟨0, by omega, rfl, rfl, by simp [Fr.only], rfl⟩
  · rintro c σ T ⟨k, hk, rfl, hd, rfl, rfl⟩
    by_cases hkt : k < code.length
    · have hst := any_drop P hkt
      have hw := wrapNat hkt hb
      obtain ⟨⟨o, n, a, u⟩, hx⟩ : ∃ x, code[k] = x := ⟨_, rfl⟩
      have hp : P ⟨o, n, a, u⟩ = decide (o = 258) := by rw [← hP]
      rw [hx, hp] at hst
      by_cases h1 : o = 258
      · rw [decide_eq_true h1, Bool.true_or, hd] at hst
        repeat (first|refine QG ?_|refine QX (r:=by conv=>lhs;simp[-List.map_set,QV,hkt,hx,h1]) (k:=?_))
        rw [hst]
        exact done_pure hwf rfl rfl
      · rw [decide_eq_false h1, Bool.false_or, hd] at hst
        repeat (first|refine QG ?_|refine QX (r:=by conv=>lhs;simp[-List.map_set,QV,hkt,hx,h1,hw]) (k:=?_))
        show Again _ _ _ _ _ _ _
        exact again ⟨by omega, k + 1, by omega, rfl, hst.symm, by simp [Fr.only], rfl⟩
    · repeat (first|refine QG ?_|refine QX (r:=by conv=>lhs;simp[-List.map_set,QV,hkt]) (k:=?_))
      rw [← hd, any_drop_end _ hkt]
      exact done_pure hwf rfl rfl
end Go.Vw
