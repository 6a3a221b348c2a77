import Derived.Test.YtmfpoangempgaaaC18
import Derived.Test.YtmfpoangempgaaaProg
import Derived.Test.YtmfpoangempgaaaC20
/-
  Part of the proof (texts SRSmall, SSmall, SSucc, SSame).
-/
set_option linter.unusedVariables false
set_option linter.unusedSimpArgs false
namespace Go.Vw
open Go.Proofs Go.RowKit
set_option maxRecDepth 10000
set_option maxHeartbeats 8000000

theorem gt4 (n : Nat) : decide ((4096 : Int) < (n : Int)) = !decide (n ≤ 4096) := by
  by_cases h : n ≤ 4096
  · simp [h]; omega
  · simp [h]; omega

theorem RSmall_v (f : Ss.Fn) (hf : f.Fits) : VPure Try.prog 9 [encFn f] (.bool f.small) := by
  intro S
  obtain ⟨⟨fi, fo⟩, ts, bs⟩ := f
  obtain ⟨_, _, hbl0, hbf⟩ := hf
  simp only at hbl0 hbf
  have hbl : bs.length < 2^63 := by omega
  refine vcalls_start (c := bodyOf Try.f9) Try.func9 rfl rfl (by simp [Try.ntmps9]) ?_
  rw [Try.ntmps9]
  intro hwf
  by_cases h1 : (4096 : Int) < (ts.length : Int)
  · repeat (first|refine QG ?_|refine QX (r:=by conv=>lhs;simp[-List.map_set,QV,h1]) (k:=?_))
    exact done_pure hwf (by simp [Ss.Fn.small, Ss.Fn.heads]; omega) rfl
  by_cases h2 : (4096 : Int) < (bs.length : Int)
  · repeat (first|refine QG ?_|refine QX (r:=by conv=>lhs;simp[-List.map_set,QV,h1,h2]) (k:=?_))
    exact done_pure hwf (by simp [Ss.Fn.small, Ss.Fn.heads]; omega) rfl
  by_cases h3 : (4096 : Int) < (fi.length : Int)
  · repeat (first|refine QG ?_|refine QX (r:=by conv=>lhs;simp[-List.map_set,QV,h1,h2,h3]) (k:=?_))
    exact done_pure hwf (by simp [Ss.Fn.small, Ss.Fn.heads]; omega) rfl
  by_cases h4 : (4096 : Int) < (fo.length : Int)
  · repeat (first|refine QG ?_|refine QX (r:=by conv=>lhs;simp[-List.map_set,QV,h1,h2,h3,h4]) (k:=?_))
    exact done_pure hwf (by simp [Ss.Fn.small, Ss.Fn.heads]; omega) rfl
  have hh : Ss.Fn.small ⟨⟨fi, fo⟩, ts, bs⟩ = Ss.smallFrom 0 bs := by
    have : Ss.Fn.heads ⟨⟨fi, fo⟩, ts, bs⟩ = true := by simp [Ss.Fn.heads]; omega
    simp [Ss.Fn.small, this]
  rw [hh]
  repeat (first|refine QG ?_|refine QX (r:=by conv=>lhs;simp[-List.map_set,QV,h1,h2,h3,h4]) (k:=?_))
  repeat refine QS ?_
  refine vw_loopAt [1, 3, 4] rfl (fun c σ S' => ∃ (k n : Nat), k ≤ bs.length ∧ n ≤ 4096 ∧ c = bs.length - k ∧ Ss.smallFrom n (bs.drop k) = Ss.smallFrom 0 bs ∧ σ = [(1, .ptr (lid S.nx 0) 0), (3, vnat n), (4, vnat k)] ∧ S' = St S [] [some (4, [vl vint fi, vl vint fo, vl vint ts, vl encBlock bs])]) bs.length ?_ ?_
  · exact ⟨0, 0, by omega, by omega, rfl, rfl, by simp [Fr.only], rfl⟩
  · rintro c σ T ⟨k, n, hk, hn, rfl, hd, rfl, rfl⟩
    by_cases hkt : k < bs.length
    · have hw := wrapNat hkt hbl
      have hbk := hbf _ (List.getElem_mem hkt)
      have hst := Ss.drop_small (n := n) hkt
      obtain ⟨⟨ps, code, ⟨tk, ta, to, az⟩⟩, hb⟩ : ∃ b, bs[k] = b := ⟨_, rfl⟩
      rw [hb] at hst hbk
      obtain ⟨_, ⟨hcl0, _⟩, _, _, ⟨htl0, _⟩, _⟩ := hbk
      simp only at hcl0 htl0
      have hcl : code.length < 2^63 := by omega
      have htl : to.length < 2^63 := by omega
      have hwn : IntKind.i64.wrap ((n : Int) + (code.length : Int)) = (n : Int) + (code.length : Int) := wrap_i64 (by omega) (by omega)
      have hS : Ss.Block.small ⟨ps, code, ⟨tk, ta, to, az⟩⟩ = (decide (ps.length ≤ 4096) && decide (to.length ≤ 4096) && decide (az.length ≤ 4096) && code.all Ss.Ins.small && to.all Ss.Edge.small) := rfl
      by_cases g1 : (4096 : Int) < (n : Int) + (code.length : Int)
      · have e : Ss.smallFrom n (bs.drop k) = false := by rw [hst]; simp; omega
        rw [← hd, e]
        repeat (first|refine QG ?_|refine QX (r:=by conv=>lhs;simp[-List.map_set,QV,hkt,hb,hwn,g1]) (k:=?_))
        exact done_pure hwf rfl rfl
      by_cases g2 : (4096 : Int) < (ps.length : Int)
      · have e : Ss.smallFrom n (bs.drop k) = false := by rw [hst, hS]; simp; omega
        rw [← hd, e]
        repeat (first|refine QG ?_|refine QX (r:=by conv=>lhs;simp[-List.map_set,QV,hkt,hb,hwn,g1,g2]) (k:=?_))
        exact done_pure hwf rfl rfl
      by_cases g3 : (4096 : Int) < (to.length : Int)
      · have e : Ss.smallFrom n (bs.drop k) = false := by rw [hst, hS]; simp; omega
        rw [← hd, e]
        repeat (first|refine QG ?_|refine QX (r:=by conv=>lhs;simp[-List.map_set,QV,hkt,hb,hwn,g1,g2,g3]) (k:=?_))
        exact done_pure hwf rfl rfl
      by_cases g4 : (4096 : Int) < (az.length : Int)
      · have e : Ss.smallFrom n (bs.drop k) = false := by rw [hst, hS]; simp; omega
        rw [← hd, e]
        repeat (first|refine QG ?_|refine QX (r:=by conv=>lhs;simp[-List.map_set,QV,hkt,hb,hwn,g1,g2,g3,g4]) (k:=?_))
        exact done_pure hwf rfl rfl
      rw [show decide (n + code.length ≤ 4096) = true by simp; omega, hS, show decide (ps.length ≤ 4096) = true by simp; omega, show decide (to.length ≤ 4096) = true by simp; omega, show decide (az.length ≤ 4096) = true by simp; omega, Bool.true_and, Bool.true_and, Bool.true_and, Bool.true_and] at hst
      repeat (first|refine QG ?_|refine QX (r:=by conv=>lhs;simp[-List.map_set,QV,hkt,hb,hwn,g1,g2,g3,g4]) (k:=?_))
      repeat refine QS ?_
      refine vw_loopAt [1, 3, 4, 5, 6] rfl (fun c σ S' => ∃ (j : Nat), j ≤ code.length ∧ c = code.length - j ∧ (code.drop j).all Ss.Ins.small = code.all Ss.Ins.small ∧ σ = [(1, .ptr (lid S.nx 0) 0), (3, vnat (n + code.length)), (4, vnat k), (5, .ptr (lid S.nx 1) 0), (6, vnat j)] ∧ S' = St S [] [some (4, [vl vint fi, vl vint fo, vl vint ts, vl encBlock bs]), some (6, [vl vint ps, vl encIns code, vint tk, vint ta, vl encEdge to, vl vint az])]) code.length ?_ ?_
      · exact ⟨0, by omega, rfl, rfl, by simp [Fr.only], rfl⟩
      · rintro c σ T ⟨j, hj, rfl, hdj, rfl, rfl⟩
        by_cases hjt : j < code.length
        · have hwj := wrapNat hjt hcl
          have hstj := Ss.drop_all Ss.Ins.small hjt
          obtain ⟨⟨io, iN, ia, iu⟩, hx⟩ : ∃ b, code[j] = b := ⟨_, rfl⟩
          rw [hx] at hstj
          have hX : Ss.Ins.small ⟨io, iN, ia, iu⟩ = (decide (ia.length ≤ 4096) && decide (iu.length ≤ 4096)) := rfl
          by_cases q1 : (4096 : Int) < (ia.length : Int)
          · have e : code.all Ss.Ins.small = false := by rw [← hdj, hstj, hX]; simp; omega
            rw [← hd, hst, e]
            repeat (first|refine QG ?_|refine QX (r:=by conv=>lhs;simp[-List.map_set,QV,hjt,hx,q1]) (k:=?_))
            exact done_pure hwf rfl rfl
          by_cases q2 : (4096 : Int) < (iu.length : Int)
          · have e : code.all Ss.Ins.small = false := by rw [← hdj, hstj, hX]; simp; omega
            rw [← hd, hst, e]
            repeat (first|refine QG ?_|refine QX (r:=by conv=>lhs;simp[-List.map_set,QV,hjt,hx,q1,q2]) (k:=?_))
            exact done_pure hwf rfl rfl
          rw [hX, show decide (ia.length ≤ 4096) = true by simp; omega, show decide (iu.length ≤ 4096) = true by simp; omega, Bool.true_and, Bool.true_and] at hstj
          repeat (first|refine QG ?_|refine QX (r:=by conv=>lhs;simp[-List.map_set,QV,hjt,hx,q1,q2]) (k:=?_))
          show Again _ _ _ _ _ _ _
          exact again ⟨Nat.sub_lt_sub_left hjt (Nat.lt_succ_self j), j + 1, hjt, rfl, by rw [← hdj, hstj], by simp [Fr.only, hwj], rfl⟩
        · rw [Ss.drop_all_end _ hjt] at hdj
          rw [← hdj, Bool.true_and] at hst
          repeat (first|refine QG ?_|refine QX (r:=by conv=>lhs;simp[-List.map_set,QV,hjt]) (k:=?_))
          repeat refine QS ?_
          refine vw_loopAt [1, 3, 4, 5, 7] rfl (fun c σ S' => ∃ (j : Nat), j ≤ to.length ∧ c = to.length - j ∧ (to.drop j).all Ss.Edge.small = to.all Ss.Edge.small ∧ σ = [(1, .ptr (lid S.nx 0) 0), (3, vnat (n + code.length)), (4, vnat k), (5, .ptr (lid S.nx 1) 0), (7, vnat j)] ∧ S' = St S [] [some (4, [vl vint fi, vl vint fo, vl vint ts, vl encBlock bs]), some (6, [vl vint ps, vl encIns code, vint tk, vint ta, vl encEdge to, vl vint az])]) to.length ?_ ?_
          · exact ⟨0, by omega, rfl, rfl, by simp [Fr.only], rfl⟩
          · rintro c σ T ⟨j, hj, rfl, hdj, rfl, rfl⟩
            by_cases hjt : j < to.length
            · have hwj := wrapNat hjt htl
              have hstj := Ss.drop_all Ss.Edge.small hjt
              obtain ⟨⟨io, ia⟩, hx⟩ : ∃ b, to[j] = b := ⟨_, rfl⟩
              rw [hx] at hstj
              have hX : Ss.Edge.small ⟨io, ia⟩ = decide (ia.length ≤ 4096) := rfl
              by_cases q1 : (4096 : Int) < (ia.length : Int)
              · have e : to.all Ss.Edge.small = false := by rw [← hdj, hstj, hX]; simp; omega
                rw [← hd, hst, e]
                repeat (first|refine QG ?_|refine QX (r:=by conv=>lhs;simp[-List.map_set,QV,hjt,hx,q1]) (k:=?_))
                exact done_pure hwf rfl rfl
              rw [hX, show decide (ia.length ≤ 4096) = true by simp; omega, Bool.true_and] at hstj
              repeat (first|refine QG ?_|refine QX (r:=by conv=>lhs;simp[-List.map_set,QV,hjt,hx,q1]) (k:=?_))
              show Again _ _ _ _ _ _ _
              exact again ⟨Nat.sub_lt_sub_left hjt (Nat.lt_succ_self j), j + 1, hjt, rfl, by rw [← hdj, hstj], by simp [Fr.only, hwj], rfl⟩
            · rw [Ss.drop_all_end _ hjt] at hdj
              rw [← hdj, Bool.true_and] at hst
              repeat (first|refine QG ?_|refine QX (r:=by conv=>lhs;simp[-List.map_set,QV,hjt,hw]) (k:=?_))
              refine QA [0] (h:=⟨?_, k + 1, n + code.length, hkt, by omega, rfl, by rw [← hd, hst], by simp, rfl⟩)
              omega
    · rw [Ss.drop_small_end hkt] at hd
      rw [← hd]
      repeat (first|refine QG ?_|refine QX (r:=by conv=>lhs;simp[-List.map_set,QV,hkt]) (k:=?_))
      exact done_pure hwf rfl rfl
end Go.Vw

namespace Go.Vw
open Go.Proofs Go.RowKit
set_option maxRecDepth 10000
set_option maxHeartbeats 8000000

theorem short1_v (l : List Int) : VPure Try.prog 67 ([vl vint l] ++ []) (.bool (decide (4096 < l.length))) := by
  intro S
  refine vcalls_start (c := bodyOf Try.f67) Try.func67 rfl rfl (by simp [Try.ntmps67]) ?_
  rw [Try.ntmps67]
  intro hwf
  repeat (first|refine QG ?_|refine QX (r:=by conv=>lhs;simp[-List.map_set,QV]) (k:=?_))
  exact done_pure hwf (by simp; omega) rfl

theorem short_v (ls : List (List Int)) (hl : ls.length < 2^63) : VPure Try.prog 44 [vl (vl vint) ls] (.bool (Ss.shortL ls)) := by
  intro S
  have e : (!ls.any fun l => decide (4096 < l.length)) = Ss.shortL ls := by
    rw [Ss.shortL, List.not_any_eq_all_not]
    congr 1; funext l; by_cases h : l.length ≤ 4096 <;> simp [h] <;> omega
  rw [← e]
  refine vcalls_start (c := bodyOf Try.f44) Try.func44 rfl rfl (by simp [Try.ntmps44]) ?_
  rw [Try.ntmps44]
  intro hwf
  repeat (first|refine QG ?_|refine QX (r:=by conv=>lhs;simp[-List.map_set,QV]) (k:=?_))
  repeat refine QS ?_
  refine QR (r:=by conv=>lhs;simp[-List.map_set,QV]) (k:=?_)
  refine vcall_use rfl (AnyL_v ls (fun l => decide (4096 < l.length)) _ [] rfl hl (fun l _ => short1_v l)) ?_
  refine QM (by conv=>lhs;simp[-List.map_set,QV]) ?_
  refine QN ?_
  repeat (first|refine QG ?_|refine QX (r:=by conv=>lhs;simp[-List.map_set,QV]) (k:=?_))
  exact done_pure hwf rfl rfl

theorem shortL_1 (a : List Int) : Ss.shortL [a] = decide (a.length ≤ 4096) := by simp [Ss.shortL]
theorem shortL_2 (a b : List Int) : Ss.shortL [a, b] = (decide (a.length ≤ 4096) && decide (b.length ≤ 4096)) := by simp [Ss.shortL]
theorem shortL_3 (a b c : List Int) : Ss.shortL [a, b, c] = (decide (a.length ≤ 4096) && decide (b.length ≤ 4096) && decide (c.length ≤ 4096)) := by simp [Ss.shortL, Bool.and_assoc]

theorem small_v (f : Ss.Fn) (hf : f.Fits) : VPure Try.prog 16 [encFn f] (.bool f.small) := by
  intro S
  obtain ⟨⟨fi, fo⟩, ts, bs⟩ := f
  obtain ⟨_, _, hbl0, hbf⟩ := hf
  simp only at hbl0 hbf
  have hbl : bs.length < 2^63 := by omega
  refine vcalls_start (c := bodyOf Try.f16) Try.func16 rfl rfl (by simp [Try.ntmps16]) ?_
  rw [Try.ntmps16]
  intro hwf
  repeat (first|refine QG ?_|refine QX (r:=by conv=>lhs;simp[-List.map_set,QV]) (k:=?_))
  repeat refine QS ?_
  refine QR (r:=by conv=>lhs;simp[-List.map_set,QV]) (k:=?_)
  refine vcall_useG (xs' := [vl (vl vint) [ts, fi, fo]]) rfl (GhostArgs.one [] [] (frz1 (k := 1) (len := 3) (by simp) rfl rfl rfl)) (short_v _ (by simp)) ?_
  simp only [List.set_cons_succ, List.set_cons_zero]
  cases h1 : Ss.shortL [ts, fi, fo] with
  | false =>
    refine QM (by conv=>lhs;simp[-List.map_set,QV,h1]) ?_
    refine QN ?_
    repeat (first|refine QG ?_|refine QX (r:=by conv=>lhs;simp[-List.map_set,QV]) (k:=?_))
    refine done_pure hwf ?_ rfl
    rw [shortL_3] at h1
    simp [Ss.Fn.small, Ss.Fn.heads] at h1 ⊢
    omega
  | true =>
  by_cases h2 : (4096 : Int) < (bs.length : Int)
  · refine QM (by conv=>lhs;simp[-List.map_set,QV,h1,h2]) ?_
    refine QN ?_
    repeat (first|refine QG ?_|refine QX (r:=by conv=>lhs;simp[-List.map_set,QV]) (k:=?_))
    exact done_pure hwf (by simp [Ss.Fn.small, Ss.Fn.heads]; omega) rfl
  have hh : Ss.Fn.small ⟨⟨fi, fo⟩, ts, bs⟩ = Ss.smallFrom 0 bs := by
    have : Ss.Fn.heads ⟨⟨fi, fo⟩, ts, bs⟩ = true := by rw [shortL_3] at h1; simp [Ss.Fn.heads] at h1 ⊢; omega
    simp [Ss.Fn.small, this]
  rw [hh]
  refine QM (by conv=>lhs;simp[-List.map_set,QV,h1,h2]) ?_
  refine QN ?_
  repeat (first|refine QG ?_|refine QX (r:=by conv=>lhs;simp[-List.map_set,QV]) (k:=?_))
  refine vw_only' [3, 28, 29, 30] (by conv => lhs; simp [Fr.only, Fr.look]) ?_
  refine vw_gc [0] hwf (by decide) (by simp [-List.map_set]) (by conv => lhs; simp [-List.map_set]) (by conv => lhs; simp [-List.map_set]) (by conv => lhs; simp [-List.map_set]) ?_
  repeat refine QS ?_
  refine vw_loopAt [3, 28, 29, 30] rfl (fun c σ S' => ∃ (k n : Nat), k ≤ bs.length ∧ n ≤ 4096 ∧ c = bs.length - k ∧ Ss.smallFrom n (bs.drop k) = Ss.smallFrom 0 bs ∧ σ = [(3, vint (4096 - (n : Int))), (28, vl encBlock bs), (29, vnat bs.length), (30, vnat k)] ∧ S' = St S [] [some (4, [vl vint fi, vl vint fo, vl vint ts, vl encBlock bs])]) bs.length ?_ ?_
  · exact ⟨0, 0, by omega, by omega, rfl, rfl, by simp [Fr.only], rfl⟩
  · rintro c σ T ⟨k, n, hk, hn, rfl, hd, rfl, rfl⟩
    by_cases hkt : k < bs.length
    · have hw := wrapNat hkt hbl
      have hbk := hbf _ (List.getElem_mem hkt)
      have hst := Ss.drop_small (n := n) hkt
      obtain ⟨⟨ps, code, ⟨tk, ta, to, az⟩⟩, hb⟩ : ∃ b, bs[k] = b := ⟨_, rfl⟩
      rw [hb] at hst hbk
      obtain ⟨_, ⟨hcl0, _⟩, _, _, ⟨htl0, _⟩, _⟩ := hbk
      simp only at hcl0 htl0
      have hcl : code.length < 2^63 := by omega
      have htl : to.length < 2^63 := by omega
      have hwn : IntKind.i64.wrap (4096 - (n : Int) - (code.length : Int)) = 4096 - (n : Int) - (code.length : Int) := wrap_i64 (by omega) (by omega)
      have hS : Ss.Block.small ⟨ps, code, ⟨tk, ta, to, az⟩⟩ = (decide (ps.length ≤ 4096) && decide (to.length ≤ 4096) && decide (az.length ≤ 4096) && code.all Ss.Ins.small && to.all Ss.Edge.small) := rfl
      by_cases g1 : 4096 - (n : Int) - (code.length : Int) < 0
      · have e : Ss.smallFrom n (bs.drop k) = false := by rw [hst]; simp; omega
        rw [← hd, e]
        repeat (first|refine QG ?_|refine QX (r:=by conv=>lhs;simp[-List.map_set,QV,hkt,hb,hwn,g1]) (k:=?_))
        exact done_pure hwf rfl rfl
      repeat (first|refine QG ?_|refine QX (r:=by conv=>lhs;simp[-List.map_set,QV,hkt,hb,hwn,g1]) (k:=?_))
      repeat refine QS ?_
      refine QR (r:=by conv=>lhs;simp[-List.map_set,QV,hkt,hb,hwn,g1]) (k:=?_)
      refine vcall_useG (xs' := [vl (vl vint) [ps, az]]) rfl (GhostArgs.one [] [] (frz1 (k := 2) (len := 2) (by simp) rfl rfl rfl)) (short_v _ (by simp)) ?_
      simp only [List.set_cons_succ, List.set_cons_zero]
      cases g2 : Ss.shortL [ps, az] with
      | false =>
        have e : Ss.smallFrom n (bs.drop k) = false := by rw [shortL_2] at g2; rw [hst, hS]; simp at g2 ⊢; omega
        rw [← hd, e]
        refine QM (by conv=>lhs;simp[-List.map_set,QV,g2]) ?_
        refine QN ?_
        repeat (first|refine QG ?_|refine QX (r:=by conv=>lhs;simp[-List.map_set,QV]) (k:=?_))
        exact done_pure hwf rfl rfl
      | true =>
      by_cases g3 : (4096 : Int) < (to.length : Int)
      · have e : Ss.smallFrom n (bs.drop k) = false := by rw [hst, hS]; simp; omega
        rw [← hd, e]
        refine QM (by conv=>lhs;simp[-List.map_set,QV,g2,g3]) ?_
        refine QN ?_
        repeat (first|refine QG ?_|refine QX (r:=by conv=>lhs;simp[-List.map_set,QV]) (k:=?_))
        exact done_pure hwf rfl rfl
      rw [shortL_2] at g2
      have g2' : ps.length ≤ 4096 ∧ az.length ≤ 4096 := by simpa using g2
      rw [show decide (n + code.length ≤ 4096) = true by simp; omega, hS, show decide (ps.length ≤ 4096) = true by simp; omega, show decide (to.length ≤ 4096) = true by simp; omega, show decide (az.length ≤ 4096) = true by simp; omega, Bool.true_and, Bool.true_and, Bool.true_and, Bool.true_and] at hst
      rw [← shortL_2] at g2
      refine QM (by conv=>lhs;simp[-List.map_set,QV,g2,g3]) ?_
      refine QN ?_
      repeat (first|refine QG ?_|refine QX (r:=by conv=>lhs;simp[-List.map_set,QV]) (k:=?_))
      refine vw_only' [3, 5, 28, 29, 30, 59, 60, 61] (by conv => lhs; simp [Fr.only, Fr.look]) ?_
      refine vw_gc [0, 1] hwf (by decide) (by simp [-List.map_set]) (by conv => lhs; simp [-List.map_set]) (by conv => lhs; simp [-List.map_set]) (by conv => lhs; simp [-List.map_set]) ?_
      repeat refine QS ?_
      refine vw_loopAt [3, 5, 28, 29, 30, 59, 60, 61] rfl (fun c σ S' => ∃ (j : Nat), j ≤ code.length ∧ c = code.length - j ∧ (code.drop j).all Ss.Ins.small = code.all Ss.Ins.small ∧ σ = [(3, vint (4096 - (n : Int) - (code.length : Int))), (5, .ptr (lid S.nx 1) 0), (28, vl encBlock bs), (29, vnat bs.length), (30, vnat k), (59, vl encIns code), (60, vnat code.length), (61, vnat j)] ∧ S' = St S [] [some (4, [vl vint fi, vl vint fo, vl vint ts, vl encBlock bs]), some (6, [vl vint ps, vl encIns code, .int .i64 tk, .int .i64 ta, vl encEdge to, vl vint az])]) code.length ?_ ?_
      · exact ⟨0, by omega, rfl, rfl, by simp [Fr.only], rfl⟩
      · rintro c σ T ⟨j, hj, rfl, hdj, rfl, rfl⟩
        by_cases hjt : j < code.length
        · have hwj := wrapNat hjt hcl
          have hstj := Ss.drop_all Ss.Ins.small hjt
          obtain ⟨⟨io, iN, ia, iu⟩, hx⟩ : ∃ b, code[j] = b := ⟨_, rfl⟩
          rw [hx] at hstj
          have hX : Ss.Ins.small ⟨io, iN, ia, iu⟩ = Ss.shortL [ia, iu] := (shortL_2 _ _).symm
          rw [hX] at hstj
          repeat (first|refine QG ?_|refine QX (r:=by conv=>lhs;simp[-List.map_set,QV,hjt,hx]) (k:=?_))
          repeat refine QS ?_
          refine QR (r:=by conv=>lhs;simp[-List.map_set,QV,hjt,hx]) (k:=?_)
          refine vcall_useG (xs' := [vl (vl vint) [ia, iu]]) rfl (GhostArgs.one [] [] (frz1 (k := 3) (len := 2) (by simp) rfl rfl rfl)) (short_v _ (by simp)) ?_
          simp only [List.set_cons_succ, List.set_cons_zero]
          cases q1 : Ss.shortL [ia, iu] with
          | false =>
            rw [q1, Bool.false_and] at hstj
            have e : code.all Ss.Ins.small = false := by rw [← hdj, hstj]
            rw [← hd, hst, e]
            refine QM (by conv=>lhs;simp[-List.map_set,QV,q1]) ?_
            refine QN ?_
            repeat (first|refine QG ?_|refine QX (r:=by conv=>lhs;simp[-List.map_set,QV]) (k:=?_))
            exact done_pure hwf rfl rfl
          | true =>
            rw [q1, Bool.true_and] at hstj
            refine QM (by conv=>lhs;simp[-List.map_set,QV,q1]) ?_
            refine QN ?_
            repeat (first|refine QG ?_|refine QX (r:=by conv=>lhs;simp[-List.map_set,QV]) (k:=?_))
            refine QA [0, 1] (h:=⟨?_, j + 1, hjt, rfl, by rw [← hdj, hstj], by simp [hwj], rfl⟩)
            omega
        · rw [Ss.drop_all_end _ hjt] at hdj
          rw [← hdj, Bool.true_and] at hst
          repeat (first|refine QG ?_|refine QX (r:=by conv=>lhs;simp[-List.map_set,QV,hjt]) (k:=?_))
          repeat refine QS ?_
          refine vw_loopAt [3, 28, 29, 30, 75, 76, 77] rfl (fun c σ S' => ∃ (j : Nat), j ≤ to.length ∧ c = to.length - j ∧ (to.drop j).all Ss.Edge.small = to.all Ss.Edge.small ∧ σ = [(3, vint (4096 - (n : Int) - (code.length : Int))), (28, vl encBlock bs), (29, vnat bs.length), (30, vnat k), (75, vl encEdge to), (76, vnat to.length), (77, vnat j)] ∧ S' = St S [] [some (4, [vl vint fi, vl vint fo, vl vint ts, vl encBlock bs]), some (6, [vl vint ps, vl encIns code, .int .i64 tk, .int .i64 ta, vl encEdge to, vl vint az])]) to.length ?_ ?_
          · exact ⟨0, by omega, rfl, rfl, by simp [Fr.only], rfl⟩
          · rintro c σ T ⟨j, hj, rfl, hdj, rfl, rfl⟩
            by_cases hjt : j < to.length
            · have hwj := wrapNat hjt htl
              have hstj := Ss.drop_all Ss.Edge.small hjt
              obtain ⟨⟨io, ia⟩, hx⟩ : ∃ b, to[j] = b := ⟨_, rfl⟩
              rw [hx] at hstj
              have hX : Ss.Edge.small ⟨io, ia⟩ = Ss.shortL [ia] := (shortL_1 _).symm
              rw [hX] at hstj
              repeat (first|refine QG ?_|refine QX (r:=by conv=>lhs;simp[-List.map_set,QV,hjt,hx]) (k:=?_))
              repeat refine QS ?_
              refine QR (r:=by conv=>lhs;simp[-List.map_set,QV,hjt,hx]) (k:=?_)
              refine vcall_useG (xs' := [vl (vl vint) [ia]]) rfl (GhostArgs.one [] [] (frz1 (k := 3) (len := 1) (by simp) rfl rfl rfl)) (short_v _ (by simp)) ?_
              simp only [List.set_cons_succ, List.set_cons_zero]
              cases q1 : Ss.shortL [ia] with
              | false =>
                rw [q1, Bool.false_and] at hstj
                have e : to.all Ss.Edge.small = false := by rw [← hdj, hstj]
                rw [← hd, hst, e]
                refine QM (by conv=>lhs;simp[-List.map_set,QV,q1]) ?_
                refine QN ?_
                repeat (first|refine QG ?_|refine QX (r:=by conv=>lhs;simp[-List.map_set,QV]) (k:=?_))
                exact done_pure hwf rfl rfl
              | true =>
                rw [q1, Bool.true_and] at hstj
                refine QM (by conv=>lhs;simp[-List.map_set,QV,q1]) ?_
                refine QN ?_
                repeat (first|refine QG ?_|refine QX (r:=by conv=>lhs;simp[-List.map_set,QV]) (k:=?_))
                refine QA [0, 1] (h:=⟨?_, j + 1, hjt, rfl, by rw [← hdj, hstj], by simp [hwj], rfl⟩)
                omega
            · rw [Ss.drop_all_end _ hjt] at hdj
              rw [← hdj] at hst
              repeat (first|refine QG ?_|refine QX (r:=by conv=>lhs;simp[-List.map_set,QV,hjt,hw]) (k:=?_))
              refine QA [0] (h:=⟨?_, k + 1, n + code.length, hkt, by omega, rfl, by rw [← hd, hst, Bool.true_and], by simp; omega, rfl⟩)
              omega
    · rw [Ss.drop_small_end hkt] at hd
      rw [← hd]
      repeat (first|refine QG ?_|refine QX (r:=by conv=>lhs;simp[-List.map_set,QV,hkt]) (k:=?_))
      exact done_pure hwf rfl rfl
end Go.Vw

namespace Ss
def rowOf (b : Block) : List Int := b.term.to.map Edge.to
def succs (bs : List Block) : List (List Int) := bs.map rowOf
end Ss
namespace Go.Vw
open Go.Proofs Go.RowKit
set_option maxRecDepth 10000
set_option maxHeartbeats 4000000

theorem count_mem : ∀ {bs : List Ss.Block} {b : Ss.Block}, b ∈ bs → b.code.length ≤ Ss.count bs
  | x :: bs, b, h => by
    simp only [Ss.count, List.map_cons, List.sum_cons]
    rcases List.mem_cons.1 h with rfl | h
    · omega
    · have := count_mem h
      simp only [Ss.count] at this
      omega
theorem small_blocks {f : Ss.Fn} (h : f.small = true) : f.types.length ≤ 4096 ∧ f.blocks.length ≤ 4096 ∧ (∀ b ∈ f.blocks, b.params.length ≤ 4096 ∧ b.term.to.length ≤ 4096 ∧ b.term.args.length ≤ 4096 ∧ b.code.length ≤ 4096) ∧ Ss.count f.blocks ≤ 4096 := by
  obtain ⟨h1, h2, h3⟩ := (Ss.small_iff f).1 h
  simp only [Ss.Fn.heads, Bool.and_eq_true, decide_eq_true_eq] at h1
  refine ⟨h1.1.1.1, h1.1.1.2, fun b hb => ?_, h3⟩
  have := h2 b hb
  simp only [Ss.Block.small, Bool.and_eq_true, decide_eq_true_eq] at this
  refine ⟨this.1.1.1.1, this.1.1.1.2, this.1.1.2, ?_⟩
  exact Nat.le_trans (count_mem hb) h3

theorem Succ_v (f : Ss.Fn) (hf : f.Fits) : VPure Try.prog 28 [encFn f] (vl (vl vint) (if f.small then Ss.succs f.blocks else [])) := by
  intro S
  have cs := small_v f hf
  have hsb := @small_blocks f
  generalize f.small = sm at *
  obtain ⟨⟨fi, fo⟩, ts, bs⟩ := f
  have cs' : VPure Try.prog 16 [.agg [vl vint fi, vl vint fo, vl vint ts, vl encBlock bs]] (.bool sm) := cs
  by_cases hs : sm = true
  case neg =>
    rw [if_neg hs]
    have hs' : sm = false := by simpa using hs
    refine vcalls_start (c := bodyOf Try.f28) Try.func28 rfl rfl (by simp [Try.ntmps28]) ?_
    rw [Try.ntmps28]
    intro hwf
    repeat (first|refine QG ?_|refine QX (r:=by conv=>lhs;simp[-List.map_set,QV]) (k:=?_))
    repeat refine QS ?_
    refine QR (r:=by conv=>lhs;simp[-List.map_set,QV]) (k:=?_)
    refine vcall_useH (cs') (by rfl) ?_
    refine QM (by conv=>lhs;simp[-List.map_set,QV,hs']) ?_
    refine QN ?_
    repeat (first|refine QG ?_|refine QX (r:=by conv=>lhs;simp[-List.map_set,QV]) (k:=?_))
    exact done_via (l := [_]) hwf (Ghost.toB (Ghost.nils_list _) _) rfl
  rw [if_pos hs]
  obtain ⟨_, hbl, hbf, _⟩ := hsb hs
  simp only at hbl hbf ⊢
  refine vcalls_start (c := bodyOf Try.f28) Try.func28 rfl rfl (by simp [Try.ntmps28]) ?_
  rw [Try.ntmps28]
  intro hwf
  repeat (first|refine QG ?_|refine QX (r:=by conv=>lhs;simp[-List.map_set,QV]) (k:=?_))
  repeat refine QS ?_
  refine QR (r:=by conv=>lhs;simp[-List.map_set,QV]) (k:=?_)
  refine vcall_useH (cs') (by rfl) ?_
  refine QM (by conv=>lhs;simp[-List.map_set,QV,hs]) ?_
  refine QN ?_
  repeat refine QS ?_
  refine vw_condF rfl rfl rfl ?_
  repeat refine QS ?_
  refine vw_skipAt rfl ?_
  repeat refine QS ?_
  refine QR (r:=by conv=>lhs;simp[-List.map_set,QV]) (k:=?_)
  refine QN ?_
  refine vw_void 3 1 rfl (by conv => lhs; simp [Fr.set]) ?_
  repeat (first|refine QG ?_|refine QX (r:=by conv=>lhs;simp[-List.map_set,QV]) (k:=?_))
  refine vw_only' [3, 13, 14, 15] (by conv => lhs; simp [Fr.only, Fr.look]) ?_
  refine vw_gc [1] hwf (by decide) (by simp [-List.map_set]) (by conv => lhs; simp [-List.map_set]) (by conv => lhs; simp [-List.map_set]) (by conv => lhs; simp [-List.map_set]) ?_
  repeat refine QS ?_
  refine vw_loopAt [3, 13, 14, 15] rfl (fun c σ S' => ∃ (k : Nat) (out : List (List Int)), k ≤ bs.length ∧ c = bs.length - k ∧ out.length = k ∧ out = (bs.take k).map Ss.rowOf ∧ σ = [(3, .slice (lid S.nx 0) 0 k), (13, vl encBlock bs), (14, vnat bs.length), (15, vnat k)] ∧ S' = St S [] [some (1, out.map (vl vint))]) bs.length ?_ ?_
  · exact ⟨0, [], by omega, rfl, rfl, by simp, by simp [Fr.only], by simp⟩
  · rintro c σ T ⟨k, out, hk, rfl, hol, ho, rfl, rfl⟩
    by_cases hkt : k < bs.length
    · have hw := wrapNat hkt (by omega)
      obtain ⟨_, htl, _, _⟩ := hbf _ (List.getElem_mem hkt)
      obtain ⟨⟨ps, code, ⟨tk, ta, to, az⟩⟩, hx⟩ : ∃ b, bs[k] = b := ⟨_, rfl⟩
      rw [hx] at htl
      simp only at htl
      have htk : bs.take (k + 1) = bs.take k ++ [⟨ps, code, ⟨tk, ta, to, az⟩⟩] := by rw [List.take_add_one, List.getElem?_eq_getElem hkt, hx]; rfl
      repeat refine QS ?_
      refine QR (r:=by conv=>lhs;simp[-List.map_set,QV,hkt]) (k:=?_)
      refine QN ?_
      repeat refine QS ?_
      refine vw_condT rfl rfl rfl ?_
      repeat refine QS ?_
      refine vw_skipAt rfl ?_
      repeat refine QS ?_
      refine vw_blockAt 1 rfl rfl ?_
      repeat refine QS ?_
      refine QR (r:=by conv=>lhs;simp[-List.map_set,QV,hkt,hx]) (k:=?_)
      refine QN ?_
      repeat refine QS ?_
      refine QR (r:=by conv=>lhs;simp[-List.map_set,QV]) (k:=?_)
      refine QN ?_
      refine vw_void 6 1 rfl (by conv => lhs; simp [Fr.set]) ?_
      repeat (first|refine QG ?_|refine QX (r:=by conv=>lhs;simp[-List.map_set,QV]) (k:=?_))
      refine vw_only' [3, 6, 13, 14, 15, 21, 22, 23] (by conv => lhs; simp [Fr.only, Fr.look]) ?_
      refine vw_gc [0, 2] hwf (by decide) (by simp [-List.map_set]) (by conv => lhs; simp [-List.map_set]) (by conv => lhs; simp [-List.map_set]) (by conv => lhs; simp [-List.map_set]) ?_
      repeat refine QS ?_
      refine vw_loopAt [3, 6, 13, 14, 15, 21, 22, 23] rfl (fun c σ S' => ∃ (j : Nat) (r : List Int), j ≤ to.length ∧ c = to.length - j ∧ r.length = j ∧ r = (to.take j).map Ss.Edge.to ∧ σ = [(3, .slice (lid S.nx 0) 0 k), (6, .slice (lid S.nx 1) 0 j), (13, vl encBlock bs), (14, vnat bs.length), (15, vnat k), (21, vl encEdge to), (22, vnat to.length), (23, vnat j)] ∧ S' = St S [] [some (1, out.map (vl vint)), some (1, r.map vint)]) to.length ?_ ?_
      · exact ⟨0, [], by omega, rfl, rfl, by simp, by simp [Fr.only], by simp⟩
      · rintro c σ T ⟨j, r, hj, rfl, hrl, hr, rfl, rfl⟩
        by_cases hjt : j < to.length
        · have hwj := wrapNat hjt (by omega)
          have hb : (j + 1) * 8 ≤ 140737488355328 := by omega
          have hb' : j + 1 ≤ 140737488355328 := by omega
          obtain ⟨⟨xt, xa⟩, hx2⟩ : ∃ b, to[j] = b := ⟨_, rfl⟩
          have htj : to.take (j + 1) = to.take j ++ [⟨xt, xa⟩] := by rw [List.take_add_one, List.getElem?_eq_getElem hjt, hx2]; rfl
          repeat (first|refine QG ?_|refine QX (r:=by conv=>lhs;simp[-List.map_set,QV,hjt,hx2,hb,hb',hrl]) (k:=?_))
          refine QA [0, 4] (h:=⟨?_, j + 1, r ++ [xt], hjt, rfl, by simp [hrl], by rw [htj, List.map_append, hr]; rfl, by simp [hwj], by simp⟩)
          omega
        · have hje : j = to.length := by omega
          subst hje
          rw [List.take_length] at hr
          have hb : (k + 1) * 24 ≤ 140737488355328 := by omega
          have hb' : k + 1 ≤ 140737488355328 := by omega
          repeat refine QS ?_
          refine QR (r:=by conv=>lhs;simp[-List.map_set,QV,hjt]) (k:=?_)
          refine QN ?_
          repeat refine QS ?_
          refine vw_condF rfl rfl rfl ?_
          repeat refine QS ?_
          refine vw_exitAt 2 rfl rfl ?_
          refine vw_ghost' 6 rfl ((frz1 (k := 1) (len := to.length) (by simp) (by rfl) (all_closed1 vint (fun _ => rfl) _) (by simpa using hrl))) (by conv => lhs; simp [Fr.set]) ?_
          simp only [List.set_cons_succ, List.set_cons_zero]
          repeat (first|refine QG ?_|refine QX (r:=by conv=>lhs;simp[-List.map_set,QV,hb,hb',hol]) (k:=?_))
          refine QA [3] (h:=⟨?_, k + 1, out ++ [r], hkt, rfl, by simp [hol], by rw [htk, List.map_append, ← ho, hr]; rfl, by simp [hw], by simp [vl]⟩)
          omega
    · have hke : k = bs.length := by omega
      subst hke
      rw [List.take_length] at ho
      repeat (first|refine QG ?_|refine QX (r:=by conv=>lhs;simp[-List.map_set,QV,hkt]) (k:=?_))
      rw [Ss.succs, ← ho]
      exact done_via hwf ((frz1 (by simp) (by rfl) (all_closed1 (vl vint) (fun _ => rfl) _) (by simpa using hol)).toB _) rfl
end Go.Vw

namespace Go.Vw
open Go.Proofs Go.RowKit
set_option maxRecDepth 10000
set_option maxHeartbeats 4000000

theorem eqF_dec {α : Type} [DecidableEq α] (l m : List α) : eqF (fun x y => decide (x = y)) l m = decide (l = m) := eqF_eq (fun _ _ => rfl) l m

theorem Equal_v (l m : List Int) (hl : l.length < 2^63) : VPure Try.prog 17 [vl vint l, vl vint m] (.bool (decide (l = m))) := by
  intro S
  rw [← eqF_dec]
  generalize hp : (fun x y : Int => decide (x = y)) = p
  by_cases hlm : l.length = m.length
  · have hlm' : (l.length : Int) = (m.length : Int) := by omega
    refine vcalls_start (c := bodyOf Try.f17) Try.func17 rfl rfl (by simp [Try.ntmps17]) ?_
    rw [Try.ntmps17]
    intro hwf
    repeat (first|refine QG ?_|refine QX (r:=by conv=>lhs;simp[-List.map_set,QV,hlm,hlm']) (k:=?_))
    repeat refine QS ?_
    refine vw_loopAt [0, 1, 12, 13] rfl (fun c σ S' => ∃ (k : Nat), k ≤ l.length ∧ c = l.length - k ∧ eqF p (l.drop k) (m.drop k) = eqF p l m ∧ σ = [(0, vl vint l), (1, vl vint m), (12, vnat m.length), (13, vnat k)] ∧ S' = St S [] []) l.length ?_ ?_
    · exact ⟨0, by omega, rfl, rfl, by simp [Fr.only, hlm], rfl⟩
    · rintro c σ T ⟨k, hk, rfl, hd, rfl, rfl⟩
      by_cases hkt : k < l.length
      · have hkm : k < m.length := by omega
        have hw := wrapNat hkt hl
        have hst : eqF p (l.drop k) (m.drop k) = (p l[k] m[k] && eqF p (l.drop (k + 1)) (m.drop (k + 1))) := by rw [List.drop_eq_getElem_cons hkt, List.drop_eq_getElem_cons hkm, eqF]
        obtain ⟨x, hx⟩ : ∃ x, l[k] = x := ⟨_, rfl⟩
        obtain ⟨y, hy⟩ : ∃ y, m[k] = y := ⟨_, rfl⟩
        rw [hx, hy] at hst
        by_cases hxy : x = y
        · rw [show p x y = true by rw [← hp]; simp [hxy]] at hst
          repeat (first|refine QG ?_|refine QX (r:=by conv=>lhs;simp[-List.map_set,QV,hkt,hkm,hx,hy,hxy]) (k:=?_))
          show Again _ _ _ _ _ _ _
          exact again ⟨Nat.sub_lt_sub_left hkt (Nat.lt_succ_self k), k + 1, hkt, rfl, by rw [← hd, hst]; rfl, by simp [Fr.only, hw], rfl⟩
        · rw [show p x y = false by rw [← hp]; simp [hxy]] at hst
          repeat (first|refine QG ?_|refine QX (r:=by conv=>lhs;simp[-List.map_set,QV,hkt,hkm,hx,hy,hxy]) (k:=?_))
          exact done_pure hwf (by rw [← hd, hst]; rfl) rfl
      · have e : l.drop k = [] := by rw [List.drop_eq_nil_iff]; omega
        have e' : m.drop k = [] := by rw [List.drop_eq_nil_iff]; omega
        rw [e, e'] at hd
        have hkm : ¬ k < m.length := by omega
        repeat (first|refine QG ?_|refine QX (r:=by conv=>lhs;simp[-List.map_set,QV,hkt,hkm]) (k:=?_))
        exact done_pure hwf (by rw [← hd]; rfl) rfl
  · have hlm' : ¬ (l.length : Int) = (m.length : Int) := by omega
    have e : eqF p l m = false := eqF_len hlm
    rw [e]
    refine vcalls_start (c := bodyOf Try.f17) Try.func17 rfl rfl (by simp [Try.ntmps17]) ?_
    rw [Try.ntmps17]
    intro hwf
    repeat (first|refine QG ?_|refine QX (r:=by conv=>lhs;simp[-List.map_set,QV,hlm,hlm']) (k:=?_))
    exact done_pure hwf rfl rfl

theorem sameIns_v (x y : Ss.Ins) (h : x.args.length < 2^63) (h' : x.outs.length < 2^63) : VPure Try.prog 46 [encIns x, encIns y] (.bool (decide (x = y))) := by
  intro S
  obtain ⟨a1, a2, a3, a4⟩ := x
  obtain ⟨b1, b2, b3, b4⟩ := y
  simp only [Ss.Ins.mk.injEq] at *
  refine vcalls_start (c := bodyOf Try.f46) Try.func46 rfl rfl (by simp [Try.ntmps46]) ?_
  rw [Try.ntmps46]
  intro hwf
  by_cases h1 : a1 = b1
  · by_cases h2 : a2 = b2
    · by_cases h3 : a3 = b3
      · repeat (first|refine QG ?_|refine QX (r:=by conv=>lhs;simp[-List.map_set,QV,h1,h2]) (k:=?_))
        repeat refine QS ?_
        refine QR (r:=by conv=>lhs;simp[-List.map_set,QV,h1,h2]) (k:=?_)
        refine vcall_use rfl (Equal_v a3 b3 h) ?_
        refine QM (by conv=>lhs;simp[-List.map_set,QV,h3]) ?_
        refine vcall_use rfl (Equal_v a4 b4 h') ?_
        refine QM (by conv=>lhs;simp[-List.map_set,QV]) ?_
        refine QN ?_
        repeat (first|refine QG ?_|refine QX (r:=by conv=>lhs;simp[-List.map_set,QV]) (k:=?_))
        exact done_pure hwf (by simp [h1, h2, h3]) rfl
      · repeat (first|refine QG ?_|refine QX (r:=by conv=>lhs;simp[-List.map_set,QV,h1,h2]) (k:=?_))
        repeat refine QS ?_
        refine QR (r:=by conv=>lhs;simp[-List.map_set,QV,h1,h2]) (k:=?_)
        refine vcall_use rfl (Equal_v a3 b3 h) ?_
        refine QM (by conv=>lhs;simp[-List.map_set,QV,h3]) ?_
        refine QN ?_
        repeat (first|refine QG ?_|refine QX (r:=by conv=>lhs;simp[-List.map_set,QV]) (k:=?_))
        exact done_pure hwf (by simp [h3]) rfl
    · repeat (first|refine QG ?_|refine QX (r:=by conv=>lhs;simp[-List.map_set,QV,h1,h2]) (k:=?_))
      exact done_pure hwf (by simp [h2]) rfl
  · repeat (first|refine QG ?_|refine QX (r:=by conv=>lhs;simp[-List.map_set,QV,h1]) (k:=?_))
    exact done_pure hwf (by simp [h1]) rfl

theorem sameEdge_v (x y : Ss.Edge) (h : x.args.length < 2^63) : VPure Try.prog 48 [encEdge x, encEdge y] (.bool (decide (x = y))) := by
  intro S
  obtain ⟨a1, a2⟩ := x
  obtain ⟨b1, b2⟩ := y
  simp only [Ss.Edge.mk.injEq] at *
  refine vcalls_start (c := bodyOf Try.f48) Try.func48 rfl rfl (by simp [Try.ntmps48]) ?_
  rw [Try.ntmps48]
  intro hwf
  by_cases h1 : a1 = b1
  · repeat (first|refine QG ?_|refine QX (r:=by conv=>lhs;simp[-List.map_set,QV,h1]) (k:=?_))
    repeat refine QS ?_
    refine QR (r:=by conv=>lhs;simp[-List.map_set,QV,h1]) (k:=?_)
    refine vcall_use rfl (Equal_v a2 b2 h) ?_
    refine QM (by conv=>lhs;simp[-List.map_set,QV]) ?_
    refine QN ?_
    repeat (first|refine QG ?_|refine QX (r:=by conv=>lhs;simp[-List.map_set,QV]) (k:=?_))
    exact done_pure hwf (by simp [h1]) rfl
  · repeat (first|refine QG ?_|refine QX (r:=by conv=>lhs;simp[-List.map_set,QV,h1]) (k:=?_))
    exact done_pure hwf (by simp [h1]) rfl
end Go.Vw
