import Derived.Test.YtgnoiaekmmfnmaaVSimp
import Derived.Test.YtgnoiaekmmfnmaaGDom2
set_option linter.unusedVariables false
set_option linter.unusedSimpArgs false
namespace Go.Vw
open Go.Proofs Go.RowKit
set_option maxRecDepth 10000
set_option maxHeartbeats 4000000

theorem wild_v (g : List (List Int)) (n : Int) : VPure Try.prog 28 [vint n, .ref (vl (vl vint) g)] (.bool (G.wild g.length n)) := by
  intro S
  refine vcalls_gives rfl ?_
  refine vcalls_body (c := bodyOf Try.f28) Try.func28 rfl rfl (by simp [Try.ntmps28]) ?_
  rw [Try.ntmps28]
  repeat refine vw_seqAt rfl ?_
  refine vw_regionRun rfl (by conv => lhs; reduce) (by conv => lhs; simp [-List.map_set, set_vnat, set_vnat1, set_vint, set_bool]) ?_
  refine vseg_done ?_
  by_cases h0 : n < 0
  · repeat refine vw_seqAt rfl ?_
    refine vw_regionRun rfl (by conv => lhs; reduce) (by conv => lhs; simp [-List.map_set, set_vnat, set_vnat1, set_vint, set_bool, opLen_vl, h0]) ?_
    refine vseg_done ?_
    repeat refine vw_seqAt rfl ?_
    refine vw_retAt rfl ?_
    have : G.wild g.length n = true := by simp [G.wild, h0]
    rw [this]
    exact Gives.same (Agree.refl S)
  · repeat refine vw_seqAt rfl ?_
    refine vw_regionRun rfl (by conv => lhs; reduce) (by conv => lhs; simp [-List.map_set, set_vnat, set_vnat1, set_vint, set_bool, opLen_vl, h0]) ?_
    refine vseg_done ?_
    repeat refine vw_seqAt rfl ?_
    refine vw_retAt rfl ?_
    have : G.wild g.length n = decide ((g.length : Int) ≤ n) := by simp [G.wild, h0]
    rw [this]
    exact Gives.same (Agree.refl S)

theorem IndexWild_v (g : List (List Int)) (l : List Int) (hl : l.length < 2^63) : VPure Try.prog 34 [vl vint l, .func 28 [.ref (vl (vl vint) g)]] (vint (G.find (G.wild g.length) l 0)) := by
  intro S
  refine vcalls_gives rfl ?_
  refine vcalls_body (c := bodyOf Try.f34) Try.func34 rfl rfl (by simp [Try.ntmps34]) ?_
  rw [Try.ntmps34]
  repeat refine vw_seqAt rfl ?_
  refine vw_regionRun rfl (by conv => lhs; reduce) (by conv => lhs; simp [-List.map_set, set_vnat, set_vnat1, set_vint, set_bool]) ?_
  refine vseg_done ?_
  repeat refine vw_seqAt rfl ?_
  refine vw_regionRun rfl (by conv => lhs; reduce) (by conv => lhs; simp [-List.map_set, set_vnat, set_vnat1, set_vint, set_bool, opLen_vl]) ?_
  refine vseg_done ?_
  repeat refine vw_seqAt rfl ?_
  refine vw_blockAt 0 rfl rfl ?_
  repeat refine vw_seqAt rfl ?_
  refine vw_loopAt [0, 1, 7, 8] rfl (fun n σ S' => ∃ (k : Nat), k ≤ l.length ∧ n = l.length - k ∧ G.find (G.wild g.length) (l.drop k) k = G.find (G.wild g.length) l 0 ∧ σ = [(0, vl vint l), (1, .func 28 [.ref (vl (vl vint) g)]), (7, vnat l.length), (8, vnat k)] ∧ S' = S) l.length ?_ ?_
  · exact ⟨0, by omega, rfl, rfl, by simp [Fr.only, Fr.look, vnat, vint], rfl⟩
  · rintro n σ S' ⟨k, hk, rfl, hd, rfl, rfl⟩
    by_cases hk6 : k < l.length
    · have h7 : (k : Int) < (l.length : Int) := by omega
      have hst : G.find (G.wild g.length) (l.drop k) k = if G.wild g.length l[k] then (k : Int) else G.find (G.wild g.length) (l.drop (k + 1)) (k + 1) := by
        rw [List.drop_eq_getElem_cons hk6, G.find]
      have hw : IntKind.i64.wrap ((k : Int) + 1) = (k : Int) + 1 := wrap_i64 (by omega) (by omega)
      repeat refine vw_seqAt rfl ?_
      refine vw_regionRun rfl (by conv => lhs; reduce) (by conv => lhs; simp [-List.map_set, set_vnat, set_vnat1, set_vint, set_bool, h7]) ?_
      refine vseg_done ?_
      repeat refine vw_seqAt rfl ?_
      refine vw_condT rfl rfl rfl ?_
      repeat refine vw_seqAt rfl ?_
      refine vw_skipAt rfl ?_
      repeat refine vw_seqAt rfl ?_
      refine vw_blockAt 1 rfl rfl ?_
      repeat refine vw_seqAt rfl ?_
      refine vw_regionRun rfl (by conv => lhs; reduce) (by conv => lhs; simp [-List.map_set, set_vnat, set_vnat1, set_vint, set_bool]) ?_
      refine vseg_done ?_
      repeat refine vw_seqAt rfl ?_
      refine vw_regionRun rfl (by conv => lhs; reduce) (by conv => lhs; simp [-List.map_set, set_vnat, set_vnat1, set_vint, set_bool, opIndex_vl, hk6]) ?_
      refine vcallv_use rfl rfl rfl (wild_v g l[k]) ?_
      refine vseg_more (by conv => lhs; simp [-List.map_set, set_vnat, set_vnat1, set_vint, set_bool]) ?_
      refine vseg_done ?_
      by_cases hc : G.wild g.length l[k] = true
      · refine vw_condT rfl rfl (by simp [ev, Fr.look, hc]) ?_
        repeat refine vw_seqAt rfl ?_
        refine vw_regionRun rfl (by conv => lhs; reduce) (by conv => lhs; simp [-List.map_set, set_vnat, set_vnat1, set_vint, set_bool]) ?_
        refine vseg_done ?_
        repeat refine vw_seqAt rfl ?_
        refine vw_retAt rfl ?_
        rw [← hd, hst, if_pos hc]
        exact Gives.same (Agree.refl S')
      · rw [if_neg hc] at hst
        refine vw_condF rfl rfl (by simp [ev, Fr.look, hc]) ?_
        repeat refine vw_seqAt rfl ?_
        refine vw_skipAt rfl ?_
        repeat refine vw_seqAt rfl ?_
        refine vw_regionRun rfl (by conv => lhs; reduce) (by conv => lhs; simp [-List.map_set, set_vnat, set_vnat1, set_vint, set_bool, hw]) ?_
        refine vseg_done ?_
        exact again ⟨Nat.sub_lt_sub_left (by omega) (Nat.lt_succ_self k), k + 1, by omega, rfl, by rw [← hd, hst], by simp [Fr.only, Fr.look, vnat, vint], rfl⟩
    · have h7 : ¬ (k : Int) < (l.length : Int) := by omega
      repeat refine vw_seqAt rfl ?_
      refine vw_regionRun rfl (by conv => lhs; reduce) (by conv => lhs; simp [-List.map_set, set_vnat, set_vnat1, set_vint, set_bool, h7]) ?_
      refine vseg_done ?_
      repeat refine vw_seqAt rfl ?_
      refine vw_condF rfl rfl rfl ?_
      repeat refine vw_seqAt rfl ?_
      refine vw_exitAt 0 rfl rfl ?_
      repeat refine vw_seqAt rfl ?_
      refine vw_regionRun rfl (by conv => lhs; reduce) (by conv => lhs; simp [-List.map_set, set_vnat, set_vnat1, set_vint, set_bool]) ?_
      refine vseg_done ?_
      repeat refine vw_seqAt rfl ?_
      refine vw_retAt rfl ?_
      have : l.drop k = [] := by rw [List.drop_eq_nil_iff]; omega
      rw [← hd, this]
      exact Gives.same (Agree.refl S')

theorem AnyWild_v (g : List (List Int)) (l : List Int) (hl : l.length < 2^63) : VPure Try.prog 27 [vl vint l, .func 28 [.ref (vl (vl vint) g)]] (.bool (l.any (G.wild g.length))) := by
  intro S
  refine vcalls_gives rfl ?_
  refine vcalls_body (c := bodyOf Try.f27) Try.func27 rfl rfl (by simp [Try.ntmps27]) ?_
  rw [Try.ntmps27]
  rw [← G.find_any (G.wild g.length) l 0]
  repeat refine vw_seqAt rfl ?_
  refine vw_regionRun rfl (by conv => lhs; reduce) (by conv => lhs; simp [-List.map_set, set_vnat, set_vnat1, set_vint, set_bool]) ?_
  refine vseg_done ?_
  repeat refine vw_seqAt rfl ?_
  refine vw_regionRun rfl (by conv => lhs; reduce) (by conv => lhs; simp [-List.map_set, set_vnat, set_vnat1, set_vint, set_bool]) ?_
  refine vcall_use rfl (IndexWild_v g l hl) ?_
  refine vseg_more (by conv => lhs; simp [-List.map_set, set_vnat, set_vnat1, set_vint, set_bool]) ?_
  refine vseg_done ?_
  repeat refine vw_seqAt rfl ?_
  refine vw_retAt rfl ?_
  exact Gives.same (Agree.refl S)
end Go.Vw

set_option linter.unusedVariables false
set_option linter.unusedSimpArgs false
namespace Go.Vw
open Go.Proofs Go.RowKit
set_option maxRecDepth 10000
set_option maxHeartbeats 4000000

theorem Right_v (g : List (List Int)) (hg : g.length < 2^63) (hl : ∀ l ∈ g, l.length < 2^63) : VPure Try.prog 14 [vl (vl vint) g] (.bool (G.right g)) := by
  intro S
  refine vcalls_gives rfl ?_
  refine vcalls_body (c := bodyOf Try.f14) Try.func14 rfl rfl (by simp [Try.ntmps14]) ?_
  rw [Try.ntmps14]
  repeat refine vw_seqAt rfl ?_
  refine vw_regionRun rfl (by conv => lhs; reduce) (by conv => lhs; simp [-List.map_set, set_vnat, set_vnat1, set_vint, set_bool]) ?_
  refine vseg_done ?_
  refine vw_ghost' 1 rfl (Ghost.box (get_add _ _) (closed1_vl _ _)) (by conv => lhs; simp [Fr.set]) ?_
  have hag : Agree S ((S.add (1, [vl (vl vint) g])).del S.nx) := ((Agree.refl S).add _).del (Nat.le_refl _)
  generalize (S.add (1, [vl (vl vint) g])).del S.nx = S1 at hag ⊢
  by_cases h0 : (g.length : Int) = 0
  · have hq : ((g.length : Int) == 0) = true := by simp [h0]
    repeat refine vw_seqAt rfl ?_
    refine vw_regionRun rfl (by conv => lhs; reduce) (by conv => lhs; simp [-List.map_set, set_vnat, set_vnat1, set_vint, set_bool, opLen_vl, hq]) ?_
    refine vseg_done ?_
    repeat refine vw_seqAt rfl ?_
    refine vw_condT rfl rfl rfl ?_
    repeat refine vw_seqAt rfl ?_
    refine vw_regionRun rfl (by conv => lhs; reduce) (by conv => lhs; simp [-List.map_set, set_vnat, set_vnat1, set_vint, set_bool]) ?_
    refine vseg_done ?_
    repeat refine vw_seqAt rfl ?_
    refine vw_retAt rfl ?_
    have : G.right g = false := by simp [G.right]; omega
    rw [this]
    exact Gives.same hag
  · have hq : ((g.length : Int) == 0) = false := by simpa using h0
    by_cases h1 : (256 : Int) < g.length
    · repeat refine vw_seqAt rfl ?_
      refine vw_regionRun rfl (by conv => lhs; reduce) (by conv => lhs; simp [-List.map_set, set_vnat, set_vnat1, set_vint, set_bool, opLen_vl, hq, h1]) ?_
      refine vseg_done ?_
      repeat refine vw_seqAt rfl ?_
      refine vw_condT rfl rfl rfl ?_
      repeat refine vw_seqAt rfl ?_
      refine vw_regionRun rfl (by conv => lhs; reduce) (by conv => lhs; simp [-List.map_set, set_vnat, set_vnat1, set_vint, set_bool]) ?_
      refine vseg_done ?_
      repeat refine vw_seqAt rfl ?_
      refine vw_retAt rfl ?_
      have : G.right g = false := by simp [G.right]; omega
      rw [this]
      exact Gives.same hag
    · have hfin : G.right g = g.all (G.rowOk g.length) := by
        have a1 : decide (1 ≤ g.length) = true := by simp; omega
        have a2 : decide (g.length ≤ 256) = true := by simp; omega
        simp [G.right, a1, a2]
      rw [hfin]
      repeat refine vw_seqAt rfl ?_
      refine vw_regionRun rfl (by conv => lhs; reduce) (by conv => lhs; simp [-List.map_set, set_vnat, set_vnat1, set_vint, set_bool, opLen_vl, hq, h1]) ?_
      refine vseg_done ?_
      repeat refine vw_seqAt rfl ?_
      refine vw_condF rfl rfl rfl ?_
      repeat refine vw_seqAt rfl ?_
      refine vw_skipAt rfl ?_
      repeat refine vw_seqAt rfl ?_
      refine vw_regionRun rfl (by conv => lhs; reduce) (by conv => lhs; simp [-List.map_set, set_vnat, set_vnat1, set_vint, set_bool, opLen_vl]) ?_
      refine vseg_done ?_
      repeat refine vw_seqAt rfl ?_
      refine vw_blockAt 0 rfl rfl ?_
      repeat refine vw_seqAt rfl ?_
      refine vw_loopAt [0, 1, 13, 14, 15] rfl (fun n σ S' => ∃ (k : Nat), k ≤ g.length ∧ n = g.length - k ∧ (g.drop k).all (G.rowOk g.length) = g.all (G.rowOk g.length) ∧ σ = [(0, vl (vl vint) g), (1, .ref (vl (vl vint) g)), (13, vl (vl vint) g), (14, vnat g.length), (15, vnat k)] ∧ S' = S1) g.length ?_ ?_
      · exact ⟨0, by omega, rfl, rfl, by simp [Fr.only, Fr.look, vnat, vint], rfl⟩
      · rintro n σ S' ⟨k, hk, rfl, hd, rfl, rfl⟩
        by_cases hk6 : k < g.length
        · have h7 : (k : Int) < (g.length : Int) := by omega
          have hst : (g.drop k).all (G.rowOk g.length) = (G.rowOk g.length g[k] && (g.drop (k + 1)).all (G.rowOk g.length)) := by
            rw [List.drop_eq_getElem_cons hk6, List.all_cons]
          have hw : IntKind.i64.wrap ((k : Int) + 1) = (k : Int) + 1 := wrap_i64 (by omega) (by omega)
          have hlk : g[k].length < 2^63 := hl _ (List.getElem_mem hk6)
          repeat refine vw_seqAt rfl ?_
          refine vw_regionRun rfl (by conv => lhs; reduce) (by conv => lhs; simp [-List.map_set, set_vnat, set_vnat1, set_vint, set_bool, h7]) ?_
          refine vseg_done ?_
          repeat refine vw_seqAt rfl ?_
          refine vw_condT rfl rfl rfl ?_
          repeat refine vw_seqAt rfl ?_
          refine vw_skipAt rfl ?_
          repeat refine vw_seqAt rfl ?_
          refine vw_blockAt 1 rfl rfl ?_
          repeat refine vw_seqAt rfl ?_
          refine vw_regionRun rfl (by conv => lhs; reduce) (by conv => lhs; simp [-List.map_set, set_vnat, set_vnat1, set_vint, set_bool, opIndex_vl, hk6]) ?_
          refine vseg_done ?_
          by_cases h2 : (128 : Int) < g[k].length
          · repeat refine vw_seqAt rfl ?_
            refine vw_regionRun rfl (by conv => lhs; reduce) (by conv => lhs; simp [-List.map_set, set_vnat, set_vnat1, set_vint, set_bool, opLen_vl, h2]) ?_
            refine vseg_done ?_
            repeat refine vw_seqAt rfl ?_
            refine vw_condT rfl rfl rfl ?_
            repeat refine vw_seqAt rfl ?_
            refine vw_regionRun rfl (by conv => lhs; reduce) (by conv => lhs; simp [-List.map_set, set_vnat, set_vnat1, set_vint, set_bool]) ?_
            refine vseg_done ?_
            repeat refine vw_seqAt rfl ?_
            refine vw_retAt rfl ?_
            have : G.rowOk g.length g[k] = false := by simp [G.rowOk]; omega
            rw [← hd, hst, this]
            exact Gives.same hag
          · have h3 : G.rowOk g.length g[k] = !(g[k].any (G.wild g.length)) := by
              have : decide (g[k].length ≤ 128) = true := by simp; omega
              simp [G.rowOk, this]
            rw [h3] at hst
            repeat refine vw_seqAt rfl ?_
            refine vw_regionRun rfl (by conv => lhs; reduce) (by conv => lhs; simp [-List.map_set, set_vnat, set_vnat1, set_vint, set_bool, opLen_vl, h2]) ?_
            refine vcall_use rfl (AnyWild_v g g[k] hlk) ?_
            refine vseg_more (by conv => lhs; simp [-List.map_set, set_vnat, set_vnat1, set_vint, set_bool]) ?_
            refine vseg_done ?_
            cases hc : g[k].any (G.wild g.length)
            · rw [hc] at hst
              refine vw_condF rfl rfl (by simp [ev, Fr.look, hc]) ?_
              repeat refine vw_seqAt rfl ?_
              refine vw_skipAt rfl ?_
              repeat refine vw_seqAt rfl ?_
              refine vw_regionRun rfl (by conv => lhs; reduce) (by conv => lhs; simp [-List.map_set, set_vnat, set_vnat1, set_vint, set_bool, hw]) ?_
              refine vseg_done ?_
              exact again ⟨Nat.sub_lt_sub_left (by omega) (Nat.lt_succ_self k), k + 1, by omega, rfl, by rw [← hd, hst]; rfl, by simp [Fr.only, Fr.look, vnat, vint], rfl⟩
            · rw [hc] at hst
              refine vw_condT rfl rfl (by simp [ev, Fr.look, hc]) ?_
              repeat refine vw_seqAt rfl ?_
              refine vw_regionRun rfl (by conv => lhs; reduce) (by conv => lhs; simp [-List.map_set, set_vnat, set_vnat1, set_vint, set_bool]) ?_
              refine vseg_done ?_
              repeat refine vw_seqAt rfl ?_
              refine vw_retAt rfl ?_
              rw [← hd, hst]
              exact Gives.same hag
        · have h7 : ¬ (k : Int) < (g.length : Int) := by omega
          repeat refine vw_seqAt rfl ?_
          refine vw_regionRun rfl (by conv => lhs; reduce) (by conv => lhs; simp [-List.map_set, set_vnat, set_vnat1, set_vint, set_bool, h7]) ?_
          refine vseg_done ?_
          repeat refine vw_seqAt rfl ?_
          refine vw_condF rfl rfl rfl ?_
          repeat refine vw_seqAt rfl ?_
          refine vw_exitAt 0 rfl rfl ?_
          repeat refine vw_seqAt rfl ?_
          refine vw_regionRun rfl (by conv => lhs; reduce) (by conv => lhs; simp [-List.map_set, set_vnat, set_vnat1, set_vint, set_bool]) ?_
          refine vseg_done ?_
          repeat refine vw_seqAt rfl ?_
          refine vw_retAt rfl ?_
          have : g.drop k = [] := by rw [List.drop_eq_nil_iff]; omega
          rw [← hd, this]
          exact Gives.same hag
end Go.Vw

set_option linter.unusedVariables false
set_option linter.unusedSimpArgs false
namespace Go.Vw
open Go.Proofs Go.RowKit
set_option maxRecDepth 10000
set_option maxHeartbeats 4000000

theorem RRight_v (g : List (List Int)) (hg : g.length < 2^63) (hl : ∀ l ∈ g, l.length < 2^63) : VPure Try.prog 15 [vl (vl vint) g] (.bool (G.right g)) := by
  intro S
  refine vcalls_gives rfl ?_
  refine vcalls_body (c := bodyOf Try.f15) Try.func15 rfl rfl (by simp [Try.ntmps15]) ?_
  rw [Try.ntmps15]
  repeat refine vw_seqAt rfl ?_
  refine vw_regionRun rfl (by conv => lhs; reduce) (by conv => lhs; simp [-List.map_set, set_vnat, set_vnat1, set_vint, set_bool]) ?_
  refine vseg_done ?_
  by_cases h0 : (g.length : Int) < 1
  · repeat refine vw_seqAt rfl ?_
    refine vw_regionRun rfl (by conv => lhs; reduce) (by conv => lhs; simp [-List.map_set, set_vnat, set_vnat1, set_vint, set_bool, opLen_vl, h0]) ?_
    refine vseg_done ?_
    repeat refine vw_seqAt rfl ?_
    refine vw_condT rfl rfl rfl ?_
    repeat refine vw_seqAt rfl ?_
    refine vw_regionRun rfl (by conv => lhs; reduce) (by conv => lhs; simp [-List.map_set, set_vnat, set_vnat1, set_vint, set_bool]) ?_
    refine vseg_done ?_
    repeat refine vw_seqAt rfl ?_
    refine vw_retAt rfl ?_
    have : G.right g = false := by simp [G.right]; omega
    rw [this]
    exact Gives.same (Agree.refl S)
  · by_cases h1 : (256 : Int) < g.length
    · repeat refine vw_seqAt rfl ?_
      refine vw_regionRun rfl (by conv => lhs; reduce) (by conv => lhs; simp [-List.map_set, set_vnat, set_vnat1, set_vint, set_bool, opLen_vl, h0, h1]) ?_
      refine vseg_done ?_
      repeat refine vw_seqAt rfl ?_
      refine vw_condT rfl rfl rfl ?_
      repeat refine vw_seqAt rfl ?_
      refine vw_regionRun rfl (by conv => lhs; reduce) (by conv => lhs; simp [-List.map_set, set_vnat, set_vnat1, set_vint, set_bool]) ?_
      refine vseg_done ?_
      repeat refine vw_seqAt rfl ?_
      refine vw_retAt rfl ?_
      have : G.right g = false := by simp [G.right]; omega
      rw [this]
      exact Gives.same (Agree.refl S)
    · have hfin : G.right g = g.all (G.rowOk g.length) := by
        have a1 : decide (1 ≤ g.length) = true := by simp; omega
        have a2 : decide (g.length ≤ 256) = true := by simp; omega
        simp [G.right, a1, a2]
      rw [hfin]
      repeat refine vw_seqAt rfl ?_
      refine vw_regionRun rfl (by conv => lhs; reduce) (by conv => lhs; simp [-List.map_set, set_vnat, set_vnat1, set_vint, set_bool, opLen_vl, h0, h1]) ?_
      refine vseg_done ?_
      repeat refine vw_seqAt rfl ?_
      refine vw_condF rfl rfl rfl ?_
      repeat refine vw_seqAt rfl ?_
      refine vw_skipAt rfl ?_
      repeat refine vw_seqAt rfl ?_
      refine vw_regionRun rfl (by conv => lhs; reduce) (by conv => lhs; simp [-List.map_set, set_vnat, set_vnat1, set_vint, set_bool]) ?_
      refine vseg_done ?_
      repeat refine vw_seqAt rfl ?_
      refine vw_blockAt 0 rfl rfl ?_
      repeat refine vw_seqAt rfl ?_
      refine vw_loopAt [0, 3] rfl (fun n σ S' => ∃ (k : Nat), k ≤ g.length ∧ n = g.length - k ∧ (g.drop k).all (G.rowOk g.length) = g.all (G.rowOk g.length) ∧ σ = [(0, vl (vl vint) g), (3, vnat k)] ∧ S' = S) g.length ?_ ?_
      · exact ⟨0, by omega, rfl, rfl, by simp [Fr.only, Fr.look, vnat, vint], rfl⟩
      · rintro n σ S' ⟨k, hk, rfl, hd, rfl, rfl⟩
        by_cases hk6 : k < g.length
        · have h7 : (k : Int) < (g.length : Int) := by omega
          have hst : (g.drop k).all (G.rowOk g.length) = (G.rowOk g.length g[k] && (g.drop (k + 1)).all (G.rowOk g.length)) := by
            rw [List.drop_eq_getElem_cons hk6, List.all_cons]
          have hw : IntKind.i64.wrap ((k : Int) + 1) = (k : Int) + 1 := wrap_i64 (by omega) (by omega)
          have hlk : g[k].length < 2^63 := hl _ (List.getElem_mem hk6)
          repeat refine vw_seqAt rfl ?_
          refine vw_regionRun rfl (by conv => lhs; reduce) (by conv => lhs; simp [-List.map_set, set_vnat, set_vnat1, set_vint, set_bool, opLen_vl, h7]) ?_
          refine vseg_done ?_
          repeat refine vw_seqAt rfl ?_
          refine vw_condT rfl rfl rfl ?_
          repeat refine vw_seqAt rfl ?_
          refine vw_skipAt rfl ?_
          repeat refine vw_seqAt rfl ?_
          refine vw_blockAt 1 rfl rfl ?_
          by_cases h2 : (128 : Int) < g[k].length
          · repeat refine vw_seqAt rfl ?_
            refine vw_regionRun rfl (by conv => lhs; reduce) (by conv => lhs; simp [-List.map_set, set_vnat, set_vnat1, set_vint, set_bool, opIndex_vl, hk6, opLen_vl, h2]) ?_
            refine vseg_done ?_
            repeat refine vw_seqAt rfl ?_
            refine vw_condT rfl rfl rfl ?_
            repeat refine vw_seqAt rfl ?_
            refine vw_regionRun rfl (by conv => lhs; reduce) (by conv => lhs; simp [-List.map_set, set_vnat, set_vnat1, set_vint, set_bool]) ?_
            refine vseg_done ?_
            repeat refine vw_seqAt rfl ?_
            refine vw_retAt rfl ?_
            have : G.rowOk g.length g[k] = false := by simp [G.rowOk]; omega
            rw [← hd, hst, this]
            exact Gives.same (Agree.refl S')
          · have h3 : G.rowOk g.length g[k] = !(g[k].any (G.wild g.length)) := by
              have : decide (g[k].length ≤ 128) = true := by simp; omega
              simp [G.rowOk, this]
            rw [h3] at hst
            repeat refine vw_seqAt rfl ?_
            refine vw_regionRun rfl (by conv => lhs; reduce) (by conv => lhs; simp [-List.map_set, set_vnat, set_vnat1, set_vint, set_bool, opIndex_vl, hk6, opLen_vl, h2]) ?_
            refine vseg_done ?_
            repeat refine vw_seqAt rfl ?_
            refine vw_condF rfl rfl rfl ?_
            repeat refine vw_seqAt rfl ?_
            refine vw_skipAt rfl ?_
            repeat refine vw_seqAt rfl ?_
            refine vw_regionRun rfl (by conv => lhs; reduce) (by conv => lhs; simp [-List.map_set, set_vnat, set_vnat1, set_vint, set_bool]) ?_
            refine vseg_done ?_
            repeat refine vw_seqAt rfl ?_
            refine vw_blockAt 2 rfl rfl ?_
            repeat refine vw_seqAt rfl ?_
            refine vw_loopAt [0, 3, 4] rfl (fun n σ S'' => ∃ (j : Nat), j ≤ g[k].length ∧ n = g[k].length - j ∧ (g[k].drop j).any (G.wild g.length) = g[k].any (G.wild g.length) ∧ σ = [(0, vl (vl vint) g), (3, vnat k), (4, vnat j)] ∧ S'' = S') g[k].length ?_ ?_
            · exact ⟨0, by omega, rfl, rfl, by simp [Fr.only, Fr.look, vnat, vint], rfl⟩
            · rintro n σ S'' ⟨j, hj, rfl, he, rfl, rfl⟩
              by_cases hj6 : j < g[k].length
              · have i7 : (j : Int) < (g[k].length : Int) := by omega
                have ist : (g[k].drop j).any (G.wild g.length) = (G.wild g.length g[k][j] || (g[k].drop (j + 1)).any (G.wild g.length)) := by
                  rw [List.drop_eq_getElem_cons hj6, List.any_cons]
                have iw : IntKind.i64.wrap ((j : Int) + 1) = (j : Int) + 1 := wrap_i64 (by omega) (by omega)
                repeat refine vw_seqAt rfl ?_
                refine vw_regionRun rfl (by conv => lhs; reduce) (by conv => lhs; simp [-List.map_set, set_vnat, set_vnat1, set_vint, set_bool, opIndex_vl, hk6, opLen_vl, i7]) ?_
                refine vseg_done ?_
                repeat refine vw_seqAt rfl ?_
                refine vw_condT rfl rfl rfl ?_
                repeat refine vw_seqAt rfl ?_
                refine vw_skipAt rfl ?_
                repeat refine vw_seqAt rfl ?_
                refine vw_blockAt 3 rfl rfl ?_
                by_cases n0 : g[k][j] < 0
                · repeat refine vw_seqAt rfl ?_
                  refine vw_regionRun rfl (by conv => lhs; reduce) (by conv => lhs; simp [-List.map_set, set_vnat, set_vnat1, set_vint, set_bool, opIndex_vl, hk6, opIndex_vl, hj6, n0]) ?_
                  refine vseg_done ?_
                  repeat refine vw_seqAt rfl ?_
                  refine vw_condT rfl rfl rfl ?_
                  repeat refine vw_seqAt rfl ?_
                  refine vw_regionRun rfl (by conv => lhs; reduce) (by conv => lhs; simp [-List.map_set, set_vnat, set_vnat1, set_vint, set_bool]) ?_
                  refine vseg_done ?_
                  repeat refine vw_seqAt rfl ?_
                  refine vw_retAt rfl ?_
                  have : G.wild g.length g[k][j] = true := by simp [G.wild, n0]
                  rw [← hd, hst, ← he, ist, this]
                  exact Gives.same (Agree.refl S'')
                · by_cases n1 : (g.length : Int) ≤ g[k][j]
                  · repeat refine vw_seqAt rfl ?_
                    refine vw_regionRun rfl (by conv => lhs; reduce) (by conv => lhs; simp [-List.map_set, set_vnat, set_vnat1, set_vint, set_bool, opIndex_vl, hk6, opIndex_vl, hj6, n0, opLen_vl, n1]) ?_
                    refine vseg_done ?_
                    repeat refine vw_seqAt rfl ?_
                    refine vw_condT rfl rfl rfl ?_
                    repeat refine vw_seqAt rfl ?_
                    refine vw_regionRun rfl (by conv => lhs; reduce) (by conv => lhs; simp [-List.map_set, set_vnat, set_vnat1, set_vint, set_bool]) ?_
                    refine vseg_done ?_
                    repeat refine vw_seqAt rfl ?_
                    refine vw_retAt rfl ?_
                    have : G.wild g.length g[k][j] = true := by simp [G.wild, n1]
                    rw [← hd, hst, ← he, ist, this]
                    exact Gives.same (Agree.refl S'')
                  · repeat refine vw_seqAt rfl ?_
                    refine vw_regionRun rfl (by conv => lhs; reduce) (by conv => lhs; simp [-List.map_set, set_vnat, set_vnat1, set_vint, set_bool, opIndex_vl, hk6, opIndex_vl, hj6, n0, opLen_vl, n1]) ?_
                    refine vseg_done ?_
                    repeat refine vw_seqAt rfl ?_
                    refine vw_condF rfl rfl rfl ?_
                    repeat refine vw_seqAt rfl ?_
                    refine vw_skipAt rfl ?_
                    repeat refine vw_seqAt rfl ?_
                    refine vw_regionRun rfl (by conv => lhs; reduce) (by conv => lhs; simp [-List.map_set, set_vnat, set_vnat1, set_vint, set_bool, iw]) ?_
                    refine vseg_done ?_
                    have : G.wild g.length g[k][j] = false := by simp [G.wild, n0, n1]
                    rw [this] at ist
                    exact again ⟨Nat.sub_lt_sub_left (by omega) (Nat.lt_succ_self j), j + 1, by omega, rfl, by rw [← he, ist]; rfl, by simp [Fr.only, Fr.look, vnat, vint], rfl⟩
              · have i7 : ¬ (j : Int) < (g[k].length : Int) := by omega
                repeat refine vw_seqAt rfl ?_
                refine vw_regionRun rfl (by conv => lhs; reduce) (by conv => lhs; simp [-List.map_set, set_vnat, set_vnat1, set_vint, set_bool, opIndex_vl, hk6, opLen_vl, i7]) ?_
                refine vseg_done ?_
                repeat refine vw_seqAt rfl ?_
                refine vw_condF rfl rfl rfl ?_
                repeat refine vw_seqAt rfl ?_
                refine vw_exitAt 2 rfl rfl ?_
                have hz : g[k].drop j = [] := by rw [List.drop_eq_nil_iff]; omega
                rw [hz] at he
                rw [← he] at hst
                repeat refine vw_seqAt rfl ?_
                refine vw_regionRun rfl (by conv => lhs; reduce) (by conv => lhs; simp [-List.map_set, set_vnat, set_vnat1, set_vint, set_bool, hw]) ?_
                refine vseg_done ?_
                exact again ⟨Nat.sub_lt_sub_left (by omega) (Nat.lt_succ_self k), k + 1, by omega, rfl, by rw [← hd, hst]; rfl, by simp [Fr.only, Fr.look, vnat, vint], rfl⟩
        · have h7 : ¬ (k : Int) < (g.length : Int) := by omega
          repeat refine vw_seqAt rfl ?_
          refine vw_regionRun rfl (by conv => lhs; reduce) (by conv => lhs; simp [-List.map_set, set_vnat, set_vnat1, set_vint, set_bool, opLen_vl, h7]) ?_
          refine vseg_done ?_
          repeat refine vw_seqAt rfl ?_
          refine vw_condF rfl rfl rfl ?_
          repeat refine vw_seqAt rfl ?_
          refine vw_exitAt 0 rfl rfl ?_
          repeat refine vw_seqAt rfl ?_
          refine vw_regionRun rfl (by conv => lhs; reduce) (by conv => lhs; simp [-List.map_set, set_vnat, set_vnat1, set_vint, set_bool]) ?_
          refine vseg_done ?_
          repeat refine vw_seqAt rfl ?_
          refine vw_retAt rfl ?_
          have : g.drop k = [] := by rw [List.drop_eq_nil_iff]; omega
          rw [← hd, this]
          exact Gives.same (Agree.refl S')
end Go.Vw
