import Derived.Test.YtgnoiaekmmfnmaaVSimp
import Derived.Test.YtgnoiaekmmfnmaaGRight2
set_option linter.unusedVariables false
set_option linter.unusedSimpArgs false
namespace Go.Vw
open Go.Proofs Go.RowKit
set_option maxRecDepth 10000
set_option maxHeartbeats 4000000

theorem RRight_v (g : List (List Int)) (hg : g.length < 2^63) (hl : ∀ l ∈ g, l.length < 2^63) : VPure Try.prog 15 [vl (vl vint) g] (.bool (G.right g)) := by
  intro S
  refine vcalls_gives rfl ?_
  refine vcalls_body (c := bodyOf Try.f15) Try.func15 rfl rfl (by simp [Try.ntmps15]) ?_
  rw [Try.ntmps15]
  repeat refine vw_seqAt rfl ?_
  refine vw_regionRun rfl (by conv => lhs; reduce) (by conv => lhs; simp [-List.map_set, set_vnat, set_vnat1, set_vint, set_bool]) ?_
  refine vseg_done ?_
  by_cases h0 : (g.length : Int) < 1
  · repeat refine vw_seqAt rfl ?_
    refine vw_regionRun rfl (by conv => lhs; reduce) (by conv => lhs; simp [-List.map_set, set_vnat, set_vnat1, set_vint, set_bool, opLen_vl, h0]) ?_
    refine vseg_done ?_
    repeat refine vw_seqAt rfl ?_
    refine vw_condT rfl rfl rfl ?_
    repeat refine vw_seqAt rfl ?_
    refine vw_regionRun rfl (by conv => lhs; reduce) (by conv => lhs; simp [-List.map_set, set_vnat, set_vnat1, set_vint, set_bool]) ?_
    refine vseg_done ?_
    repeat refine vw_seqAt rfl ?_
    refine vw_retAt rfl ?_
    have : G.right g = false := by simp [G.right]; omega
    rw [this]
    exact Gives.same (Agree.refl S)
  · by_cases h1 : (256 : Int) < g.length
    · repeat refine vw_seqAt rfl ?_
      refine vw_regionRun rfl (by conv => lhs; reduce) (by conv => lhs; simp [-List.map_set, set_vnat, set_vnat1, set_vint, set_bool, opLen_vl, h0, h1]) ?_
      refine vseg_done ?_
      repeat refine vw_seqAt rfl ?_
      refine vw_condT rfl rfl rfl ?_
      repeat refine vw_seqAt rfl ?_
      refine vw_regionRun rfl (by conv => lhs; reduce) (by conv => lhs; simp [-List.map_set, set_vnat, set_vnat1, set_vint, set_bool]) ?_
      refine vseg_done ?_
      repeat refine vw_seqAt rfl ?_
      refine vw_retAt rfl ?_
      have : G.right g = false := by simp [G.right]; omega
      rw [this]
      exact Gives.same (Agree.refl S)
    · have hfin : G.right g = g.all (G.rowOk g.length) := by
        have a1 : decide (1 ≤ g.length) = true := by simp; omega
        have a2 : decide (g.length ≤ 256) = true := by simp; omega
        simp [G.right, a1, a2]
      rw [hfin]
      repeat refine vw_seqAt rfl ?_
      refine vw_regionRun rfl (by conv => lhs; reduce) (by conv => lhs; simp [-List.map_set, set_vnat, set_vnat1, set_vint, set_bool, opLen_vl, h0, h1]) ?_
      refine vseg_done ?_
      repeat refine vw_seqAt rfl ?_
      refine vw_condF rfl rfl rfl ?_
      repeat refine vw_seqAt rfl ?_
      refine vw_skipAt rfl ?_
      repeat refine vw_seqAt rfl ?_
      refine vw_regionRun rfl (by conv => lhs; reduce) (by conv => lhs; simp [-List.map_set, set_vnat, set_vnat1, set_vint, set_bool]) ?_
      refine vseg_done ?_
      repeat refine vw_seqAt rfl ?_
      refine vw_blockAt 0 rfl rfl ?_
      repeat refine vw_seqAt rfl ?_
      refine vw_loopAt [0, 3] rfl (fun n σ S' => ∃ (k : Nat), k ≤ g.length ∧ n = g.length - k ∧ (g.drop k).all (G.rowOk g.length) = g.all (G.rowOk g.length) ∧ σ = [(0, vl (vl vint) g), (3, vnat k)] ∧ S' = S) g.length ?_ ?_
      · exact ⟨0, by omega, rfl, rfl, by simp [Fr.only, Fr.look, vnat, vint], rfl⟩
      · rintro n σ S' ⟨k, hk, rfl, hd, rfl, rfl⟩
        by_cases hk6 : k < g.length
        · have h7 : (k : Int) < (g.length : Int) := by omega
          have hst : (g.drop k).all (G.rowOk g.length) = (G.rowOk g.length g[k] && (g.drop (k + 1)).all (G.rowOk g.length)) := by
            rw [List.drop_eq_getElem_cons hk6, List.all_cons]
          have hw : IntKind.i64.wrap ((k : Int) + 1) = (k : Int) + 1 := wrap_i64 (by omega) (by omega)
          have hlk : g[k].length < 2^63 := hl _ (List.getElem_mem hk6)
          repeat refine vw_seqAt rfl ?_
          refine vw_regionRun rfl (by conv => lhs; reduce) (by conv => lhs; simp [-List.map_set, set_vnat, set_vnat1, set_vint, set_bool, opLen_vl, h7]) ?_
          refine vseg_done ?_
          repeat refine vw_seqAt rfl ?_
          refine vw_condT rfl rfl rfl ?_
          repeat refine vw_seqAt rfl ?_
          refine vw_skipAt rfl ?_
          repeat refine vw_seqAt rfl ?_
          refine vw_blockAt 1 rfl rfl ?_
          by_cases h2 : (128 : Int) < g[k].length
          · repeat refine vw_seqAt rfl ?_
            refine vw_regionRun rfl (by conv => lhs; reduce) (by conv => lhs; simp [-List.map_set, set_vnat, set_vnat1, set_vint, set_bool, opIndex_vl, hk6, opLen_vl, h2]) ?_
            refine vseg_done ?_
            repeat refine vw_seqAt rfl ?_
            refine vw_condT rfl rfl rfl ?_
            repeat refine vw_seqAt rfl ?_
            refine vw_regionRun rfl (by conv => lhs; reduce) (by conv => lhs; simp [-List.map_set, set_vnat, set_vnat1, set_vint, set_bool]) ?_
            refine vseg_done ?_
            repeat refine vw_seqAt rfl ?_
            refine vw_retAt rfl ?_
            have : G.rowOk g.length g[k] = false := by simp [G.rowOk]; omega
            rw [← hd, hst, this]
            exact Gives.same (Agree.refl S')
          · have h3 : G.rowOk g.length g[k] = !(g[k].any (G.wild g.length)) := by
              have : decide (g[k].length ≤ 128) = true := by simp; omega
              simp [G.rowOk, this]
            rw [h3] at hst
            repeat refine vw_seqAt rfl ?_
            refine vw_regionRun rfl (by conv => lhs; reduce) (by conv => lhs; simp [-List.map_set, set_vnat, set_vnat1, set_vint, set_bool, opIndex_vl, hk6, opLen_vl, h2]) ?_
            refine vseg_done ?_
            repeat refine vw_seqAt rfl ?_
            refine vw_condF rfl rfl rfl ?_
            repeat refine vw_seqAt rfl ?_
            refine vw_skipAt rfl ?_
            repeat refine vw_seqAt rfl ?_
            refine vw_regionRun rfl (by conv => lhs; reduce) (by conv => lhs; simp [-List.map_set, set_vnat, set_vnat1, set_vint, set_bool]) ?_
            refine vseg_done ?_
            repeat refine vw_seqAt rfl ?_
            refine vw_blockAt 2 rfl rfl ?_
            repeat refine vw_seqAt rfl ?_
            refine vw_loopAt [0, 3, 4] rfl (fun n σ S'' => ∃ (j : Nat), j ≤ g[k].length ∧ n = g[k].length - j ∧ (g[k].drop j).any (G.wild g.length) = g[k].any (G.wild g.length) ∧ σ = [(0, vl (vl vint) g), (3, vnat k), (4, vnat j)] ∧ S'' = S') g[k].length ?_ ?_
            · exact ⟨0, by omega, rfl, rfl, by simp [Fr.only, Fr.look, vnat, vint], rfl⟩
            · rintro n σ S'' ⟨j, hj, rfl, he, rfl, rfl⟩
              by_cases hj6 : j < g[k].length
              · have i7 : (j : Int) < (g[k].length : Int) := by omega
                have ist : (g[k].drop j).any (G.wild g.length) = (G.wild g.length g[k][j] || (g[k].drop (j + 1)).any (G.wild g.length)) := by
                  rw [List.drop_eq_getElem_cons hj6, List.any_cons]
                have iw : IntKind.i64.wrap ((j : Int) + 1) = (j : Int) + 1 := wrap_i64 (by omega) (by omega)
                repeat refine vw_seqAt rfl ?_
                refine vw_regionRun rfl (by conv => lhs; reduce) (by conv => lhs; simp [-List.map_set, set_vnat, set_vnat1, set_vint, set_bool, opIndex_vl, hk6, opLen_vl, i7]) ?_
                refine vseg_done ?_
                repeat refine vw_seqAt rfl ?_
                refine vw_condT rfl rfl rfl ?_
                repeat refine vw_seqAt rfl ?_
                refine vw_skipAt rfl ?_
                repeat refine vw_seqAt rfl ?_
                refine vw_blockAt 3 rfl rfl ?_
                by_cases n0 : g[k][j] < 0
                · repeat refine vw_seqAt rfl ?_
                  refine vw_regionRun rfl (by conv => lhs; reduce) (by conv => lhs; simp [-List.map_set, set_vnat, set_vnat1, set_vint, set_bool, opIndex_vl, hk6, opIndex_vl, hj6, n0]) ?_
                  refine vseg_done ?_
                  repeat refine vw_seqAt rfl ?_
                  refine vw_condT rfl rfl rfl ?_
                  repeat refine vw_seqAt rfl ?_
                  refine vw_regionRun rfl (by conv => lhs; reduce) (by conv => lhs; simp [-List.map_set, set_vnat, set_vnat1, set_vint, set_bool]) ?_
                  refine vseg_done ?_
                  repeat refine vw_seqAt rfl ?_
                  refine vw_retAt rfl ?_
                  have : G.wild g.length g[k][j] = true := by simp [G.wild, n0]
                  rw [← hd, hst, ← he, ist, this]
                  exact Gives.same (Agree.refl S'')
                · by_cases n1 : (g.length : Int) ≤ g[k][j]
                  · repeat refine vw_seqAt rfl ?_
                    refine vw_regionRun rfl (by conv => lhs; reduce) (by conv => lhs; simp [-List.map_set, set_vnat, set_vnat1, set_vint, set_bool, opIndex_vl, hk6, opIndex_vl, hj6, n0, opLen_vl, n1]) ?_
                    refine vseg_done ?_
                    repeat refine vw_seqAt rfl ?_
                    refine vw_condT rfl rfl rfl ?_
                    repeat refine vw_seqAt rfl ?_
                    refine vw_regionRun rfl (by conv => lhs; reduce) (by conv => lhs; simp [-List.map_set, set_vnat, set_vnat1, set_vint, set_bool]) ?_
                    refine vseg_done ?_
                    repeat refine vw_seqAt rfl ?_
                    refine vw_retAt rfl ?_
                    have : G.wild g.length g[k][j] = true := by simp [G.wild, n1]
                    rw [← hd, hst, ← he, ist, this]
                    exact Gives.same (Agree.refl S'')
                  · repeat refine vw_seqAt rfl ?_
                    refine vw_regionRun rfl (by conv => lhs; reduce) (by conv => lhs; simp [-List.map_set, set_vnat, set_vnat1, set_vint, set_bool, opIndex_vl, hk6, opIndex_vl, hj6, n0, opLen_vl, n1]) ?_
                    refine vseg_done ?_
                    repeat refine vw_seqAt rfl ?_
                    refine vw_condF rfl rfl rfl ?_
                    repeat refine vw_seqAt rfl ?_
                    refine vw_skipAt rfl ?_
                    repeat refine vw_seqAt rfl ?_
                    refine vw_regionRun rfl (by conv => lhs; reduce) (by conv => lhs; simp [-List.map_set, set_vnat, set_vnat1, set_vint, set_bool, iw]) ?_
                    refine vseg_done ?_
                    have : G.wild g.length g[k][j] = false := by simp [G.wild, n0, n1]
                    rw [this] at ist
                    exact again ⟨Nat.sub_lt_sub_left (by omega) (Nat.lt_succ_self j), j + 1, by omega, rfl, by rw [← he, ist]; rfl, by simp [Fr.only, Fr.look, vnat, vint], rfl⟩
              · have i7 : ¬ (j : Int) < (g[k].length : Int) := by omega
                repeat refine vw_seqAt rfl ?_
                refine vw_regionRun rfl (by conv => lhs; reduce) (by conv => lhs; simp [-List.map_set, set_vnat, set_vnat1, set_vint, set_bool, opIndex_vl, hk6, opLen_vl, i7]) ?_
                refine vseg_done ?_
                repeat refine vw_seqAt rfl ?_
                refine vw_condF rfl rfl rfl ?_
                repeat refine vw_seqAt rfl ?_
                refine vw_exitAt 2 rfl rfl ?_
                have hz : g[k].drop j = [] := by rw [List.drop_eq_nil_iff]; omega
                rw [hz] at he
                rw [← he] at hst
                repeat refine vw_seqAt rfl ?_
                refine vw_regionRun rfl (by conv => lhs; reduce) (by conv => lhs; simp [-List.map_set, set_vnat, set_vnat1, set_vint, set_bool, hw]) ?_
                refine vseg_done ?_
                exact again ⟨Nat.sub_lt_sub_left (by omega) (Nat.lt_succ_self k), k + 1, by omega, rfl, by rw [← hd, hst]; rfl, by simp [Fr.only, Fr.look, vnat, vint], rfl⟩
        · have h7 : ¬ (k : Int) < (g.length : Int) := by omega
          repeat refine vw_seqAt rfl ?_
          refine vw_regionRun rfl (by conv => lhs; reduce) (by conv => lhs; simp [-List.map_set, set_vnat, set_vnat1, set_vint, set_bool, opLen_vl, h7]) ?_
          refine vseg_done ?_
          repeat refine vw_seqAt rfl ?_
          refine vw_condF rfl rfl rfl ?_
          repeat refine vw_seqAt rfl ?_
          refine vw_exitAt 0 rfl rfl ?_
          repeat refine vw_seqAt rfl ?_
          refine vw_regionRun rfl (by conv => lhs; reduce) (by conv => lhs; simp [-List.map_set, set_vnat, set_vnat1, set_vint, set_bool]) ?_
          refine vseg_done ?_
          repeat refine vw_seqAt rfl ?_
          refine vw_retAt rfl ?_
          have : g.drop k = [] := by rw [List.drop_eq_nil_iff]; omega
          rw [← hd, this]
          exact Gives.same (Agree.refl S')
end Go.Vw
