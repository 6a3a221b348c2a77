import Derived.Test.YtgnoiaekmmfnmaaVSimp
import Derived.Test.YtgnoiaekmmfnmaaGDom2
set_option linter.unusedVariables false
set_option linter.unusedSimpArgs false
namespace Go.Vw
open Go.Proofs Go.RowKit
set_option maxRecDepth 10000
set_option maxHeartbeats 4000000

theorem wild_v (g : List (List Int)) (n : Int) : VPure Try.prog 28 [vint n, .ref (vl (vl vint) g)] (.bool (G.wild g.length n)) := by
  intro S
  refine vcalls_gives rfl ?_
  refine vcalls_body (c := bodyOf Try.f28) Try.func28 rfl rfl (by simp [Try.ntmps28]) ?_
  rw [Try.ntmps28]
  repeat refine vw_seqAt rfl ?_
  refine vw_regionRun rfl (by conv => lhs; reduce) (by conv => lhs; simp [-List.map_set, set_vnat, set_vnat1, set_vint, set_bool]) ?_
  refine vseg_done ?_
  by_cases h0 : n < 0
  · repeat refine vw_seqAt rfl ?_
    refine vw_regionRun rfl (by conv => lhs; reduce) (by conv => lhs; simp [-List.map_set, set_vnat, set_vnat1, set_vint, set_bool, opLen_vl, h0]) ?_
    refine vseg_done ?_
    repeat refine vw_seqAt rfl ?_
    refine vw_retAt rfl ?_
    have : G.wild g.length n = true := by simp [G.wild, h0]
    rw [this]
    exact Gives.same (Agree.refl S)
  · repeat refine vw_seqAt rfl ?_
    refine vw_regionRun rfl (by conv => lhs; reduce) (by conv => lhs; simp [-List.map_set, set_vnat, set_vnat1, set_vint, set_bool, opLen_vl, h0]) ?_
    refine vseg_done ?_
    repeat refine vw_seqAt rfl ?_
    refine vw_retAt rfl ?_
    have : G.wild g.length n = decide ((g.length : Int) ≤ n) := by simp [G.wild, h0]
    rw [this]
    exact Gives.same (Agree.refl S)

theorem IndexWild_v (g : List (List Int)) (l : List Int) (hl : l.length < 2^63) : VPure Try.prog 34 [vl vint l, .func 28 [.ref (vl (vl vint) g)]] (vint (G.find (G.wild g.length) l 0)) := by
  intro S
  refine vcalls_gives rfl ?_
  refine vcalls_body (c := bodyOf Try.f34) Try.func34 rfl rfl (by simp [Try.ntmps34]) ?_
  rw [Try.ntmps34]
  repeat refine vw_seqAt rfl ?_
  refine vw_regionRun rfl (by conv => lhs; reduce) (by conv => lhs; simp [-List.map_set, set_vnat, set_vnat1, set_vint, set_bool]) ?_
  refine vseg_done ?_
  repeat refine vw_seqAt rfl ?_
  refine vw_regionRun rfl (by conv => lhs; reduce) (by conv => lhs; simp [-List.map_set, set_vnat, set_vnat1, set_vint, set_bool, opLen_vl]) ?_
  refine vseg_done ?_
  repeat refine vw_seqAt rfl ?_
  refine vw_blockAt 0 rfl rfl ?_
  repeat refine vw_seqAt rfl ?_
  refine vw_loopAt [0, 1, 7, 8] rfl (fun n σ S' => ∃ (k : Nat), k ≤ l.length ∧ n = l.length - k ∧ G.find (G.wild g.length) (l.drop k) k = G.find (G.wild g.length) l 0 ∧ σ = [(0, vl vint l), (1, .func 28 [.ref (vl (vl vint) g)]), (7, vnat l.length), (8, vnat k)] ∧ S' = S) l.length ?_ ?_
  · exact ⟨0, by omega, rfl, rfl, by simp [Fr.only, Fr.look, vnat, vint], rfl⟩
  · rintro n σ S' ⟨k, hk, rfl, hd, rfl, rfl⟩
    by_cases hk6 : k < l.length
    · have h7 : (k : Int) < (l.length : Int) := by omega
      have hst : G.find (G.wild g.length) (l.drop k) k = if G.wild g.length l[k] then (k : Int) else G.find (G.wild g.length) (l.drop (k + 1)) (k + 1) := by
        rw [List.drop_eq_getElem_cons hk6, G.find]
      have hw : IntKind.i64.wrap ((k : Int) + 1) = (k : Int) + 1 := wrap_i64 (by omega) (by omega)
      repeat refine vw_seqAt rfl ?_
      refine vw_regionRun rfl (by conv => lhs; reduce) (by conv => lhs; simp [-List.map_set, set_vnat, set_vnat1, set_vint, set_bool, h7]) ?_
      refine vseg_done ?_
      repeat refine vw_seqAt rfl ?_
      refine vw_condT rfl rfl rfl ?_
      repeat refine vw_seqAt rfl ?_
      refine vw_skipAt rfl ?_
      repeat refine vw_seqAt rfl ?_
      refine vw_blockAt 1 rfl rfl ?_
      repeat refine vw_seqAt rfl ?_
      refine vw_regionRun rfl (by conv => lhs; reduce) (by conv => lhs; simp [-List.map_set, set_vnat, set_vnat1, set_vint, set_bool]) ?_
      refine vseg_done ?_
      repeat refine vw_seqAt rfl ?_
      refine vw_regionRun rfl (by conv => lhs; reduce) (by conv => lhs; simp [-List.map_set, set_vnat, set_vnat1, set_vint, set_bool, opIndex_vl, hk6]) ?_
      refine vcallv_use rfl rfl rfl (wild_v g l[k]) ?_
      refine vseg_more (by conv => lhs; simp [-List.map_set, set_vnat, set_vnat1, set_vint, set_bool]) ?_
      refine vseg_done ?_
      by_cases hc : G.wild g.length l[k] = true
      · refine vw_condT rfl rfl (by simp [ev, Fr.look, hc]) ?_
        repeat refine vw_seqAt rfl ?_
        refine vw_regionRun rfl (by conv => lhs; reduce) (by conv => lhs; simp [-List.map_set, set_vnat, set_vnat1, set_vint, set_bool]) ?_
        refine vseg_done ?_
        repeat refine vw_seqAt rfl ?_
        refine vw_retAt rfl ?_
        rw [← hd, hst, if_pos hc]
        exact Gives.same (Agree.refl S')
      · rw [if_neg hc] at hst
        refine vw_condF rfl rfl (by simp [ev, Fr.look, hc]) ?_
        repeat refine vw_seqAt rfl ?_
        refine vw_skipAt rfl ?_
        repeat refine vw_seqAt rfl ?_
        refine vw_regionRun rfl (by conv => lhs; reduce) (by conv => lhs; simp [-List.map_set, set_vnat, set_vnat1, set_vint, set_bool, hw]) ?_
        refine vseg_done ?_
        exact again ⟨Nat.sub_lt_sub_left (by omega) (Nat.lt_succ_self k), k + 1, by omega, rfl, by rw [← hd, hst], by simp [Fr.only, Fr.look, vnat, vint], rfl⟩
    · have h7 : ¬ (k : Int) < (l.length : Int) := by omega
      repeat refine vw_seqAt rfl ?_
      refine vw_regionRun rfl (by conv => lhs; reduce) (by conv => lhs; simp [-List.map_set, set_vnat, set_vnat1, set_vint, set_bool, h7]) ?_
      refine vseg_done ?_
      repeat refine vw_seqAt rfl ?_
      refine vw_condF rfl rfl rfl ?_
      repeat refine vw_seqAt rfl ?_
      refine vw_exitAt 0 rfl rfl ?_
      repeat refine vw_seqAt rfl ?_
      refine vw_regionRun rfl (by conv => lhs; reduce) (by conv => lhs; simp [-List.map_set, set_vnat, set_vnat1, set_vint, set_bool]) ?_
      refine vseg_done ?_
      repeat refine vw_seqAt rfl ?_
      refine vw_retAt rfl ?_
      have : l.drop k = [] := by rw [List.drop_eq_nil_iff]; omega
      rw [← hd, this]
      exact Gives.same (Agree.refl S')

theorem AnyWild_v (g : List (List Int)) (l : List Int) (hl : l.length < 2^63) : VPure Try.prog 27 [vl vint l, .func 28 [.ref (vl (vl vint) g)]] (.bool (l.any (G.wild g.length))) := by
  intro S
  refine vcalls_gives rfl ?_
  refine vcalls_body (c := bodyOf Try.f27) Try.func27 rfl rfl (by simp [Try.ntmps27]) ?_
  rw [Try.ntmps27]
  rw [← G.find_any (G.wild g.length) l 0]
  repeat refine vw_seqAt rfl ?_
  refine vw_regionRun rfl (by conv => lhs; reduce) (by conv => lhs; simp [-List.map_set, set_vnat, set_vnat1, set_vint, set_bool]) ?_
  refine vseg_done ?_
  repeat refine vw_seqAt rfl ?_
  refine vw_regionRun rfl (by conv => lhs; reduce) (by conv => lhs; simp [-List.map_set, set_vnat, set_vnat1, set_vint, set_bool]) ?_
  refine vcall_use rfl (IndexWild_v g l hl) ?_
  refine vseg_more (by conv => lhs; simp [-List.map_set, set_vnat, set_vnat1, set_vint, set_bool]) ?_
  refine vseg_done ?_
  repeat refine vw_seqAt rfl ?_
  refine vw_retAt rfl ?_
  exact Gives.same (Agree.refl S)
end Go.Vw
