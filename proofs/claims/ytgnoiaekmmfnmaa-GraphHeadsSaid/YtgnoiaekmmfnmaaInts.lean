import Derived.Test.YtgnoiaekmmfnmaaVSimp
import Derived.Test.YtgnoiaekmmfnmaaProg
import Derived.Test.YtgnoiaekmmfnmaaVFin
set_option linter.unusedVariables false
set_option linter.unusedSimpArgs false
namespace Go.Vw
open Go.Proofs Go.RowKit
set_option maxRecDepth 10000
set_option maxHeartbeats 4000000

theorem Ints_v (a b : List Int) (ha : a.length < 2^63) : VPure Try.prog 16 [vl vint a, vl vint b] (.bool (a == b)) := by
  intro S
  refine vcalls_gives rfl ?_
  refine vcalls_body (c := bodyOf Try.f16) Try.func16 rfl rfl (by simp [Try.ntmps16]) ?_
  rw [Try.ntmps16]
  repeat refine vw_seqAt rfl ?_
  refine vw_regionRun rfl (by conv => lhs; reduce) (by conv => lhs; simp [-List.map_set, set_vnat, set_vnat1, set_vint, set_bool]) ?_
  refine vseg_done ?_
  repeat refine vw_seqAt rfl ?_
  refine vw_regionRun rfl (by conv => lhs; reduce) (by conv => lhs; simp [-List.map_set, set_vnat, set_vnat1, set_vint, set_bool, opLen_vl]) ?_
  refine vseg_done ?_
  repeat refine vw_seqAt rfl ?_
  refine vw_condRun rfl rfl rfl (a.length ≠ b.length) (by first | (simp; done) | (simp; omega)) ?_ ?_
  · intro hl
    repeat refine vw_seqAt rfl ?_
    refine vw_regionRun rfl (by conv => lhs; reduce) (by conv => lhs; simp [-List.map_set, set_vnat, set_vnat1, set_vint, set_bool]) ?_
    refine vseg_done ?_
    repeat refine vw_seqAt rfl ?_
    refine vw_retAt rfl ?_
    have : (a == b) = false := by simp; intro h; exact hl (by rw [h])
    rw [this]
    exact Gives.same (Agree.refl S)
  · intro hl
    repeat refine vw_seqAt rfl ?_
    refine vw_skipAt rfl ?_
    repeat refine vw_seqAt rfl ?_
    refine vw_regionRun rfl (by conv => lhs; reduce) (by conv => lhs; simp [-List.map_set, set_vnat, set_vnat1, set_vint, set_bool]) ?_
    refine vseg_done ?_
    repeat refine vw_seqAt rfl ?_
    refine vw_blockAt 0 rfl rfl ?_
    repeat refine vw_seqAt rfl ?_
    refine vw_loopAt [0, 1, 5] rfl (fun n σ S' => ∃ k : Nat, k ≤ a.length ∧ n = a.length - k ∧ a.take k = b.take k ∧ σ = [(0, vl vint a), (1, vl vint b), (5, vnat k)] ∧ S' = S) a.length ?_ ?_
    · exact ⟨0, Nat.zero_le _, rfl, by simp, by simp [Fr.only, Fr.look, vnat], rfl⟩
    · rintro n σ S' ⟨k, hk, rfl, hp, rfl, rfl⟩
      repeat refine vw_seqAt rfl ?_
      refine vw_regionRun rfl (by conv => lhs; reduce) (by conv => lhs; simp [-List.map_set, set_vnat, set_vnat1, set_vint, set_bool, opLen_vl, vnat]) ?_
      refine vseg_done ?_
      repeat refine vw_seqAt rfl ?_
      refine vw_condRun rfl rfl rfl (k < a.length) (by first | (simp; done) | (simp; omega)) ?_ ?_
      · intro hlt
        have hlt2 : k < b.length := by omega
        repeat refine vw_seqAt rfl ?_
        refine vw_skipAt rfl ?_
        repeat refine vw_seqAt rfl ?_
        refine vw_blockAt 1 rfl rfl ?_
        repeat refine vw_seqAt rfl ?_
        refine vw_drawPlain rfl (by kernel_rfl) (by conv => lhs; reduce) (by conv => lhs; reduce) (by kernel_rfl) (by conv => lhs; simp [-List.map_set, set_vnat, set_vnat1, set_vint, set_bool, opLen_vl, opIndex_vl, hlt, hlt2]) ?_
        refine vseg_done ?_
        repeat refine vw_seqAt rfl ?_
        refine vw_condRun rfl rfl rfl (a[k] ≠ b[k]) (by first | (simp; done) | (simp; omega)) ?_ ?_
        · intro hne
          repeat refine vw_seqAt rfl ?_
          refine vw_regionRun rfl (by conv => lhs; reduce) (by conv => lhs; simp [-List.map_set, set_vnat, set_vnat1, set_vint, set_bool]) ?_
          refine vseg_done ?_
          repeat refine vw_seqAt rfl ?_
          refine vw_retAt rfl ?_
          have : (a == b) = false := by simp; intro h; subst h; exact hne rfl
          rw [this]
          exact Gives.same (Agree.refl S')
        · intro heq
          have hw : IntKind.i64.wrap ((k : Int) + 1) = (k : Int) + 1 := wrap_i64 (by omega) (by omega)
          repeat refine vw_seqAt rfl ?_
          refine vw_skipAt rfl ?_
          repeat refine vw_seqAt rfl ?_
          refine vw_regionRun rfl (by conv => lhs; reduce) (by conv => lhs; simp [-List.map_set, set_vnat, set_vnat1, set_vint, set_bool, hw]) ?_
          refine vseg_done ?_
          exact again ⟨Nat.sub_lt_sub_left hlt (Nat.lt_succ_self k), k + 1, hlt, rfl, by rw [List.take_succ_eq_append_getElem hlt, List.take_succ_eq_append_getElem hlt2, hp, Decidable.not_not.1 heq], by simp [Fr.only, Fr.look, vnat], rfl⟩
      · intro hge
        repeat refine vw_seqAt rfl ?_
        refine vw_exitAt 0 rfl rfl ?_
        repeat refine vw_seqAt rfl ?_
        refine vw_regionRun rfl (by conv => lhs; reduce) (by conv => lhs; simp [-List.map_set, set_vnat, set_vnat1, set_vint, set_bool]) ?_
        refine vseg_done ?_
        repeat refine vw_seqAt rfl ?_
        refine vw_retAt rfl ?_
        have : a = b := by
          rw [List.take_of_length_le (by omega), List.take_of_length_le (by omega)] at hp
          exact hp
        simp [this]
        exact Gives.same (Agree.refl S')
end Go.Vw
