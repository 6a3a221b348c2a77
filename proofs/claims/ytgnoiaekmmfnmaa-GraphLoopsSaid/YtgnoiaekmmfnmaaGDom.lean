import Derived.Test.YtgnoiaekmmfnmaaVSimp
import Derived.Test.YtgnoiaekmmfnmaaProg
import Derived.Test.YtgnoiaekmmfnmaaVFin
import Derived.Test.YtgnoiaekmmfnmaaGSpec
set_option linter.unusedVariables false
set_option linter.unusedSimpArgs false
namespace Go.Vw
open Go.Proofs Go.RowKit
set_option maxRecDepth 10000
set_option maxHeartbeats 4000000

theorem RDominates_v (l : List Int) (a b : Int) (hl : l.length < 2^63) : VPure Try.prog 21 [vl vint l, vint a, vint b] (.bool (G.dominates l a b)) := by
  intro S
  refine vcalls_gives rfl ?_
  refine vcalls_body (c := bodyOf Try.f21) Try.func21 rfl rfl (by simp [Try.ntmps21]) ?_
  rw [Try.ntmps21]
  repeat refine vw_seqAt rfl ?_
  refine vw_regionRun rfl (by conv => lhs; reduce) (by conv => lhs; simp [-List.map_set, set_vnat, set_vnat1, set_vint, set_bool]) ?_
  refine vseg_done ?_
  by_cases ha : G.okIx l a
  · by_cases hb : G.okIx l b
    · obtain ⟨ha1, ha2⟩ := ha
      obtain ⟨hb1, hb2⟩ := hb
      have e1 : ¬ a < 0 := by omega
      have e2 : ¬ (l.length : Int) ≤ a := by omega
      have e3 : ¬ b < 0 := by omega
      have e4 : ¬ (l.length : Int) ≤ b := by omega
      repeat refine vw_seqAt rfl ?_
      refine vw_regionRun rfl (by conv => lhs; reduce) (by conv => lhs; simp [-List.map_set, set_vnat, set_vnat1, set_vint, set_bool, opLen_vl, e1, e2, e3, e4]) ?_
      refine vseg_done ?_
      repeat refine vw_seqAt rfl ?_
      refine vw_condF rfl rfl rfl ?_
      repeat refine vw_seqAt rfl ?_
      refine vw_skipAt rfl ?_
      repeat refine vw_seqAt rfl ?_
      refine vw_regionRun rfl (by conv => lhs; reduce) (by conv => lhs; simp [-List.map_set, set_vnat, set_vnat1, set_vint, set_bool]) ?_
      refine vseg_done ?_
      repeat refine vw_seqAt rfl ?_
      refine vw_blockAt 0 rfl rfl ?_
      repeat refine vw_seqAt rfl ?_
      refine vw_loopAt [0, 1, 2, 7] rfl (fun n σ S' => ∃ (k : Nat) (c : Int), k ≤ 257 ∧ n = 257 - k ∧ G.okIx l c ∧ G.dom1 l a (257 - k) c = G.dom1 l a 257 b ∧ σ = [(0, vl vint l), (1, vint a), (2, vint c), (7, vnat k)] ∧ S' = S) 257 ?_ ?_
      · exact ⟨0, b, by omega, rfl, ⟨hb1, hb2⟩, rfl, by simp [Fr.only, Fr.look, vnat, vint], rfl⟩
      · rintro n σ S' ⟨k, c, hk, rfl, hc, hd, rfl, rfl⟩
        have hfin : G.dominates l a b = G.dom1 l a 257 b := by simp [G.dominates, G.okIx, ha1, ha2]
        obtain ⟨hc1, hc2⟩ := hc
        have hcn : c.toNat < l.length := by omega
        repeat refine vw_seqAt rfl ?_
        refine vw_regionRun rfl (by conv => lhs; reduce) (by conv => lhs; simp [-List.map_set, set_vnat, set_vnat1, set_vint, set_bool]) ?_
        refine vseg_done ?_
        repeat refine vw_seqAt rfl ?_
        refine vw_condRun rfl rfl rfl (k ≤ 256) (by first | (simp; done) | (simp; omega)) ?_ ?_
        · intro hk6
          have hst : G.dom1 l a (257 - k) c = if a = c then true else G.dom1 l a (256 - k) (l[c.toNat]) := by
            rw [show 257 - k = (256 - k) + 1 from by omega, G.dom1, if_pos ⟨hc1, hc2⟩]
            simp [hcn]
          repeat refine vw_seqAt rfl ?_
          refine vw_skipAt rfl ?_
          repeat refine vw_seqAt rfl ?_
          refine vw_blockAt 1 rfl rfl ?_
          repeat refine vw_seqAt rfl ?_
          refine vw_regionRun rfl (by conv => lhs; reduce) (by conv => lhs; simp [-List.map_set, set_vnat, set_vnat1, set_vint, set_bool]) ?_
          refine vseg_done ?_
          repeat refine vw_seqAt rfl ?_
          refine vw_condRun rfl rfl rfl (a = c) (by first | (simp; done) | (simp; omega)) ?_ ?_
          · intro hac
            repeat refine vw_seqAt rfl ?_
            refine vw_regionRun rfl (by conv => lhs; reduce) (by conv => lhs; simp [-List.map_set, set_vnat, set_vnat1, set_vint, set_bool]) ?_
            refine vseg_done ?_
            repeat refine vw_seqAt rfl ?_
            refine vw_retAt rfl ?_
            rw [hfin, ← hd, hst, if_pos hac]
            exact Gives.same (Agree.refl S')
          · intro hac
            rw [if_neg hac] at hst
            repeat refine vw_seqAt rfl ?_
            refine vw_skipAt rfl ?_
            repeat refine vw_seqAt rfl ?_
            refine vw_regionRun rfl (by conv => lhs; reduce) (by conv => lhs; simp [-List.map_set, set_vnat, set_vnat1, set_vint, set_bool, opIndex_vlz, hc1, hcn]) ?_
            refine vseg_done ?_
            have fls : ¬ G.okIx l l[c.toNat] → G.dom1 l a (256 - k) l[c.toNat] = false := by
              intro h
              cases 256 - k <;> simp [G.dom1, h]
            by_cases hx : l[c.toNat] < 0
            · repeat refine vw_seqAt rfl ?_
              refine vw_regionRun rfl (by conv => lhs; reduce) (by conv => lhs; simp [-List.map_set, set_vnat, set_vnat1, set_vint, set_bool, opLen_vl, hx]) ?_
              refine vseg_done ?_
              repeat refine vw_seqAt rfl ?_
              refine vw_condT rfl rfl rfl ?_
              repeat refine vw_seqAt rfl ?_
              refine vw_regionRun rfl (by conv => lhs; reduce) (by conv => lhs; simp [-List.map_set, set_vnat, set_vnat1, set_vint, set_bool]) ?_
              refine vseg_done ?_
              repeat refine vw_seqAt rfl ?_
              refine vw_retAt rfl ?_
              rw [hfin, ← hd, hst, fls (by simp [G.okIx]; omega)]
              exact Gives.same (Agree.refl S')
            · by_cases hy : (l.length : Int) ≤ l[c.toNat]
              · repeat refine vw_seqAt rfl ?_
                refine vw_regionRun rfl (by conv => lhs; reduce) (by conv => lhs; simp [-List.map_set, set_vnat, set_vnat1, set_vint, set_bool, opLen_vl, hx, hy]) ?_
                refine vseg_done ?_
                repeat refine vw_seqAt rfl ?_
                refine vw_condT rfl rfl rfl ?_
                repeat refine vw_seqAt rfl ?_
                refine vw_regionRun rfl (by conv => lhs; reduce) (by conv => lhs; simp [-List.map_set, set_vnat, set_vnat1, set_vint, set_bool]) ?_
                refine vseg_done ?_
                repeat refine vw_seqAt rfl ?_
                refine vw_retAt rfl ?_
                rw [hfin, ← hd, hst, fls (by simp [G.okIx]; omega)]
                exact Gives.same (Agree.refl S')
              · repeat refine vw_seqAt rfl ?_
                refine vw_regionRun rfl (by conv => lhs; reduce) (by conv => lhs; simp [-List.map_set, set_vnat, set_vnat1, set_vint, set_bool, opLen_vl, hx, hy]) ?_
                refine vseg_done ?_
                repeat refine vw_seqAt rfl ?_
                refine vw_condF rfl rfl rfl ?_
                repeat refine vw_seqAt rfl ?_
                refine vw_skipAt rfl ?_
                have hw : IntKind.i64.wrap ((k : Int) + 1) = (k : Int) + 1 := wrap_i64 (by omega) (by omega)
                repeat refine vw_seqAt rfl ?_
                refine vw_regionRun rfl (by conv => lhs; reduce) (by conv => lhs; simp [-List.map_set, set_vnat, set_vnat1, set_vint, set_bool, hw]) ?_
                refine vseg_done ?_
                exact again ⟨Nat.sub_lt_sub_left (by omega) (Nat.lt_succ_self k), k + 1, l[c.toNat], by omega, rfl, ⟨by omega, by omega⟩, by rw [← hd, hst]; congr 1; omega, by simp [Fr.only, Fr.look, vnat, vint], rfl⟩
        · intro hk6
          repeat refine vw_seqAt rfl ?_
          refine vw_exitAt 0 rfl rfl ?_
          repeat refine vw_seqAt rfl ?_
          refine vw_regionRun rfl (by conv => lhs; reduce) (by conv => lhs; simp [-List.map_set, set_vnat, set_vnat1, set_vint, set_bool]) ?_
          refine vseg_done ?_
          repeat refine vw_seqAt rfl ?_
          refine vw_retAt rfl ?_
          rw [hfin, ← hd, show 257 - k = 0 from by omega]
          exact Gives.same (Agree.refl S')
    · have hfin : G.dominates l a b = false := by simp [G.dominates, G.dom1, hb]
      obtain ⟨ha1, ha2⟩ := ha
      have e1 : ¬ a < 0 := by omega
      have e2 : ¬ (l.length : Int) ≤ a := by omega
      rw [hfin]
      by_cases e3 : b < 0
      · repeat refine vw_seqAt rfl ?_
        refine vw_regionRun rfl (by conv => lhs; reduce) (by conv => lhs; simp [-List.map_set, set_vnat, set_vnat1, set_vint, set_bool, opLen_vl, e1, e2, e3]) ?_
        refine vseg_done ?_
        repeat refine vw_seqAt rfl ?_
        refine vw_condT rfl rfl rfl ?_
        repeat refine vw_seqAt rfl ?_
        refine vw_regionRun rfl (by conv => lhs; reduce) (by conv => lhs; simp [-List.map_set, set_vnat, set_vnat1, set_vint, set_bool]) ?_
        refine vseg_done ?_
        repeat refine vw_seqAt rfl ?_
        refine vw_retAt rfl ?_
        exact Gives.same (Agree.refl S)
      · have e4 : (l.length : Int) ≤ b := by simp [G.okIx] at hb; omega
        repeat refine vw_seqAt rfl ?_
        refine vw_regionRun rfl (by conv => lhs; reduce) (by conv => lhs; simp [-List.map_set, set_vnat, set_vnat1, set_vint, set_bool, opLen_vl, e1, e2, e3, e4]) ?_
        refine vseg_done ?_
        repeat refine vw_seqAt rfl ?_
        refine vw_condT rfl rfl rfl ?_
        repeat refine vw_seqAt rfl ?_
        refine vw_regionRun rfl (by conv => lhs; reduce) (by conv => lhs; simp [-List.map_set, set_vnat, set_vnat1, set_vint, set_bool]) ?_
        refine vseg_done ?_
        repeat refine vw_seqAt rfl ?_
        refine vw_retAt rfl ?_
        exact Gives.same (Agree.refl S)
  · have hfin : G.dominates l a b = false := by simp [G.dominates, ha]
    rw [hfin]
    by_cases e1 : a < 0
    · repeat refine vw_seqAt rfl ?_
      refine vw_regionRun rfl (by conv => lhs; reduce) (by conv => lhs; simp [-List.map_set, set_vnat, set_vnat1, set_vint, set_bool, opLen_vl, e1]) ?_
      refine vseg_done ?_
      repeat refine vw_seqAt rfl ?_
      refine vw_condT rfl rfl rfl ?_
      repeat refine vw_seqAt rfl ?_
      refine vw_regionRun rfl (by conv => lhs; reduce) (by conv => lhs; simp [-List.map_set, set_vnat, set_vnat1, set_vint, set_bool]) ?_
      refine vseg_done ?_
      repeat refine vw_seqAt rfl ?_
      refine vw_retAt rfl ?_
      exact Gives.same (Agree.refl S)
    · have e2 : (l.length : Int) ≤ a := by simp [G.okIx] at ha; omega
      repeat refine vw_seqAt rfl ?_
      refine vw_regionRun rfl (by conv => lhs; reduce) (by conv => lhs; simp [-List.map_set, set_vnat, set_vnat1, set_vint, set_bool, opLen_vl, e1, e2]) ?_
      refine vseg_done ?_
      repeat refine vw_seqAt rfl ?_
      refine vw_condT rfl rfl rfl ?_
      repeat refine vw_seqAt rfl ?_
      refine vw_regionRun rfl (by conv => lhs; reduce) (by conv => lhs; simp [-List.map_set, set_vnat, set_vnat1, set_vint, set_bool]) ?_
      refine vseg_done ?_
      repeat refine vw_seqAt rfl ?_
      refine vw_retAt rfl ?_
      exact Gives.same (Agree.refl S)
end Go.Vw
