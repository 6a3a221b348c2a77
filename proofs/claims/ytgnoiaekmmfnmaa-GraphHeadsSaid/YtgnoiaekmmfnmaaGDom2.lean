import Derived.Test.YtgnoiaekmmfnmaaVSimp
import Derived.Test.YtgnoiaekmmfnmaaProg
import Derived.Test.YtgnoiaekmmfnmaaVFin
import Derived.Test.YtgnoiaekmmfnmaaGSpec
set_option linter.unusedVariables false
set_option linter.unusedSimpArgs false
namespace Go.Vw
open Go.Proofs Go.RowKit
set_option maxRecDepth 10000
set_option maxHeartbeats 4000000

theorem RDominates_v (l : List Int) (a b : Int) (hl : l.length < 2^63) : VPure Try.prog 21 [vl vint l, vint a, vint b] (.bool (G.dominates l a b)) := by
  intro S
  refine vcalls_gives rfl ?_
  refine vcalls_body (c := bodyOf Try.f21) Try.func21 rfl rfl (by simp [Try.ntmps21]) ?_
  rw [Try.ntmps21]
  repeat refine vw_seqAt rfl ?_
  refine vw_regionRun rfl (by conv => lhs; reduce) (by conv => lhs; simp [-List.map_set, set_vnat, set_vnat1, set_vint, set_bool]) ?_
  refine vseg_done ?_
  by_cases ha : G.okIx l a
  · by_cases hb : G.okIx l b
    · obtain ⟨ha1, ha2⟩ := ha
      obtain ⟨hb1, hb2⟩ := hb
      have e1 : ¬ a < 0 := by omega
      have e2 : ¬ (l.length : Int) ≤ a := by omega
      have e3 : ¬ b < 0 := by omega
      have e4 : ¬ (l.length : Int) ≤ b := by omega
      repeat refine vw_seqAt rfl ?_
      refine vw_regionRun rfl (by conv => lhs; reduce) (by conv => lhs; simp [-List.map_set, set_vnat, set_vnat1, set_vint, set_bool, opLen_vl, e1, e2, e3, e4]) ?_
      refine vseg_done ?_
      repeat refine vw_seqAt rfl ?_
      refine vw_condF rfl rfl rfl ?_
      repeat refine vw_seqAt rfl ?_
      refine vw_skipAt rfl ?_
      repeat refine vw_seqAt rfl ?_
      refine vw_regionRun rfl (by conv => lhs; reduce) (by conv => lhs; simp [-List.map_set, set_vnat, set_vnat1, set_vint, set_bool]) ?_
      refine vseg_done ?_
      repeat refine vw_seqAt rfl ?_
      refine vw_blockAt 0 rfl rfl ?_
      repeat refine vw_seqAt rfl ?_
      refine vw_loopAt [0, 1, 2, 7] rfl (fun n σ S' => ∃ (k : Nat) (c : Int), k ≤ 257 ∧ n = 257 - k ∧ G.okIx l c ∧ G.dom1 l a (257 - k) c = G.dom1 l a 257 b ∧ σ = [(0, vl vint l), (1, vint a), (2, vint c), (7, vnat k)] ∧ S' = S) 257 ?_ ?_
      · exact ⟨0, b, by omega, rfl, ⟨hb1, hb2⟩, rfl, by simp [Fr.only, Fr.look, vnat, vint], rfl⟩
      · rintro n σ S' ⟨k, c, hk, rfl, hc, hd, rfl, rfl⟩
        have hfin : G.dominates l a b = G.dom1 l a 257 b := by simp [G.dominates, G.okIx, ha1, ha2]
        obtain ⟨hc1, hc2⟩ := hc
        have hcn : c.toNat < l.length := by omega
        repeat refine vw_seqAt rfl ?_
        refine vw_regionRun rfl (by conv => lhs; reduce) (by conv => lhs; simp [-List.map_set, set_vnat, set_vnat1, set_vint, set_bool]) ?_
        refine vseg_done ?_
        repeat refine vw_seqAt rfl ?_
        refine vw_condRun rfl rfl rfl (k ≤ 256) (by first | (simp; done) | (simp; omega)) ?_ ?_
        · intro hk6
          have hst : G.dom1 l a (257 - k) c = if a = c then true else G.dom1 l a (256 - k) (l[c.toNat]) := by
            rw [show 257 - k = (256 - k) + 1 from by omega, G.dom1, if_pos ⟨hc1, hc2⟩]
            simp [hcn]
          repeat refine vw_seqAt rfl ?_
          refine vw_skipAt rfl ?_
          repeat refine vw_seqAt rfl ?_
          refine vw_blockAt 1 rfl rfl ?_
          repeat refine vw_seqAt rfl ?_
          refine vw_regionRun rfl (by conv => lhs; reduce) (by conv => lhs; simp [-List.map_set, set_vnat, set_vnat1, set_vint, set_bool]) ?_
          refine vseg_done ?_
          repeat refine vw_seqAt rfl ?_
          refine vw_condRun rfl rfl rfl (a = c) (by first | (simp; done) | (simp; omega)) ?_ ?_
          · intro hac
            repeat refine vw_seqAt rfl ?_
            refine vw_regionRun rfl (by conv => lhs; reduce) (by conv => lhs; simp [-List.map_set, set_vnat, set_vnat1, set_vint, set_bool]) ?_
            refine vseg_done ?_
            repeat refine vw_seqAt rfl ?_
            refine vw_retAt rfl ?_
            rw [hfin, ← hd, hst, if_pos hac]
            exact Gives.same (Agree.refl S')
          · intro hac
            rw [if_neg hac] at hst
            repeat refine vw_seqAt rfl ?_
            refine vw_skipAt rfl ?_
            repeat refine vw_seqAt rfl ?_
            refine vw_regionRun rfl (by conv => lhs; reduce) (by conv => lhs; simp [-List.map_set, set_vnat, set_vnat1, set_vint, set_bool, opIndex_vlz, hc1, hcn]) ?_
            refine vseg_done ?_
            have fls : ¬ G.okIx l l[c.toNat] → G.dom1 l a (256 - k) l[c.toNat] = false := by
              intro h
              cases 256 - k <;> simp [G.dom1, h]
            by_cases hx : l[c.toNat] < 0
            · repeat refine vw_seqAt rfl ?_
              refine vw_regionRun rfl (by conv => lhs; reduce) (by conv => lhs; simp [-List.map_set, set_vnat, set_vnat1, set_vint, set_bool, opLen_vl, hx]) ?_
              refine vseg_done ?_
              repeat refine vw_seqAt rfl ?_
              refine vw_condT rfl rfl rfl ?_
              repeat refine vw_seqAt rfl ?_
              refine vw_regionRun rfl (by conv => lhs; reduce) (by conv => lhs; simp [-List.map_set, set_vnat, set_vnat1, set_vint, set_bool]) ?_
              refine vseg_done ?_
              repeat refine vw_seqAt rfl ?_
              refine vw_retAt rfl ?_
              rw [hfin, ← hd, hst, fls (by simp [G.okIx]; omega)]
              exact Gives.same (Agree.refl S')
            · by_cases hy : (l.length : Int) ≤ l[c.toNat]
              · repeat refine vw_seqAt rfl ?_
                refine vw_regionRun rfl (by conv => lhs; reduce) (by conv => lhs; simp [-List.map_set, set_vnat, set_vnat1, set_vint, set_bool, opLen_vl, hx, hy]) ?_
                refine vseg_done ?_
                repeat refine vw_seqAt rfl ?_
                refine vw_condT rfl rfl rfl ?_
                repeat refine vw_seqAt rfl ?_
                refine vw_regionRun rfl (by conv => lhs; reduce) (by conv => lhs; simp [-List.map_set, set_vnat, set_vnat1, set_vint, set_bool]) ?_
                refine vseg_done ?_
                repeat refine vw_seqAt rfl ?_
                refine vw_retAt rfl ?_
                rw [hfin, ← hd, hst, fls (by simp [G.okIx]; omega)]
                exact Gives.same (Agree.refl S')
              · repeat refine vw_seqAt rfl ?_
                refine vw_regionRun rfl (by conv => lhs; reduce) (by conv => lhs; simp [-List.map_set, set_vnat, set_vnat1, set_vint, set_bool, opLen_vl, hx, hy]) ?_
                refine vseg_done ?_
                repeat refine vw_seqAt rfl ?_
                refine vw_condF rfl rfl rfl ?_
                repeat refine vw_seqAt rfl ?_
                refine vw_skipAt rfl ?_
                have hw : IntKind.i64.wrap ((k : Int) + 1) = (k : Int) + 1 := wrap_i64 (by omega) (by omega)
                repeat refine vw_seqAt rfl ?_
                refine vw_regionRun rfl (by conv => lhs; reduce) (by conv => lhs; simp [-List.map_set, set_vnat, set_vnat1, set_vint, set_bool, hw]) ?_
                refine vseg_done ?_
                exact again ⟨Nat.sub_lt_sub_left (by omega) (Nat.lt_succ_self k), k + 1, l[c.toNat], by omega, rfl, ⟨by omega, by omega⟩, by rw [← hd, hst]; congr 1; omega, by simp [Fr.only, Fr.look, vnat, vint], rfl⟩
        · intro hk6
          repeat refine vw_seqAt rfl ?_
          refine vw_exitAt 0 rfl rfl ?_
          repeat refine vw_seqAt rfl ?_
          refine vw_regionRun rfl (by conv => lhs; reduce) (by conv => lhs; simp [-List.map_set, set_vnat, set_vnat1, set_vint, set_bool]) ?_
          refine vseg_done ?_
          repeat refine vw_seqAt rfl ?_
          refine vw_retAt rfl ?_
          rw [hfin, ← hd, show 257 - k = 0 from by omega]
          exact Gives.same (Agree.refl S')
    · have hfin : G.dominates l a b = false := by simp [G.dominates, G.dom1, hb]
      obtain ⟨ha1, ha2⟩ := ha
      have e1 : ¬ a < 0 := by omega
      have e2 : ¬ (l.length : Int) ≤ a := by omega
      rw [hfin]
      by_cases e3 : b < 0
      · repeat refine vw_seqAt rfl ?_
        refine vw_regionRun rfl (by conv => lhs; reduce) (by conv => lhs; simp [-List.map_set, set_vnat, set_vnat1, set_vint, set_bool, opLen_vl, e1, e2, e3]) ?_
        refine vseg_done ?_
        repeat refine vw_seqAt rfl ?_
        refine vw_condT rfl rfl rfl ?_
        repeat refine vw_seqAt rfl ?_
        refine vw_regionRun rfl (by conv => lhs; reduce) (by conv => lhs; simp [-List.map_set, set_vnat, set_vnat1, set_vint, set_bool]) ?_
        refine vseg_done ?_
        repeat refine vw_seqAt rfl ?_
        refine vw_retAt rfl ?_
        exact Gives.same (Agree.refl S)
      · have e4 : (l.length : Int) ≤ b := by simp [G.okIx] at hb; omega
        repeat refine vw_seqAt rfl ?_
        refine vw_regionRun rfl (by conv => lhs; reduce) (by conv => lhs; simp [-List.map_set, set_vnat, set_vnat1, set_vint, set_bool, opLen_vl, e1, e2, e3, e4]) ?_
        refine vseg_done ?_
        repeat refine vw_seqAt rfl ?_
        refine vw_condT rfl rfl rfl ?_
        repeat refine vw_seqAt rfl ?_
        refine vw_regionRun rfl (by conv => lhs; reduce) (by conv => lhs; simp [-List.map_set, set_vnat, set_vnat1, set_vint, set_bool]) ?_
        refine vseg_done ?_
        repeat refine vw_seqAt rfl ?_
        refine vw_retAt rfl ?_
        exact Gives.same (Agree.refl S)
  · have hfin : G.dominates l a b = false := by simp [G.dominates, ha]
    rw [hfin]
    by_cases e1 : a < 0
    · repeat refine vw_seqAt rfl ?_
      refine vw_regionRun rfl (by conv => lhs; reduce) (by conv => lhs; simp [-List.map_set, set_vnat, set_vnat1, set_vint, set_bool, opLen_vl, e1]) ?_
      refine vseg_done ?_
      repeat refine vw_seqAt rfl ?_
      refine vw_condT rfl rfl rfl ?_
      repeat refine vw_seqAt rfl ?_
      refine vw_regionRun rfl (by conv => lhs; reduce) (by conv => lhs; simp [-List.map_set, set_vnat, set_vnat1, set_vint, set_bool]) ?_
      refine vseg_done ?_
      repeat refine vw_seqAt rfl ?_
      refine vw_retAt rfl ?_
      exact Gives.same (Agree.refl S)
    · have e2 : (l.length : Int) ≤ a := by simp [G.okIx] at ha; omega
      repeat refine vw_seqAt rfl ?_
      refine vw_regionRun rfl (by conv => lhs; reduce) (by conv => lhs; simp [-List.map_set, set_vnat, set_vnat1, set_vint, set_bool, opLen_vl, e1, e2]) ?_
      refine vseg_done ?_
      repeat refine vw_seqAt rfl ?_
      refine vw_condT rfl rfl rfl ?_
      repeat refine vw_seqAt rfl ?_
      refine vw_regionRun rfl (by conv => lhs; reduce) (by conv => lhs; simp [-List.map_set, set_vnat, set_vnat1, set_vint, set_bool]) ?_
      refine vseg_done ?_
      repeat refine vw_seqAt rfl ?_
      refine vw_retAt rfl ?_
      exact Gives.same (Agree.refl S)
end Go.Vw

set_option linter.unusedVariables false
set_option linter.unusedSimpArgs false
namespace Go.Vw
open Go.Proofs Go.RowKit
set_option maxRecDepth 10000
set_option maxHeartbeats 4000000

theorem there_v (l : List Int) (n : Int) : VPure Try.prog 32 [vint n, .ref (vl vint l)] (.bool (decide (G.okIx l n))) := by
  intro S
  refine vcalls_gives rfl ?_
  refine vcalls_body (c := bodyOf Try.f32) Try.func32 rfl rfl (by simp [Try.ntmps32]) ?_
  rw [Try.ntmps32]
  repeat refine vw_seqAt rfl ?_
  refine vw_regionRun rfl (by conv => lhs; reduce) (by conv => lhs; simp [-List.map_set, set_vnat, set_vnat1, set_vint, set_bool]) ?_
  refine vseg_done ?_
  by_cases h0 : 0 ≤ n
  · repeat refine vw_seqAt rfl ?_
    refine vw_regionRun rfl (by conv => lhs; reduce) (by conv => lhs; simp [-List.map_set, set_vnat, set_vnat1, set_vint, set_bool, opLen_vl, h0]) ?_
    refine vseg_done ?_
    repeat refine vw_seqAt rfl ?_
    refine vw_retAt rfl ?_
    have : decide (G.okIx l n) = decide (n < (l.length : Int)) := by simp [G.okIx, h0]
    rw [this]
    exact Gives.same (Agree.refl S)
  · repeat refine vw_seqAt rfl ?_
    refine vw_regionRun rfl (by conv => lhs; reduce) (by conv => lhs; simp [-List.map_set, set_vnat, set_vnat1, set_vint, set_bool, opLen_vl, h0]) ?_
    refine vseg_done ?_
    repeat refine vw_seqAt rfl ?_
    refine vw_retAt rfl ?_
    have : decide (G.okIx l n) = false := by simp [G.okIx, h0]
    rw [this]
    exact Gives.same (Agree.refl S)

theorem Dominates_v (l : List Int) (a b : Int) (hl : l.length < 2^63) : VPure Try.prog 20 [vl vint l, vint a, vint b] (.bool (G.dominates l a b)) := by
  intro S
  refine vcalls_gives rfl ?_
  refine vcalls_body (c := bodyOf Try.f20) Try.func20 rfl rfl (by simp [Try.ntmps20]) ?_
  rw [Try.ntmps20]
  repeat refine vw_seqAt rfl ?_
  refine vw_regionRun rfl (by conv => lhs; reduce) (by conv => lhs; simp [-List.map_set, set_vnat, set_vnat1, set_vint, set_bool]) ?_
  refine vseg_done ?_
  refine vw_ghost' 3 rfl (Ghost.box (get_add _ _) (closed1_vl _ _)) (by conv => lhs; simp [Fr.set]) ?_
  have hag : Agree S ((S.add (1, [vl vint l])).del S.nx) := ((Agree.refl S).add _).del (Nat.le_refl _)
  generalize (S.add (1, [vl vint l])).del S.nx = S1 at hag ⊢
  repeat refine vw_seqAt rfl ?_
  refine vw_regionRun rfl (by conv => lhs; reduce) (by conv => lhs; simp [-List.map_set, set_vnat, set_vnat1, set_vint, set_bool]) ?_
  refine vseg_done ?_
  repeat refine vw_seqAt rfl ?_
  refine vw_regionRun rfl (by conv => lhs; reduce) (by conv => lhs; simp [-List.map_set, set_vnat, set_vnat1, set_vint, set_bool]) ?_
  refine vcallv_use rfl rfl rfl (there_v l a) ?_
  refine vseg_more (by conv => lhs; simp [-List.map_set, set_vnat, set_vnat1, set_vint, set_bool]) ?_
  refine vseg_done ?_
  by_cases ha : G.okIx l a
  · have hfin : G.dominates l a b = G.dom1 l a 257 b := by simp [G.dominates, ha]
    rw [hfin]
    refine vw_condF rfl rfl (by simp [ev, Fr.look, ha]) ?_
    repeat refine vw_seqAt rfl ?_
    refine vw_skipAt rfl ?_
    repeat refine vw_seqAt rfl ?_
    refine vw_regionRun rfl (by conv => lhs; reduce) (by conv => lhs; simp [-List.map_set, set_vnat, set_vnat1, set_vint, set_bool]) ?_
    refine vseg_done ?_
    repeat refine vw_seqAt rfl ?_
    refine vw_blockAt 0 rfl rfl ?_
    repeat refine vw_seqAt rfl ?_
    refine vw_loopAt [0, 1, 2, 3, 7, 8] rfl (fun n σ S' => ∃ (k : Nat) (c : Int), k ≤ 257 ∧ n = 257 - k ∧ G.dom1 l a (257 - k) c = G.dom1 l a 257 b ∧ σ = [(0, vl vint l), (1, vint a), (2, vint c), (3, .ref (vl vint l)), (7, .func 32 [.ref (vl vint l)]), (8, vnat k)] ∧ S' = S1) 257 ?_ ?_
    · exact ⟨0, b, by omega, rfl, rfl, by simp [Fr.only, Fr.look, vnat, vint], rfl⟩
    · rintro n σ S' ⟨k, c, hk, rfl, hd, rfl, rfl⟩
      by_cases hk6 : k ≤ 256
      · have hst : G.dom1 l a (257 - k) c = if G.okIx l c then (if a = c then true else G.dom1 l a (256 - k) (l.getD c.toNat 0)) else false := by
          rw [show 257 - k = (256 - k) + 1 from by omega, G.dom1]
        have h7 : (k : Int) ≤ 256 := by omega
        repeat refine vw_seqAt rfl ?_
        refine vw_regionRun rfl (by conv => lhs; reduce) (by conv => lhs; simp [-List.map_set, set_vnat, set_vnat1, set_vint, set_bool, h7]) ?_
        refine vcallv_use rfl rfl rfl (there_v l c) ?_
        refine vseg_more (by conv => lhs; simp [-List.map_set, set_vnat, set_vnat1, set_vint, set_bool]) ?_
        refine vseg_done ?_
        by_cases hc : G.okIx l c
        · refine vw_condT rfl rfl (by simp [ev, Fr.look, hc]) ?_
          rw [if_pos hc] at hst
          obtain ⟨hc1, hc2⟩ := hc
          have hcn : c.toNat < l.length := by omega
          repeat refine vw_seqAt rfl ?_
          refine vw_skipAt rfl ?_
          repeat refine vw_seqAt rfl ?_
          refine vw_blockAt 1 rfl rfl ?_
          repeat refine vw_seqAt rfl ?_
          refine vw_regionRun rfl (by conv => lhs; reduce) (by conv => lhs; simp [-List.map_set, set_vnat, set_vnat1, set_vint, set_bool]) ?_
          refine vseg_done ?_
          repeat refine vw_seqAt rfl ?_
          refine vw_condRun rfl rfl rfl (a = c) (by first | (simp; done) | (simp; omega)) ?_ ?_
          · intro hac
            repeat refine vw_seqAt rfl ?_
            refine vw_regionRun rfl (by conv => lhs; reduce) (by conv => lhs; simp [-List.map_set, set_vnat, set_vnat1, set_vint, set_bool]) ?_
            refine vseg_done ?_
            repeat refine vw_seqAt rfl ?_
            refine vw_retAt rfl ?_
            rw [← hd, hst, if_pos hac]
            exact Gives.same hag
          · intro hac
            rw [if_neg hac] at hst
            have hw : IntKind.i64.wrap ((k : Int) + 1) = (k : Int) + 1 := wrap_i64 (by omega) (by omega)
            repeat refine vw_seqAt rfl ?_
            refine vw_skipAt rfl ?_
            repeat refine vw_seqAt rfl ?_
            refine vw_regionRun rfl (by conv => lhs; reduce) (by conv => lhs; simp [-List.map_set, set_vnat, set_vnat1, set_vint, set_bool, opIndex_vlz, hc1, hcn]) ?_
            refine vseg_done ?_
            repeat refine vw_seqAt rfl ?_
            refine vw_regionRun rfl (by conv => lhs; reduce) (by conv => lhs; simp [-List.map_set, set_vnat, set_vnat1, set_vint, set_bool, hw]) ?_
            refine vseg_done ?_
            exact again ⟨Nat.sub_lt_sub_left (by omega) (Nat.lt_succ_self k), k + 1, l[c.toNat], by omega, rfl, by rw [← hd, hst, show 257 - (k + 1) = 256 - k from by omega]; simp [hcn], by simp [Fr.only, Fr.look, vnat, vint], rfl⟩
        · refine vw_condF rfl rfl (by simp [ev, Fr.look, hc]) ?_
          repeat refine vw_seqAt rfl ?_
          refine vw_exitAt 0 rfl rfl ?_
          repeat refine vw_seqAt rfl ?_
          refine vw_regionRun rfl (by conv => lhs; reduce) (by conv => lhs; simp [-List.map_set, set_vnat, set_vnat1, set_vint, set_bool]) ?_
          refine vseg_done ?_
          repeat refine vw_seqAt rfl ?_
          refine vw_retAt rfl ?_
          rw [← hd, hst, if_neg hc]
          exact Gives.same hag
      · have h7 : ¬ (k : Int) ≤ 256 := by omega
        repeat refine vw_seqAt rfl ?_
        refine vw_regionRun rfl (by conv => lhs; reduce) (by conv => lhs; simp [-List.map_set, set_vnat, set_vnat1, set_vint, set_bool, h7]) ?_
        refine vseg_done ?_
        repeat refine vw_seqAt rfl ?_
        refine vw_condF rfl rfl rfl ?_
        repeat refine vw_seqAt rfl ?_
        refine vw_exitAt 0 rfl rfl ?_
        repeat refine vw_seqAt rfl ?_
        refine vw_regionRun rfl (by conv => lhs; reduce) (by conv => lhs; simp [-List.map_set, set_vnat, set_vnat1, set_vint, set_bool]) ?_
        refine vseg_done ?_
        repeat refine vw_seqAt rfl ?_
        refine vw_retAt rfl ?_
        rw [← hd, show 257 - k = 0 from by omega]
        exact Gives.same hag
  · have hfin : G.dominates l a b = false := by simp [G.dominates, ha]
    rw [hfin]
    refine vw_condT rfl rfl (by simp [ev, Fr.look, ha]) ?_
    repeat refine vw_seqAt rfl ?_
    refine vw_regionRun rfl (by conv => lhs; reduce) (by conv => lhs; simp [-List.map_set, set_vnat, set_vnat1, set_vint, set_bool]) ?_
    refine vseg_done ?_
    repeat refine vw_seqAt rfl ?_
    refine vw_retAt rfl ?_
    exact Gives.same hag
end Go.Vw
