import Derived.Test.YtgnoiaekmmfnmaaVSimp
import Derived.Test.YtgnoiaekmmfnmaaGRepeat
import Derived.Test.YtgnoiaekmmfnmaaGChk
import Derived.Test.YtgnoiaekmmfnmaaGOrder2
import Derived.Test.YtgnoiaekmmfnmaaGFromW
set_option linter.unusedVariables false
set_option linter.unusedSimpArgs false
namespace Go.Vw
open Go.Proofs Go.RowKit
set_option maxRecDepth 10000
set_option maxHeartbeats 4000000

theorem Meet_v (S : Store) (rank : List Nat) (near : List Int) (hrl : rank.length = near.length) (o7 o10 or on : Nat) (h7 : S.get o7 = some (1, [.slice or 0 rank.length])) (hr : S.get or = some (1, rank.map vnat)) (h10 : S.get o10 = some (1, [.slice on 0 near.length])) (hn : S.get on = some (1, near.map vint))
    (f : Nat) (a b c : Int) (hm : G.meetF rank near f a b = some c) : VCalls Try.prog 30 [vint a, vint b, .ptr o7 0, .ptr o10 0] S (fun r S' => r = vint c ∧ S' = S) := by
  refine vcalls_start (c := bodyOf Try.f30) Try.func30 rfl rfl (by simp [Try.ntmps30]) ?_
  rw [Try.ntmps30]
  intro hwf
  have lt : ∀ o c, S.get o = some c → o < S.nx := by
    intro o c ho
    rcases Nat.lt_or_ge o S.nx with h | h
    · exact h
    · rw [hwf.gone o h] at ho; cases ho
  have k7 := @St_old S [] [] o7 (lt _ _ h7)
  have kr := @St_old S [] [] or (lt _ _ hr)
  have k10 := @St_old S [] [] o10 (lt _ _ h10)
  have kn := @St_old S [] [] on (lt _ _ hn)
  repeat (first | refine vw_seqAt rfl ?_ | refine vw_scopeAt rfl ?_ | refine vw_labelAt rfl ?_ | refine vw_skipAt rfl ?_ | refine vw_exitAt _ rfl rfl ?_ | refine vw_retAt rfl ?_ | (refine vw_condT rfl rfl ?_ ?_; focus (simp [ev, Fr.look]; done)) | (refine vw_condF rfl rfl ?_ ?_; focus (simp [ev, Fr.look]; done)) | refine vw_blockAt _ rfl rfl ?_ | (apply vw_regionRun; (focus rfl); (focus ((conv => lhs; reduce); done)); (focus ((conv => lhs; simp [-List.map_set, set_vnat, set_vnat1, set_vint, set_bool]); done)); refine vseg_done ?_) | (apply vw_drawPlain; (focus rfl); (focus kernel_rfl); (focus ((conv => lhs; reduce); done)); (focus ((conv => lhs; reduce); done)); (focus (kernel_rfl)); (focus ((conv => lhs; simp [-List.map_set, set_vnat, set_vnat1, set_vint, set_bool]); done)); refine vseg_done ?_))
  repeat refine vw_seqAt rfl ?_
  refine vw_loopAt [0, 1, 2, 3] rfl (fun n σ S' => ∃ a b : Int, G.meetF rank near n a b = some c ∧ σ = [(0, vint a), (1, vint b), (2, .ptr o7 0), (3, .ptr o10 0)] ∧ S' = St S [] []) f ?_ ?_
  · exact ⟨a, b, hm, by simp [Fr.only, Fr.look, vint], rfl⟩
  · rintro n σ T ⟨a, b, hm, rfl, rfl⟩
    cases n with
    | zero => cases hm
    | succ n =>
      simp only [G.meetF] at hm
      by_cases hab : a = b
      · rw [if_pos hab] at hm
        cases hm
        subst hab
        repeat (first | refine vw_seqAt rfl ?_ | refine vw_scopeAt rfl ?_ | refine vw_labelAt rfl ?_ | refine vw_skipAt rfl ?_ | refine vw_exitAt _ rfl rfl ?_ | refine vw_retAt rfl ?_ | (refine vw_condT rfl rfl ?_ ?_; focus (simp [ev, Fr.look]; done)) | (refine vw_condF rfl rfl ?_ ?_; focus (simp [ev, Fr.look]; done)) | refine vw_blockAt _ rfl rfl ?_ | (apply vw_regionRun; (focus rfl); (focus ((conv => lhs; reduce); done)); (focus ((conv => lhs; simp [-List.map_set, set_vnat, set_vnat1, set_vint, set_bool]); done)); refine vseg_done ?_) | (apply vw_drawPlain; (focus rfl); (focus kernel_rfl); (focus ((conv => lhs; reduce); done)); (focus ((conv => lhs; reduce); done)); (focus (kernel_rfl)); (focus ((conv => lhs; simp [-List.map_set, set_vnat, set_vnat1, set_vint, set_bool]); done)); refine vseg_done ?_))
        exact done_pure hwf rfl rfl
      · rw [if_neg hab] at hm
        split at hm
        · rename_i hok
          obtain ⟨a0, a1, b0, b1⟩ := hok
          have ha : a.toNat < near.length := by omega
          have hb : b.toNat < near.length := by omega
          have har : a.toNat < rank.length := by omega
          have hbr : b.toNat < rank.length := by omega
          have a1' : a < (rank.length : Int) := by omega
          have b1' : b < (rank.length : Int) := by omega
          have e1 : rank.getD a.toNat 0 = rank[a.toNat] := by simp [har]
          have e2 : rank.getD b.toNat 0 = rank[b.toNat] := by simp [hbr]
          have e3 : near.getD a.toNat 0 = near[a.toNat] := by simp [ha]
          have e4 : near.getD b.toNat 0 = near[b.toNat] := by simp [hb]
          rw [e1, e2, e3, e4] at hm
          split at hm
          · rename_i hlt
            repeat (first | refine vw_seqAt rfl ?_ | refine vw_scopeAt rfl ?_ | refine vw_labelAt rfl ?_ | refine vw_skipAt rfl ?_ | refine vw_exitAt _ rfl rfl ?_ | refine vw_retAt rfl ?_ | (refine vw_condT rfl rfl ?_ ?_; focus (simp [ev, Fr.look]; done)) | (refine vw_condF rfl rfl ?_ ?_; focus (simp [ev, Fr.look]; done)) | refine vw_blockAt _ rfl rfl ?_ | (apply vw_regionRun; (focus rfl); (focus ((conv => lhs; reduce); done)); (focus ((conv => lhs; simp [-List.map_set, set_vnat, set_vnat1, set_vint, set_bool, k7, kr, k10, kn, h7, hr, h10, hn, hab, a0, a1, b0, b1, ha, hb, har, hbr, a1', b1', hlt]); done)); refine vseg_done ?_) | (apply vw_drawPlain; (focus rfl); (focus kernel_rfl); (focus ((conv => lhs; reduce); done)); (focus ((conv => lhs; reduce); done)); (focus (kernel_rfl)); (focus ((conv => lhs; simp [-List.map_set, set_vnat, set_vnat1, set_vint, set_bool, k7, kr, k10, kn, h7, hr, h10, hn, hab, a0, a1, b0, b1, ha, hb, har, hbr, a1', b1', hlt]); done)); refine vseg_done ?_))
            show Again _ _ _ _ _ _ _
            exact again ⟨Nat.lt_succ_self n, _, _, hm, by simp [Fr.only, Fr.look, vint], rfl⟩
          · rename_i hlt
            repeat (first | refine vw_seqAt rfl ?_ | refine vw_scopeAt rfl ?_ | refine vw_labelAt rfl ?_ | refine vw_skipAt rfl ?_ | refine vw_exitAt _ rfl rfl ?_ | refine vw_retAt rfl ?_ | (refine vw_condT rfl rfl ?_ ?_; focus (simp [ev, Fr.look]; done)) | (refine vw_condF rfl rfl ?_ ?_; focus (simp [ev, Fr.look]; done)) | refine vw_blockAt _ rfl rfl ?_ | (apply vw_regionRun; (focus rfl); (focus ((conv => lhs; reduce); done)); (focus ((conv => lhs; simp [-List.map_set, set_vnat, set_vnat1, set_vint, set_bool, k7, kr, k10, kn, h7, hr, h10, hn, hab, a0, a1, b0, b1, ha, hb, har, hbr, a1', b1', hlt]); done)); refine vseg_done ?_) | (apply vw_drawPlain; (focus rfl); (focus kernel_rfl); (focus ((conv => lhs; reduce); done)); (focus ((conv => lhs; reduce); done)); (focus (kernel_rfl)); (focus ((conv => lhs; simp [-List.map_set, set_vnat, set_vnat1, set_vint, set_bool, k7, kr, k10, kn, h7, hr, h10, hn, hab, a0, a1, b0, b1, ha, hb, har, hbr, a1', b1', hlt]); done)); refine vseg_done ?_))
            show Again _ _ _ _ _ _ _
            exact again ⟨Nat.lt_succ_self n, _, _, hm, by simp [Fr.only, Fr.look, vint], rfl⟩
        · cases hm
end Go.Vw
