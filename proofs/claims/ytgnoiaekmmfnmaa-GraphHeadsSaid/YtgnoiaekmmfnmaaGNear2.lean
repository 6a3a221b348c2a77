import Derived.Test.YtgnoiaekmmfnmaaVSimp
import Derived.Test.YtgnoiaekmmfnmaaGNear
set_option linter.unusedVariables false
set_option linter.unusedSimpArgs false
namespace Go.Vw
open Go.Proofs Go.RowKit
set_option maxRecDepth 10000
set_option maxHeartbeats 8000000

theorem gOrd_v (g : List (List Nat)) (hg : G.Ok g) : VPure Try.prog 25 [vl (vl vnat) g] (vl vnat (G.order g)) := by
  obtain ⟨t, h1, h2, h3⟩ := G.order_ends hg
  have hp := hg.pos
  have hm := hg.max
  have e : g.length = (g.length - 1) + 1 := by omega
  have := gOrder_v g hg (g.length - 1) t (by rw [← e]; exact h1) (by omega)
  simpa [G.order, h1] using this

theorem NearestErr_v (g : List (List Int)) (hg : g.length < 2^63) (hl : ∀ l ∈ g, l.length < 2^63) (hr : G.right g = false) : VPure Try.prog 18 [vl (vl vint) g] (.tuple [vl vint [], vint 1]) := by
  intro S
  refine vcalls_start (c := bodyOf Try.f18) Try.func18 rfl rfl (by simp [Try.ntmps18]) ?_
  rw [Try.ntmps18]
  intro hwf
  repeat (first | refine vw_seqAt rfl ?_ | refine vw_scopeAt rfl ?_ | refine vw_labelAt rfl ?_ | refine vw_skipAt rfl ?_ | refine vw_exitAt _ rfl rfl ?_ | refine vw_retAt rfl ?_ | (refine vw_condT rfl rfl ?_ ?_; focus (simp [ev, Fr.look]; done)) | (refine vw_condF rfl rfl ?_ ?_; focus (simp [ev, Fr.look]; done)) | refine vw_blockAt _ rfl rfl ?_ | (apply vw_regionRun; (focus rfl); (focus ((conv => lhs; reduce); done)); (focus ((conv => lhs; simp [-List.map_set, set_vnat, set_vnat1, set_vint, set_bool]); done)); refine vseg_done ?_) | (apply vw_drawPlain; (focus rfl); (focus kernel_rfl); (focus ((conv => lhs; reduce); done)); (focus ((conv => lhs; reduce); done)); (focus (kernel_rfl)); (focus ((conv => lhs; simp [-List.map_set, set_vnat, set_vnat1, set_vint, set_bool]); done)); refine vseg_done ?_))
  repeat refine vw_seqAt rfl ?_
  refine vw_regionRun rfl (by conv => lhs; reduce) (by conv => lhs; simp [-List.map_set, set_vnat, set_vnat1, set_vint, set_bool]) ?_
  refine vcall_use rfl (FromErr_v g hg hl hr) ?_
  refine vseg_more (by conv => lhs; simp [-List.map_set, set_vnat, set_vnat1, set_vint, set_bool]) ?_
  refine vseg_done ?_
  repeat (first | refine vw_seqAt rfl ?_ | refine vw_scopeAt rfl ?_ | refine vw_labelAt rfl ?_ | refine vw_skipAt rfl ?_ | refine vw_exitAt _ rfl rfl ?_ | refine vw_retAt rfl ?_ | (refine vw_condT rfl rfl ?_ ?_; focus (simp [ev, Fr.look]; done)) | (refine vw_condF rfl rfl ?_ ?_; focus (simp [ev, Fr.look]; done)) | refine vw_blockAt _ rfl rfl ?_ | (apply vw_regionRun; (focus rfl); (focus ((conv => lhs; reduce); done)); (focus ((conv => lhs; simp [-List.map_set, set_vnat, set_vnat1, set_vint, set_bool]); done)); refine vseg_done ?_) | (apply vw_drawPlain; (focus rfl); (focus kernel_rfl); (focus ((conv => lhs; reduce); done)); (focus ((conv => lhs; reduce); done)); (focus (kernel_rfl)); (focus ((conv => lhs; simp [-List.map_set, set_vnat, set_vnat1, set_vint, set_bool]); done)); refine vseg_done ?_))
  exact done_via (l := []) hwf ((Ghost.tuple [] [vint 1] (Ghost.nils_list _)).toB _) rfl

/-- The objects of Nearest: the ranks and their box, what Repeat was given, the nearest ones and their box. -/
def nearSt (S : Store) (rank : List Nat) (near : List Int) : Store :=
  St S [] [some (1, rank.map vnat), some (1, [.slice (lid S.nx 0) 0 rank.length]), some (1, [.int .i64 (-1)]), some (1, near.map vint), some (1, [.slice (lid S.nx 3) 0 near.length])]

theorem Nearest_v (g : List (List Nat)) (hg : G.Ok g) (hr : VPure Try.prog 14 [vl (vl vnat) g] (.bool true)) (l : List Nat) (hl : G.order g = l) (hl1 : 1 ≤ l.length) (hlt : ∀ x ∈ l, x < g.length) (fr : List (List Nat)) (hfr : G.froms g = fr) (hfl : fr.length = g.length) (hfe : ∀ r ∈ fr, ∀ x ∈ r, x < g.length) (hfm : ∀ r ∈ fr, r.length ≤ 2^20)
    (hll : l.length ≤ g.length) (F K : Nat) (nearF : List Int) (hchk : G.chk (G.rankTo g.length l l.length) fr F l.tail K ((List.replicate g.length (-1)).set 0 0) = some nearF) :
    VPure Try.prog 18 [vl (vl vnat) g] (.tuple [vl vint (nearF.set 0 (-1)), vint 0]) := by
  intro S
  refine vcalls_start (c := bodyOf Try.f18) Try.func18 rfl rfl (by simp [Try.ntmps18]) ?_
  rw [Try.ntmps18]
  intro hwf
  have hp : 0 < g.length := hg.pos
  have hm256 := hg.max
  have hb8 : g.length * 8 ≤ 140737488355328 := by omega
  have hb0 : g.length ≤ 140737488355328 := by omega
  repeat refine vw_seqAt rfl ?_
  refine vw_regionRun rfl (by conv => lhs; reduce) (by conv => lhs; simp [-List.map_set, set_vnat, set_vnat1, set_vint, set_bool]) ?_
  refine vseg_done ?_
  repeat refine vw_seqAt rfl ?_
  refine vw_regionRun rfl (by conv => lhs; reduce) (by conv => lhs; simp [-List.map_set, set_vnat, set_vnat1, set_vint, set_bool]) ?_
  refine vcall_use rfl (hfr ▸ From_v g hg hr) ?_
  refine vseg_more (by conv => lhs; simp [-List.map_set, set_vnat, set_vnat1, set_vint, set_bool]) ?_
  refine vseg_done ?_
  repeat (first | refine vw_seqAt rfl ?_ | refine vw_scopeAt rfl ?_ | refine vw_labelAt rfl ?_ | refine vw_skipAt rfl ?_ | refine vw_exitAt _ rfl rfl ?_ | refine vw_retAt rfl ?_ | (refine vw_condT rfl rfl ?_ ?_; focus (simp [ev, Fr.look]; done)) | (refine vw_condF rfl rfl ?_ ?_; focus (simp [ev, Fr.look]; done)) | refine vw_blockAt _ rfl rfl ?_ | (apply vw_regionRun; (focus rfl); (focus ((conv => lhs; reduce); done)); (focus ((conv => lhs; simp [-List.map_set, set_vnat, set_vnat1, set_vint, set_bool]); done)); refine vseg_done ?_) | (apply vw_drawPlain; (focus rfl); (focus kernel_rfl); (focus ((conv => lhs; reduce); done)); (focus ((conv => lhs; reduce); done)); (focus (kernel_rfl)); (focus ((conv => lhs; simp [-List.map_set, set_vnat, set_vnat1, set_vint, set_bool]); done)); refine vseg_done ?_))
  repeat refine vw_seqAt rfl ?_
  refine vw_regionRun rfl (by conv => lhs; reduce) (by conv => lhs; simp [-List.map_set, set_vnat, set_vnat1, set_vint, set_bool]) ?_
  refine vcall_use rfl (hl ▸ gOrd_v g hg) ?_
  refine vseg_more (by conv => lhs; simp [-List.map_set, set_vnat, set_vnat1, set_vint, set_bool]) ?_
  refine vseg_done ?_
  repeat (first | refine vw_seqAt rfl ?_ | refine vw_scopeAt rfl ?_ | refine vw_labelAt rfl ?_ | refine vw_skipAt rfl ?_ | refine vw_exitAt _ rfl rfl ?_ | refine vw_retAt rfl ?_ | (refine vw_condT rfl rfl ?_ ?_; focus (simp [ev, Fr.look]; done)) | (refine vw_condF rfl rfl ?_ ?_; focus (simp [ev, Fr.look]; done)) | refine vw_blockAt _ rfl rfl ?_ | (apply vw_regionRun; (focus rfl); (focus ((conv => lhs; reduce); done)); (focus ((conv => lhs; simp [-List.map_set, set_vnat, set_vnat1, set_vint, set_bool, hb8, hb0]); done)); refine vseg_done ?_) | (apply vw_drawPlain; (focus rfl); (focus kernel_rfl); (focus ((conv => lhs; reduce); done)); (focus ((conv => lhs; reduce); done)); (focus (kernel_rfl)); (focus ((conv => lhs; simp [-List.map_set, set_vnat, set_vnat1, set_vint, set_bool, hb8, hb0]); done)); refine vseg_done ?_))
  repeat refine vw_seqAt rfl ?_
  refine vw_loopAt [0, 4, 6, 7, 31, 32, 33] rfl (fun c σ S' => ∃ k : Nat, k ≤ l.length ∧ c = l.length - k ∧ σ = [(0, vl (vl vnat) g), (4, vl (vl vnat) fr), (6, vl vnat l), (7, .ptr (lid S.nx 1) 0), (31, vl vnat l), (32, vnat l.length), (33, vnat k)] ∧ S' = St S [] [some (1, (G.rankTo g.length l k).map vnat), some (1, [.slice (lid S.nx 0) 0 g.length])]) l.length ?_ ?_
  · exact ⟨0, by omega, rfl, by simp [Fr.only, Fr.look, vnat], by simp [G.rankTo, vnat]⟩
  · rintro c σ T ⟨k, hk, rfl, rfl, rfl⟩
    have hrl := G.rankTo_len g.length l k
    by_cases hkt : k < l.length
    · have hw : IntKind.i64.wrap ((k : Int) + 1) = (k : Int) + 1 := wrap_i64 (by omega) (by omega)
      have hlk := hlt _ (List.getElem_mem hkt)
      have hst : G.rankTo g.length l (k + 1) = (G.rankTo g.length l k).set l[k] k := by simp [G.rankTo, hkt]
      repeat (first | refine vw_seqAt rfl ?_ | refine vw_scopeAt rfl ?_ | refine vw_labelAt rfl ?_ | refine vw_skipAt rfl ?_ | refine vw_exitAt _ rfl rfl ?_ | refine vw_retAt rfl ?_ | (refine vw_condT rfl rfl ?_ ?_; focus (simp [ev, Fr.look]; done)) | (refine vw_condF rfl rfl ?_ ?_; focus (simp [ev, Fr.look]; done)) | refine vw_blockAt _ rfl rfl ?_ | (apply vw_regionRun; (focus rfl); (focus ((conv => lhs; reduce); done)); (focus ((conv => lhs; simp [-List.map_set, set_vnat, set_vnat1, set_vint, set_bool, hkt, hlk, hrl]); done)); refine vseg_done ?_) | (apply vw_drawPlain; (focus rfl); (focus kernel_rfl); (focus ((conv => lhs; reduce); done)); (focus ((conv => lhs; reduce); done)); (focus (kernel_rfl)); (focus ((conv => lhs; simp [-List.map_set, set_vnat, set_vnat1, set_vint, set_bool, hkt, hlk, hrl]); done)); refine vseg_done ?_))
      show Again _ _ _ _ _ _ _
      exact again ⟨Nat.sub_lt_sub_left hkt (Nat.lt_succ_self k), k + 1, hkt, rfl, by simp [Fr.only, Fr.look, vnat, hw], by rw [hst]⟩
    · have hkl : k = l.length := by omega
      subst hkl
      repeat (first | refine vw_seqAt rfl ?_ | refine vw_scopeAt rfl ?_ | refine vw_labelAt rfl ?_ | refine vw_skipAt rfl ?_ | refine vw_exitAt _ rfl rfl ?_ | refine vw_retAt rfl ?_ | (refine vw_condT rfl rfl ?_ ?_; focus (simp [ev, Fr.look]; done)) | (refine vw_condF rfl rfl ?_ ?_; focus (simp [ev, Fr.look]; done)) | refine vw_blockAt _ rfl rfl ?_ | (apply vw_regionRun; (focus rfl); (focus ((conv => lhs; reduce); done)); (focus ((conv => lhs; simp [-List.map_set, set_vnat, set_vnat1, set_vint, set_bool, hkt]); done)); refine vseg_done ?_) | (apply vw_drawPlain; (focus rfl); (focus kernel_rfl); (focus ((conv => lhs; reduce); done)); (focus ((conv => lhs; reduce); done)); (focus (kernel_rfl)); (focus ((conv => lhs; simp [-List.map_set, set_vnat, set_vnat1, set_vint, set_bool, hkt]); done)); refine vseg_done ?_))
      repeat refine vw_seqAt rfl ?_
      refine vw_regionRun rfl (by conv => lhs; reduce) (by conv => lhs; simp [-List.map_set, set_vnat, set_vnat1, set_vint, set_bool]) ?_
      refine vcall_any rfl (Repeat_v _ (lid S.nx 2) (-1) g.length hp (by omega) ?_) ?_
      · simp [St_get]
      rintro X T ⟨rfl, rfl⟩
      generalize hrank : G.rankTo g.length l l.length = rank at hchk hrl ⊢
      refine vseg_more (by conv => lhs; simp [-List.map_set, set_vnat, set_vnat1, set_vint, set_bool]) ?_
      refine vseg_done ?_
      have hn0 : ((List.replicate g.length (-1 : Int)).set 0 0).length = g.length := by simp
      repeat (first | refine vw_seqAt rfl ?_ | refine vw_scopeAt rfl ?_ | refine vw_labelAt rfl ?_ | refine vw_skipAt rfl ?_ | refine vw_exitAt _ rfl rfl ?_ | refine vw_retAt rfl ?_ | (refine vw_condT rfl rfl ?_ ?_; focus (simp [ev, Fr.look]; done)) | (refine vw_condF rfl rfl ?_ ?_; focus (simp [ev, Fr.look]; done)) | refine vw_blockAt _ rfl rfl ?_ | (apply vw_regionRun; (focus rfl); (focus ((conv => lhs; reduce); done)); (focus ((conv => lhs; simp [-List.map_set, set_vnat, set_vnat1, set_vint, set_bool, hp]); done)); refine vseg_done ?_) | (apply vw_drawPlain; (focus rfl); (focus kernel_rfl); (focus ((conv => lhs; reduce); done)); (focus ((conv => lhs; reduce); done)); (focus (kernel_rfl)); (focus ((conv => lhs; simp [-List.map_set, set_vnat, set_vnat1, set_vint, set_bool, hp]); done)); refine vseg_done ?_))
      repeat refine vw_seqAt rfl ?_
      refine vw_loopAt [0, 4, 6, 7, 10, 11, 12] rfl (fun c σ S' => ∃ near : List Int, near.length = g.length ∧ ((c = 0 ∧ near = nearF ∧ σ = [(0, vl (vl vnat) g), (4, vl (vl vnat) fr), (6, vl vnat l), (7, .ptr (lid S.nx 1) 0), (10, .ptr (lid S.nx 4) 0), (11, .func 30 [.ptr (lid S.nx 1) 0, .ptr (lid S.nx 4) 0]), (12, .bool false)]) ∨ (G.chk rank fr F l.tail c near = some nearF ∧ σ = [(0, vl (vl vnat) g), (4, vl (vl vnat) fr), (6, vl vnat l), (7, .ptr (lid S.nx 1) 0), (10, .ptr (lid S.nx 4) 0), (11, .func 30 [.ptr (lid S.nx 1) 0, .ptr (lid S.nx 4) 0]), (12, .bool true)])) ∧ S' = nearSt S rank near) K ?_ ?_
      · refine ⟨_, hn0, .inr ⟨hchk, by simp [Fr.only, Fr.look, vnat]⟩, ?_⟩
        simp [nearSt, hrl, vint, List.map_set]
      · rintro c σ T ⟨near, hnl, ⟨rfl, rfl, rfl⟩ | ⟨hc, rfl⟩, rfl⟩
        · have hp' : 0 < near.length := by omega
          unfold nearSt
          repeat (first | refine vw_seqAt rfl ?_ | refine vw_scopeAt rfl ?_ | refine vw_labelAt rfl ?_ | refine vw_skipAt rfl ?_ | refine vw_exitAt _ rfl rfl ?_ | refine vw_retAt rfl ?_ | (refine vw_condT rfl rfl ?_ ?_; focus (simp [ev, Fr.look]; done)) | (refine vw_condF rfl rfl ?_ ?_; focus (simp [ev, Fr.look]; done)) | refine vw_blockAt _ rfl rfl ?_ | (apply vw_regionRun; (focus rfl); (focus ((conv => lhs; reduce); done)); (focus ((conv => lhs; simp [-List.map_set, set_vnat, set_vnat1, set_vint, set_bool, hp']); done)); refine vseg_done ?_) | (apply vw_drawPlain; (focus rfl); (focus kernel_rfl); (focus ((conv => lhs; reduce); done)); (focus ((conv => lhs; reduce); done)); (focus (kernel_rfl)); (focus ((conv => lhs; simp [-List.map_set, set_vnat, set_vnat1, set_vint, set_bool, hp']); done)); refine vseg_done ?_))
          have hfz := frz1 (B := S) (u := []) (l := [some (1, rank.map vnat), some (1, [.slice (lid S.nx 0) 0 rank.length]), some (1, [.int .i64 (-1)]), some (1, (near.set 0 (-1)).map vint), some (1, [.slice (lid S.nx 3) 0 near.length])]) (k := 3) (len := near.length) (by simp) rfl (all_closed1 vint (fun _ => rfl) _) (by simp)
          exact done_via hwf ((Ghost.tuple [] [vint 0] hfz).toB _) rfl
        · cases c with
          | zero => cases hc
          | succ c =>
            simp only [G.chk] at hc
            obtain ⟨s, hsw, hc⟩ := Option.bind_eq_some_iff.1 hc
            have hl1' : (1 : Int) ≤ (l.length : Int) := by omega
            repeat (first | refine vw_seqAt rfl ?_ | refine vw_scopeAt rfl ?_ | refine vw_labelAt rfl ?_ | refine vw_skipAt rfl ?_ | refine vw_exitAt _ rfl rfl ?_ | refine vw_retAt rfl ?_ | (refine vw_condT rfl rfl ?_ ?_; focus (simp [ev, Fr.look]; done)) | (refine vw_condF rfl rfl ?_ ?_; focus (simp [ev, Fr.look]; done)) | refine vw_blockAt _ rfl rfl ?_ | (apply vw_regionRun; (focus rfl); (focus ((conv => lhs; reduce); done)); (focus ((conv => lhs; simp [-List.map_set, set_vnat, set_vnat1, set_vint, set_bool, hl1']); done)); refine vseg_done ?_) | (apply vw_drawPlain; (focus rfl); (focus kernel_rfl); (focus ((conv => lhs; reduce); done)); (focus ((conv => lhs; reduce); done)); (focus (kernel_rfl)); (focus ((conv => lhs; simp [-List.map_set, set_vnat, set_vnat1, set_vint, set_bool, hl1']); done)); refine vseg_done ?_))
            repeat refine vw_seqAt rfl ?_
            refine vw_loopAt [0, 4, 6, 7, 10, 11, 12, 52, 53, 54] rfl (fun c σ S' => ∃ (k : Nat) (near : List Int) (t : Bool), near.length = g.length ∧ k ≤ l.tail.length ∧ c = l.tail.length - k ∧ G.sweepF rank fr F (l.tail.drop k) near t = some s ∧ σ = [(0, vl (vl vnat) g), (4, vl (vl vnat) fr), (6, vl vnat l), (7, .ptr (lid S.nx 1) 0), (10, .ptr (lid S.nx 4) 0), (11, .func 30 [.ptr (lid S.nx 1) 0, .ptr (lid S.nx 4) 0]), (12, .bool t), (52, vl vnat l.tail), (53, vnat (l.length - 1)), (54, vnat k)] ∧ S' = nearSt S rank near) l.tail.length ?_ ?_
            · exact ⟨0, near, false, hnl, by omega, rfl, hsw, by simp [Fr.only, Fr.look, vnat], rfl⟩
            · rintro c' σ T ⟨k, near, t, hnl, hk, rfl, hsw, rfl, rfl⟩
              have htl : l.tail.length = l.length - 1 := by simp
              by_cases hkt : k < l.tail.length
              · have hw : IntKind.i64.wrap ((k : Int) + 1) = (k : Int) + 1 := wrap_i64 (by omega) (by omega)
                have hkt' : k < l.length - 1 := by omega
                have hk1 : k + 1 < l.length := by omega
                have hel : l[k + 1] = l.tail[k] := by simp
                rw [List.drop_eq_getElem_cons hkt, G.sweepF] at hsw
                obtain ⟨b, hpk, hsw⟩ := Option.bind_eq_some_iff.1 hsw
                have hlk := hlt _ (List.mem_of_mem_tail (List.getElem_mem hkt))
                generalize hn : l.tail[k] = n at hpk hsw hlk hel
                have hnf : n < fr.length := by omega
                have hfn : fr.getD n [] = fr[n] := by simp [hnf]
                rw [hfn] at hpk
                have hmr := hfe _ (List.getElem_mem hnf)
                have hmm := hfm _ (List.getElem_mem hnf)
                have hnn : n < near.length := by omega
                have hng : near.getD n 0 = near[n] := by simp [hnn]
                rw [hng] at hsw
                unfold nearSt
                repeat (first | refine vw_seqAt rfl ?_ | refine vw_scopeAt rfl ?_ | refine vw_labelAt rfl ?_ | refine vw_skipAt rfl ?_ | refine vw_exitAt _ rfl rfl ?_ | refine vw_retAt rfl ?_ | (refine vw_condT rfl rfl ?_ ?_; focus (simp [ev, Fr.look]; done)) | (refine vw_condF rfl rfl ?_ ?_; focus (simp [ev, Fr.look]; done)) | refine vw_blockAt _ rfl rfl ?_ | (apply vw_regionRun; (focus rfl); (focus ((conv => lhs; reduce); done)); (focus ((conv => lhs; simp [-List.map_set, set_vnat, set_vnat1, set_vint, set_bool, hkt', hk1, hel, hnf]); done)); refine vseg_done ?_) | (apply vw_drawPlain; (focus rfl); (focus kernel_rfl); (focus ((conv => lhs; reduce); done)); (focus ((conv => lhs; reduce); done)); (focus (kernel_rfl)); (focus ((conv => lhs; simp [-List.map_set, set_vnat, set_vnat1, set_vint, set_bool, hkt', hk1, hel, hnf]); done)); refine vseg_done ?_))
                repeat refine vw_seqAt rfl ?_
                refine vw_loopAt [0, 4, 6, 7, 10, 11, 12, 14, 15, 52, 53, 54, 61, 62, 63] rfl (fun c σ S' => ∃ (j : Nat) (best : Int), j ≤ fr[n].length ∧ c = fr[n].length - j ∧ G.pickF rank near F (fr[n].drop j) best = some b ∧ σ = [(0, vl (vl vnat) g), (4, vl (vl vnat) fr), (6, vl vnat l), (7, .ptr (lid S.nx 1) 0), (10, .ptr (lid S.nx 4) 0), (11, .func 30 [.ptr (lid S.nx 1) 0, .ptr (lid S.nx 4) 0]), (12, .bool t), (14, vnat n), (15, vint best), (52, vl vnat l.tail), (53, vnat (l.length - 1)), (54, vnat k), (61, vl vnat fr[n]), (62, vnat fr[n].length), (63, vnat j)] ∧ S' = nearSt S rank near) fr[n].length ?_ ?_
                · exact ⟨0, -1, by omega, rfl, hpk, by simp [Fr.only, Fr.look, vnat, vint], rfl⟩
                · rintro c'' σ T ⟨j, best, hj, rfl, hpk, rfl, rfl⟩
                  by_cases hjt : j < fr[n].length
                  · have hwj : IntKind.i64.wrap ((j : Int) + 1) = (j : Int) + 1 := wrap_i64 (by omega) (by omega)
                    rw [List.drop_eq_getElem_cons hjt, G.pickF] at hpk
                    have hpg := hmr _ (List.getElem_mem hjt)
                    generalize hp' : fr[n][j] = p at hpk hpg
                    have hpn : p < near.length := by omega
                    have hpd : near.getD p 0 = near[p] := by simp [hpn]
                    rw [hpd] at hpk
                    unfold nearSt
                    by_cases h1 : near[p] < 0
                    · rw [if_pos h1] at hpk
                      repeat (first | refine vw_seqAt rfl ?_ | refine vw_scopeAt rfl ?_ | refine vw_labelAt rfl ?_ | refine vw_skipAt rfl ?_ | refine vw_exitAt _ rfl rfl ?_ | refine vw_retAt rfl ?_ | (refine vw_condT rfl rfl ?_ ?_; focus (simp [ev, Fr.look]; done)) | (refine vw_condF rfl rfl ?_ ?_; focus (simp [ev, Fr.look]; done)) | refine vw_blockAt _ rfl rfl ?_ | (apply vw_regionRun; (focus rfl); (focus ((conv => lhs; reduce); done)); (focus ((conv => lhs; simp [-List.map_set, set_vnat, set_vnat1, set_vint, set_bool, hjt, hp', hpn, h1]); done)); refine vseg_done ?_) | (apply vw_drawPlain; (focus rfl); (focus kernel_rfl); (focus ((conv => lhs; reduce); done)); (focus ((conv => lhs; reduce); done)); (focus (kernel_rfl)); (focus ((conv => lhs; simp [-List.map_set, set_vnat, set_vnat1, set_vint, set_bool, hjt, hp', hpn, h1]); done)); refine vseg_done ?_))
                      show Again _ _ _ _ _ _ _
                      exact again ⟨Nat.sub_lt_sub_left hjt (Nat.lt_succ_self j), j + 1, best, hjt, rfl, hpk, by simp [Fr.only, Fr.look, vnat, vint, hwj], rfl⟩
                    · rw [if_neg h1] at hpk
                      by_cases h2 : best < 0
                      · rw [if_pos h2] at hpk
                        repeat (first | refine vw_seqAt rfl ?_ | refine vw_scopeAt rfl ?_ | refine vw_labelAt rfl ?_ | refine vw_skipAt rfl ?_ | refine vw_exitAt _ rfl rfl ?_ | refine vw_retAt rfl ?_ | (refine vw_condT rfl rfl ?_ ?_; focus (simp [ev, Fr.look]; done)) | (refine vw_condF rfl rfl ?_ ?_; focus (simp [ev, Fr.look]; done)) | refine vw_blockAt _ rfl rfl ?_ | (apply vw_regionRun; (focus rfl); (focus ((conv => lhs; reduce); done)); (focus ((conv => lhs; simp [-List.map_set, set_vnat, set_vnat1, set_vint, set_bool, hjt, hp', hpn, h1, h2]); done)); refine vseg_done ?_) | (apply vw_drawPlain; (focus rfl); (focus kernel_rfl); (focus ((conv => lhs; reduce); done)); (focus ((conv => lhs; reduce); done)); (focus (kernel_rfl)); (focus ((conv => lhs; simp [-List.map_set, set_vnat, set_vnat1, set_vint, set_bool, hjt, hp', hpn, h1, h2]); done)); refine vseg_done ?_))
                        show Again _ _ _ _ _ _ _
                        exact again ⟨Nat.sub_lt_sub_left hjt (Nat.lt_succ_self j), j + 1, p, hjt, rfl, hpk, by simp [Fr.only, Fr.look, vnat, vint, hwj], rfl⟩
                      · rw [if_neg h2] at hpk
                        obtain ⟨q, hq, hpk⟩ := Option.bind_eq_some_iff.1 hpk
                        repeat (first | refine vw_seqAt rfl ?_ | refine vw_scopeAt rfl ?_ | refine vw_labelAt rfl ?_ | refine vw_skipAt rfl ?_ | refine vw_exitAt _ rfl rfl ?_ | refine vw_retAt rfl ?_ | (refine vw_condT rfl rfl ?_ ?_; focus (simp [ev, Fr.look]; done)) | (refine vw_condF rfl rfl ?_ ?_; focus (simp [ev, Fr.look]; done)) | refine vw_blockAt _ rfl rfl ?_ | (apply vw_regionRun; (focus rfl); (focus ((conv => lhs; reduce); done)); (focus ((conv => lhs; simp [-List.map_set, set_vnat, set_vnat1, set_vint, set_bool, hjt, hp', hpn, h1, h2]); done)); refine vseg_done ?_) | (apply vw_drawPlain; (focus rfl); (focus kernel_rfl); (focus ((conv => lhs; reduce); done)); (focus ((conv => lhs; reduce); done)); (focus (kernel_rfl)); (focus ((conv => lhs; simp [-List.map_set, set_vnat, set_vnat1, set_vint, set_bool, hjt, hp', hpn, h1, h2]); done)); refine vseg_done ?_))
                        repeat refine vw_seqAt rfl ?_
                        refine vw_regionRun rfl (by conv => lhs; reduce) (by conv => lhs; simp [-List.map_set, set_vnat, set_vnat1, set_vint, set_bool]) ?_
                        refine vcallv_any rfl rfl rfl (Meet_v _ rank near (by omega) (lid S.nx 1) (lid S.nx 4) (lid S.nx 0) (lid S.nx 3) ?_ ?_ ?_ ?_ F best p q hq) ?_
                        · simp [St_get]
                        · simp [St_get]
                        · simp [St_get]
                        · simp [St_get]
                        rintro X T ⟨rfl, rfl⟩
                        refine vseg_more (by conv => lhs; simp [-List.map_set, set_vnat, set_vnat1, set_vint, set_bool]) ?_
                        refine vseg_done ?_
                        repeat (first | refine vw_seqAt rfl ?_ | refine vw_scopeAt rfl ?_ | refine vw_labelAt rfl ?_ | refine vw_skipAt rfl ?_ | refine vw_exitAt _ rfl rfl ?_ | refine vw_retAt rfl ?_ | (refine vw_condT rfl rfl ?_ ?_; focus (simp [ev, Fr.look]; done)) | (refine vw_condF rfl rfl ?_ ?_; focus (simp [ev, Fr.look]; done)) | refine vw_blockAt _ rfl rfl ?_ | (apply vw_regionRun; (focus rfl); (focus ((conv => lhs; reduce); done)); (focus ((conv => lhs; simp [-List.map_set, set_vnat, set_vnat1, set_vint, set_bool]); done)); refine vseg_done ?_) | (apply vw_drawPlain; (focus rfl); (focus kernel_rfl); (focus ((conv => lhs; reduce); done)); (focus ((conv => lhs; reduce); done)); (focus (kernel_rfl)); (focus ((conv => lhs; simp [-List.map_set, set_vnat, set_vnat1, set_vint, set_bool]); done)); refine vseg_done ?_))
                        show Again _ _ _ _ _ _ _
                        exact again ⟨Nat.sub_lt_sub_left hjt (Nat.lt_succ_self j), j + 1, q, hjt, rfl, hpk, by simp [Fr.only, Fr.look, vnat, vint, hwj], rfl⟩
                  · have hje : j = fr[n].length := by omega
                    subst hje
                    rw [List.drop_length, G.pickF] at hpk
                    cases hpk
                    unfold nearSt
                    cases t with
                    | true =>
                      repeat (first | refine vw_seqAt rfl ?_ | refine vw_scopeAt rfl ?_ | refine vw_labelAt rfl ?_ | refine vw_skipAt rfl ?_ | refine vw_exitAt _ rfl rfl ?_ | refine vw_retAt rfl ?_ | (refine vw_condT rfl rfl ?_ ?_; focus (simp [ev, Fr.look]; done)) | (refine vw_condF rfl rfl ?_ ?_; focus (simp [ev, Fr.look]; done)) | refine vw_blockAt _ rfl rfl ?_ | (apply vw_regionRun; (focus rfl); (focus ((conv => lhs; reduce); done)); (focus ((conv => lhs; simp [-List.map_set, set_vnat, set_vnat1, set_vint, set_bool, hjt, hnn]); done)); refine vseg_done ?_) | (apply vw_drawPlain; (focus rfl); (focus kernel_rfl); (focus ((conv => lhs; reduce); done)); (focus ((conv => lhs; reduce); done)); (focus (kernel_rfl)); (focus ((conv => lhs; simp [-List.map_set, set_vnat, set_vnat1, set_vint, set_bool, hjt, hnn]); done)); refine vseg_done ?_))
                      show Again _ _ _ _ _ _ _
                      exact again ⟨Nat.sub_lt_sub_left hkt (Nat.lt_succ_self k), k + 1, near.set n b, true, by simp [hnl], hkt, rfl, by simpa using hsw, by simp [Fr.only, Fr.look, vnat, hw], by simp [nearSt, vint]⟩
                    | false =>
                      repeat (first | refine vw_seqAt rfl ?_ | refine vw_scopeAt rfl ?_ | refine vw_labelAt rfl ?_ | refine vw_skipAt rfl ?_ | refine vw_exitAt _ rfl rfl ?_ | refine vw_retAt rfl ?_ | (refine vw_condT rfl rfl ?_ ?_; focus (simp [ev, Fr.look]; done)) | (refine vw_condF rfl rfl ?_ ?_; focus (simp [ev, Fr.look]; done)) | refine vw_blockAt _ rfl rfl ?_ | (apply vw_regionRun; (focus rfl); (focus ((conv => lhs; reduce); done)); (focus ((conv => lhs; simp [-List.map_set, set_vnat, set_vnat1, set_vint, set_bool, hjt, hnn]); done)); refine vseg_done ?_) | (apply vw_drawPlain; (focus rfl); (focus kernel_rfl); (focus ((conv => lhs; reduce); done)); (focus ((conv => lhs; reduce); done)); (focus (kernel_rfl)); (focus ((conv => lhs; simp [-List.map_set, set_vnat, set_vnat1, set_vint, set_bool, hjt, hnn]); done)); refine vseg_done ?_))
                      show Again _ _ _ _ _ _ _
                      exact again ⟨Nat.sub_lt_sub_left hkt (Nat.lt_succ_self k), k + 1, near.set n b, !decide (near[n] = b), by simp [hnl], hkt, rfl, by simpa using hsw, by simp [Fr.only, Fr.look, vnat, hw], by simp [nearSt, vint]⟩
              · have hkl : k = l.tail.length := by omega
                subst hkl
                rw [List.drop_length, G.sweepF] at hsw
                cases hsw
                have hkt' : ¬ l.tail.length < l.length - 1 := by omega
                repeat (first | refine vw_seqAt rfl ?_ | refine vw_scopeAt rfl ?_ | refine vw_labelAt rfl ?_ | refine vw_skipAt rfl ?_ | refine vw_exitAt _ rfl rfl ?_ | refine vw_retAt rfl ?_ | (refine vw_condT rfl rfl ?_ ?_; focus (simp [ev, Fr.look]; done)) | (refine vw_condF rfl rfl ?_ ?_; focus (simp [ev, Fr.look]; done)) | refine vw_blockAt _ rfl rfl ?_ | (apply vw_regionRun; (focus rfl); (focus ((conv => lhs; reduce); done)); (focus ((conv => lhs; simp [-List.map_set, set_vnat, set_vnat1, set_vint, set_bool, hkt']); done)); refine vseg_done ?_) | (apply vw_drawPlain; (focus rfl); (focus kernel_rfl); (focus ((conv => lhs; reduce); done)); (focus ((conv => lhs; reduce); done)); (focus (kernel_rfl)); (focus ((conv => lhs; simp [-List.map_set, set_vnat, set_vnat1, set_vint, set_bool, hkt']); done)); refine vseg_done ?_))
                cases t with
                | true =>
                  show Again _ _ _ _ _ _ _
                  exact again ⟨Nat.lt_succ_self c, near, hnl, .inr ⟨hc, by simp [Fr.only, Fr.look]⟩, rfl⟩
                | false =>
                  show Again _ _ _ _ _ _ _
                  exact again ⟨Nat.succ_pos c, near, hnl, .inl ⟨rfl, by simpa using hc, by simp [Fr.only, Fr.look]⟩, rfl⟩
end Go.Vw
