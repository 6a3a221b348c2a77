import Derived.Test.YtgnoiaekmmfnmaaVSimp
import Derived.Test.YtgnoiaekmmfnmaaGLoops
import Derived.Test.YtgnoiaekmmfnmaaGRLoops
set_option linter.unusedVariables false
set_option linter.unusedSimpArgs false
namespace Go.Vw
open Go.Proofs Go.RowKit
set_option maxRecDepth 10000
set_option maxHeartbeats 8000000

namespace G
theorem loopsTo_nodes (near : List Int) (fr : List (List Nat)) (N : Nat) : ∀ k, ∀ x ∈ loopsTo near fr N k, x.2.length ≤ N
  | 0, x, h => by simp [loopsTo] at h
  | k + 1, x, h => by
    simp only [loopsTo] at h
    split at h
    · exact loopsTo_nodes near fr N k x h
    · rcases List.mem_append.1 h with h | h
      · exact loopsTo_nodes near fr N k x h
      · simp at h
        rw [h]
        exact picked_len _ N
noncomputable def loopsI (g : List (List Int)) : List (Nat × List Nat) := if right g then loopsTo (rNear (nats g)) (froms (nats g)) (nats g).length (nats g).length else []
theorem loopsI_len (g : List (List Int)) : (loopsI g).length ≤ 256 := by
  simp only [loopsI]
  split
  · rename_i h
    have := (right_ok h).max
    have := loopsTo_len (rNear (nats g)) (froms (nats g)) (nats g).length (nats g).length
    omega
  · simp
theorem loopsI_nodes (g : List (List Int)) : ∀ x ∈ loopsI g, x.2.length ≤ 256 := by
  simp only [loopsI]
  split
  · rename_i h
    have h1 := (right_ok h).max
    intro x hx
    have := loopsTo_nodes _ _ _ _ x hx
    omega
  · simp
theorem froms_few {g : List (List Nat)} (hg : Ok g) : ∀ r ∈ froms g, r.length ≤ 1048576 := by
  intro r hr
  have k1 := pushAll_row _ _ r hr
  have k2 := edges_len hg.row 0
  have k3 := hg.max
  rw [total_rep] at k1
  omega
theorem froms_lt {g : List (List Nat)} (hg : Ok g) : ∀ r ∈ froms g, ∀ x ∈ r, x < g.length := by
  intro r hr x hx
  obtain ⟨i, hi, rfl⟩ := List.getElem_of_mem hr
  have hig : i < g.length := by rw [froms_length] at hi; exact hi
  have := (mem_froms hg i x hig).1 (by simpa [hi] using hx)
  exact this.1
end G

theorem LoopsAll_v (g : List (List Int)) (h : Fits g) : VPure Try.prog 23 [vl (vl vint) g] (.tuple [vl encLoop (G.loopsI g), vint (G.err g)]) := by
  cases hr : G.right g with
  | false =>
    simp only [G.loopsI, G.err, hr]
    exact gLoopsErr_v g h hr
  | true =>
    have c1 := NearestAll_v g h
    have c2 := FromAll_v g h
    simp only [G.loopsI, G.nearI, G.fromI, G.err, hr, if_true] at c1 c2 ⊢
    rw [G.right_enc hr] at c1 c2 ⊢
    have hg := G.right_ok hr
    exact gLoops_v (G.nats g) hg _ _ c1 c2 (G.rNear_ok hg).len (G.froms_length _) (G.froms_few hg) (G.froms_lt hg)

theorem RLoopsAll_v (g : List (List Int)) (h : Fits g) : VPure Try.prog 24 [vl (vl vint) g] (.tuple [vl encLoop (G.loopsI g), vint (G.err g)]) := by
  cases hr : G.right g with
  | false =>
    simp only [G.loopsI, G.err, hr]
    exact rLoopsErr_v g h hr
  | true =>
    have c2 := RFromAll_v g h
    simp only [G.loopsI, G.fromI, G.err, hr, if_true] at c2 ⊢
    rw [G.right_enc hr] at c2 ⊢
    have hg := G.right_ok hr
    rw [← G.loops_eq hg _ (Nat.le_refl _)]
    refine rLoops_v (G.nats g) hg _ _ (Table_v _ hg) c2 ?_ ?_ (G.froms_length _) (G.froms_few hg) (G.froms_lt hg)
    · simp [G.table]
    · intro a ha
      simp only [G.table, G.tableRow, List.getElem_map]
      split <;> simp

theorem encLoop_nc (x : Nat × List Nat) : (encLoop x).ncells = 2 := rfl

theorem Loops_v (g : List (List Int)) (h : Fits g) : VPure Try.prog 8 [vl (vl vint) g] (.bool true) := by
  intro S
  refine vcalls_start (c := bodyOf Try.f8) Try.func8 rfl rfl (by simp [Try.ntmps8]) ?_
  rw [Try.ntmps8]
  intro hwf
  have hln := G.loopsI_len g
  have hnd := G.loopsI_nodes g
  have c1 := LoopsAll_v g h
  have c2 := RLoopsAll_v g h
  generalize G.loopsI g = x at *
  repeat (first | refine vw_seqAt rfl ?_ | refine vw_scopeAt rfl ?_ | refine vw_labelAt rfl ?_ | refine vw_skipAt rfl ?_ | refine vw_exitAt _ rfl rfl ?_ | refine vw_retAt rfl ?_ | (refine vw_condT rfl rfl ?_ ?_; focus (simp [ev, Fr.look]; done)) | (refine vw_condF rfl rfl ?_ ?_; focus (simp [ev, Fr.look]; done)) | refine vw_blockAt _ rfl rfl ?_ | (apply vw_regionRun; (focus rfl); (focus ((conv => lhs; reduce); done)); (focus ((conv => lhs; simp [-List.map_set, set_vnat, set_vnat1, set_vint, set_bool]); done)); refine vseg_done ?_) | (apply vw_drawPlain; (focus rfl); (focus kernel_rfl); (focus ((conv => lhs; reduce); done)); (focus ((conv => lhs; reduce); done)); (focus (kernel_rfl)); (focus ((conv => lhs; simp [-List.map_set, set_vnat, set_vnat1, set_vint, set_bool]); done)); refine vseg_done ?_))
  repeat refine vw_seqAt rfl ?_
  refine vw_regionRun rfl (by conv => lhs; reduce) (by conv => lhs; simp [-List.map_set, set_vnat, set_vnat1, set_vint, set_bool]) ?_
  refine vcall_use rfl (c1) ?_
  refine vseg_more (by conv => lhs; simp [-List.map_set, set_vnat, set_vnat1, set_vint, set_bool]) ?_
  refine vseg_done ?_
  repeat (first | refine vw_seqAt rfl ?_ | refine vw_scopeAt rfl ?_ | refine vw_labelAt rfl ?_ | refine vw_skipAt rfl ?_ | refine vw_exitAt _ rfl rfl ?_ | refine vw_retAt rfl ?_ | (refine vw_condT rfl rfl ?_ ?_; focus (simp [ev, Fr.look]; done)) | (refine vw_condF rfl rfl ?_ ?_; focus (simp [ev, Fr.look]; done)) | refine vw_blockAt _ rfl rfl ?_ | (apply vw_regionRun; (focus rfl); (focus ((conv => lhs; reduce); done)); (focus ((conv => lhs; simp [-List.map_set, set_vnat, set_vnat1, set_vint, set_bool]); done)); refine vseg_done ?_) | (apply vw_drawPlain; (focus rfl); (focus kernel_rfl); (focus ((conv => lhs; reduce); done)); (focus ((conv => lhs; reduce); done)); (focus (kernel_rfl)); (focus ((conv => lhs; simp [-List.map_set, set_vnat, set_vnat1, set_vint, set_bool]); done)); refine vseg_done ?_))
  repeat refine vw_seqAt rfl ?_
  refine vw_regionRun rfl (by conv => lhs; reduce) (by conv => lhs; simp [-List.map_set, set_vnat, set_vnat1, set_vint, set_bool]) ?_
  refine vcall_use rfl (c2) ?_
  refine vseg_more (by conv => lhs; simp [-List.map_set, set_vnat, set_vnat1, set_vint, set_bool]) ?_
  refine vseg_done ?_
  repeat (first | refine vw_seqAt rfl ?_ | refine vw_scopeAt rfl ?_ | refine vw_labelAt rfl ?_ | refine vw_skipAt rfl ?_ | refine vw_exitAt _ rfl rfl ?_ | refine vw_retAt rfl ?_ | (refine vw_condT rfl rfl ?_ ?_; focus (simp [ev, Fr.look]; done)) | (refine vw_condF rfl rfl ?_ ?_; focus (simp [ev, Fr.look]; done)) | refine vw_blockAt _ rfl rfl ?_ | (apply vw_regionRun; (focus rfl); (focus ((conv => lhs; reduce); done)); (focus ((conv => lhs; simp [-List.map_set, set_vnat, set_vnat1, set_vint, set_bool]); done)); refine vseg_done ?_) | (apply vw_drawPlain; (focus rfl); (focus kernel_rfl); (focus ((conv => lhs; reduce); done)); (focus ((conv => lhs; reduce); done)); (focus (kernel_rfl)); (focus ((conv => lhs; simp [-List.map_set, set_vnat, set_vnat1, set_vint, set_bool]); done)); refine vseg_done ?_))
  repeat refine vw_seqAt rfl ?_
  refine vw_loopAt [3, 5, 28, 29, 30] rfl (fun c σ S' => ∃ k : Nat, k ≤ x.length ∧ c = x.length - k ∧ σ = [(3, vl encLoop x), (5, vl encLoop x), (28, vl encLoop x), (29, vnat x.length), (30, vnat k)] ∧ S' = St S [] []) x.length ?_ ?_
  · exact ⟨0, by omega, rfl, by simp [Fr.only], rfl⟩
  · rintro c σ T ⟨k, hk, rfl, rfl, rfl⟩
    by_cases hkt : k < x.length
    · have hw : IntKind.i64.wrap ((k : Int) + 1) = (k : Int) + 1 := wrap_i64 (by omega) (by omega)
      have hxl := hnd _ (List.getElem_mem hkt)
      repeat (first | refine vw_seqAt rfl ?_ | refine vw_scopeAt rfl ?_ | refine vw_labelAt rfl ?_ | refine vw_skipAt rfl ?_ | refine vw_exitAt _ rfl rfl ?_ | refine vw_retAt rfl ?_ | (refine vw_condT rfl rfl ?_ ?_; focus (simp [ev, Fr.look]; done)) | (refine vw_condF rfl rfl ?_ ?_; focus (simp [ev, Fr.look]; done)) | refine vw_blockAt _ rfl rfl ?_ | (apply vw_regionRun; (focus rfl); (focus ((conv => lhs; reduce); done)); (focus ((conv => lhs; simp [-List.map_set, set_vnat, set_vnat1, set_vint, set_bool, hkt, encLoop_nc, encLoop]); done)); refine vseg_done ?_) | (apply vw_drawPlain; (focus rfl); (focus kernel_rfl); (focus ((conv => lhs; reduce); done)); (focus ((conv => lhs; reduce); done)); (focus (kernel_rfl)); (focus ((conv => lhs; simp [-List.map_set, set_vnat, set_vnat1, set_vint, set_bool, hkt, encLoop_nc, encLoop]); done)); refine vseg_done ?_))
      repeat refine vw_seqAt rfl ?_
      refine vw_drawPlain rfl (by kernel_rfl) (by conv => lhs; reduce) (by conv => lhs; reduce) (by kernel_rfl) (by conv => lhs; simp [-List.map_set, set_vnat, set_vnat1, set_vint, set_bool, hkt, encLoop_nc, encLoop]) ?_
      refine vcall_use rfl (IntsN_v x[k].2 ?_) ?_
      · omega
      refine vseg_more (by conv => lhs; simp [-List.map_set, set_vnat, set_vnat1, set_vint, set_bool]) ?_
      refine vseg_done ?_
      repeat (first | refine vw_seqAt rfl ?_ | refine vw_scopeAt rfl ?_ | refine vw_labelAt rfl ?_ | refine vw_skipAt rfl ?_ | refine vw_exitAt _ rfl rfl ?_ | refine vw_retAt rfl ?_ | (refine vw_condT rfl rfl ?_ ?_; focus (simp [ev, Fr.look]; done)) | (refine vw_condF rfl rfl ?_ ?_; focus (simp [ev, Fr.look]; done)) | refine vw_blockAt _ rfl rfl ?_ | (apply vw_regionRun; (focus rfl); (focus ((conv => lhs; reduce); done)); (focus ((conv => lhs; simp [-List.map_set, set_vnat, set_vnat1, set_vint, set_bool]); done)); refine vseg_done ?_) | (apply vw_drawPlain; (focus rfl); (focus kernel_rfl); (focus ((conv => lhs; reduce); done)); (focus ((conv => lhs; reduce); done)); (focus (kernel_rfl)); (focus ((conv => lhs; simp [-List.map_set, set_vnat, set_vnat1, set_vint, set_bool]); done)); refine vseg_done ?_))
      show Again _ _ _ _ _ _ _
      exact again ⟨Nat.sub_lt_sub_left hkt (Nat.lt_succ_self k), k + 1, hkt, rfl, by simp [Fr.only, hw], rfl⟩
    · repeat (first | refine vw_seqAt rfl ?_ | refine vw_scopeAt rfl ?_ | refine vw_labelAt rfl ?_ | refine vw_skipAt rfl ?_ | refine vw_exitAt _ rfl rfl ?_ | refine vw_retAt rfl ?_ | (refine vw_condT rfl rfl ?_ ?_; focus (simp [ev, Fr.look]; done)) | (refine vw_condF rfl rfl ?_ ?_; focus (simp [ev, Fr.look]; done)) | refine vw_blockAt _ rfl rfl ?_ | (apply vw_regionRun; (focus rfl); (focus ((conv => lhs; reduce); done)); (focus ((conv => lhs; simp [-List.map_set, set_vnat, set_vnat1, set_vint, set_bool, hkt]); done)); refine vseg_done ?_) | (apply vw_drawPlain; (focus rfl); (focus kernel_rfl); (focus ((conv => lhs; reduce); done)); (focus ((conv => lhs; reduce); done)); (focus (kernel_rfl)); (focus ((conv => lhs; simp [-List.map_set, set_vnat, set_vnat1, set_vint, set_bool, hkt]); done)); refine vseg_done ?_))
      repeat refine vw_seqAt rfl ?_
      refine vw_regionRun rfl (by conv => lhs; reduce) (by conv => lhs; simp [-List.map_set, set_vnat, set_vnat1, set_vint, set_bool]) ?_
      refine vcall_use rfl (Alive_v) ?_
      refine vseg_more (by conv => lhs; simp [-List.map_set, set_vnat, set_vnat1, set_vint, set_bool]) ?_
      refine vseg_done ?_
      repeat (first | refine vw_seqAt rfl ?_ | refine vw_scopeAt rfl ?_ | refine vw_labelAt rfl ?_ | refine vw_skipAt rfl ?_ | refine vw_exitAt _ rfl rfl ?_ | refine vw_retAt rfl ?_ | (refine vw_condT rfl rfl ?_ ?_; focus (simp [ev, Fr.look]; done)) | (refine vw_condF rfl rfl ?_ ?_; focus (simp [ev, Fr.look]; done)) | refine vw_blockAt _ rfl rfl ?_ | (apply vw_regionRun; (focus rfl); (focus ((conv => lhs; reduce); done)); (focus ((conv => lhs; simp [-List.map_set, set_vnat, set_vnat1, set_vint, set_bool]); done)); refine vseg_done ?_) | (apply vw_drawPlain; (focus rfl); (focus kernel_rfl); (focus ((conv => lhs; reduce); done)); (focus ((conv => lhs; reduce); done)); (focus (kernel_rfl)); (focus ((conv => lhs; simp [-List.map_set, set_vnat, set_vnat1, set_vint, set_bool]); done)); refine vseg_done ?_))
      exact done_pure hwf rfl rfl
end Go.Vw
