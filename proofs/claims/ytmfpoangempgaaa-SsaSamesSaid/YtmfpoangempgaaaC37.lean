import Derived.Test.YtmfpoangempgaaaC28
import Derived.Test.YtmfpoangempgaaaC27
import Derived.Test.YtmfpoangempgaaaC21
import Derived.Test.YtmfpoangempgaaaC35
import Derived.Test.YtmfpoangempgaaaC36
import Derived.Test.YtmfpoangempgaaaC30
/-
  Part of the proof (texts SBlk, SSame2, SAlive, SAlive2).
-/
set_option linter.unusedVariables false
set_option linter.unusedSimpArgs false
namespace Go.Vw
open Go.Proofs Go.RowKit
set_option maxRecDepth 10000
set_option maxHeartbeats 8000000

theorem EqIns_v (l m : List Ss.Ins) (hl : l.length < 2^63) (hm : ∀ x ∈ l, x.Fits) : VPure Try.prog 45 [vl encIns l, vl encIns m, .func 46 []] (.bool (decide (l = m))) := by
  rw [← eqF_dec]
  exact EqFN_v l m _ _ rfl hl fun _ k h1 h2 => sameIns_v _ _ (by have := (hm _ (List.getElem_mem h1)).2.2.1.1; omega) (by have := (hm _ (List.getElem_mem h1)).2.2.2.1; omega)
theorem EqEdge_v (l m : List Ss.Edge) (hl : l.length < 2^63) (hm : ∀ x ∈ l, x.Fits) : VPure Try.prog 47 [vl encEdge l, vl encEdge m, .func 48 []] (.bool (decide (l = m))) := by
  rw [← eqF_dec]
  exact EqFE_v l m _ _ rfl hl fun _ k h1 h2 => sameEdge_v _ _ (by have := (hm _ (List.getElem_mem h1)).2.1; omega)

theorem sameBlock_v (x y : Ss.Block) (hx : x.Fits) : VPure Try.prog 19 [encBlock x, encBlock y] (.bool (decide (x = y))) := by
  intro S
  obtain ⟨a1, a2, ⟨a3, a4, a5, a6⟩⟩ := x
  obtain ⟨b1, b2, ⟨b3, b4, b5, b6⟩⟩ := y
  obtain ⟨⟨f1, _⟩, ⟨f2, f3⟩, _, _, ⟨f4, f5⟩, ⟨f6, _⟩⟩ := hx
  simp only at f1 f2 f3 f4 f5 f6
  simp only [Ss.Block.mk.injEq, Ss.Term.mk.injEq] at *
  have g1 : a1.length < 2^63 := by omega
  have g2 : a2.length < 2^63 := by omega
  have g5 : a5.length < 2^63 := by omega
  have g6 : a6.length < 2^63 := by omega
  refine vcalls_start (c := bodyOf Try.f19) Try.func19 rfl rfl (by simp [Try.ntmps19]) ?_
  rw [Try.ntmps19]
  intro hwf
  repeat (first | refine vw_seqAt rfl ?_ | refine vw_scopeAt rfl ?_ | refine vw_labelAt rfl ?_ | refine vw_skipAt rfl ?_ | refine vw_exitAt _ rfl rfl ?_ | refine vw_retAt rfl ?_ | (refine vw_condT rfl rfl ?_ ?_; focus (simp [ev, Fr.look]; done)) | (refine vw_condF rfl rfl ?_ ?_; focus (simp [ev, Fr.look]; done)) | refine vw_blockAt _ rfl rfl ?_ | (apply vw_regionRun; (focus rfl); (focus ((conv => lhs; reduce); done)); (focus ((conv => lhs; simp [-List.map_set, set_vnat, set_vnat1, set_vint, set_bool]); done)); refine vseg_done ?_) | (apply vw_drawPlain; (focus rfl); (focus kernel_rfl); (focus ((conv => lhs; reduce); done)); (focus ((conv => lhs; reduce); done)); (focus (kernel_rfl)); (focus ((conv => lhs; simp [-List.map_set, set_vnat, set_vnat1, set_vint, set_bool]); done)); refine vseg_done ?_))
  repeat refine vw_seqAt rfl ?_
  refine vw_drawTwo (σm := ?sm) (Sm := ?Sm) (ZZ.mk _ (St S [] [some (6, [vl vint a1, vl encIns a2, vint a3, vint a4, vl encEdge a5, vl vint a6]), some (6, [vl vint b1, vl encIns b2, vint b3, vint b4, vl encEdge b5, vl vint b6])]) (St S [] [some (6, [vl vint a1, vl encIns a2, vint a3, vint a4, vl encEdge a5, vl vint a6]), some (6, [vl vint b1, vl encIns b2, vint b3, vint b4, vl encEdge b5, vl vint b6])]) []) 4 5 [0, 1, 2, 3, 4, 5, 6, 7] [0, 1, 2, 3, 5, 4, 6, 7] rfl (by kernel_rfl) (by conv => lhs; reduce) (by kernel_rfl) (by decide) (by kernel_rfl) (by kernel_rfl) (by kernel_rfl) (by kernel_rfl) (by kernel_rfl) (by kernel_rfl) rfl (ok_St (by simp [subU, shpU, subL, shpL])) (Store.sub_refl _) (by conv => lhs; reduce) (by conv => lhs; reduce) ?H1 ?H2 ?H3
  case H1 =>
    refine vseg_more (by conv => lhs; simp [-List.map_set, set_vnat, set_vnat1, set_vint, set_bool]) ?_
    refine vseg_write rfl (by conv => lhs; simp [-List.map_set, set_vnat, set_vnat1, set_vint, set_bool]) (ok_St (by simp [subU, shpU, subL, shpL])) ?_
    refine vseg_write rfl (by conv => lhs; simp [-List.map_set, set_vnat, set_vnat1, set_vint, set_bool]) (ok_St (by simp [subU, shpU, subL, shpL])) ?_
    refine vseg_write rfl (by conv => lhs; simp [-List.map_set, set_vnat, set_vnat1, set_vint, set_bool]) (ok_St (by simp [subU, shpU, subL, shpL])) ?_
    refine vseg_write rfl (by conv => lhs; simp [-List.map_set, set_vnat, set_vnat1, set_vint, set_bool]) (ok_St (by simp [subU, shpU, subL, shpL])) ?_
    refine vseg_done ?_
    refine reach_only [2, 3, 5, 6] (Eq.trans (b := ?_) ?_ rfl)
    rotate_left
    conv => lhs; simp [Fr.only, Fr.look]
  case H2 =>
    refine vseg_more (by conv => lhs; simp [-List.map_set, set_vnat, set_vnat1, set_vint, set_bool]) ?_
    refine vseg_write rfl (by conv => lhs; simp [-List.map_set, set_vnat, set_vnat1, set_vint, set_bool]) (ok_St (by simp [subU, shpU, subL, shpL])) ?_
    refine vseg_write rfl (by conv => lhs; simp [-List.map_set, set_vnat, set_vnat1, set_vint, set_bool]) (ok_St (by simp [subU, shpU, subL, shpL])) ?_
    refine vseg_write rfl (by conv => lhs; simp [-List.map_set, set_vnat, set_vnat1, set_vint, set_bool]) (ok_St (by simp [subU, shpU, subL, shpL])) ?_
    refine vseg_write rfl (by conv => lhs; simp [-List.map_set, set_vnat, set_vnat1, set_vint, set_bool]) (ok_St (by simp [subU, shpU, subL, shpL])) ?_
    refine vseg_done ?_
    exact reach_swap [2, 3, 5, 6] [0, 1, 3, 2] (by conv => lhs; simp [Fr.only, Fr.look]) hwf (by decide) (by simp [-List.map_set]) (by conv => lhs; simp [-List.map_set]) (by conv => lhs; simp [-List.map_set]) (by conv => lhs; simp [-List.map_set])
  repeat (first | refine vw_seqAt rfl ?_ | refine vw_scopeAt rfl ?_ | refine vw_labelAt rfl ?_ | refine vw_skipAt rfl ?_ | refine vw_exitAt _ rfl rfl ?_ | refine vw_retAt rfl ?_ | (refine vw_condT rfl rfl ?_ ?_; focus (simp [ev, Fr.look]; done)) | (refine vw_condF rfl rfl ?_ ?_; focus (simp [ev, Fr.look]; done)) | refine vw_blockAt _ rfl rfl ?_ | (apply vw_regionRun; (focus rfl); (focus ((conv => lhs; reduce); done)); (focus ((conv => lhs; simp [-List.map_set, set_vnat, set_vnat1, set_vint, set_bool]); done)); refine vseg_done ?_) | (apply vw_drawPlain; (focus rfl); (focus kernel_rfl); (focus ((conv => lhs; reduce); done)); (focus ((conv => lhs; reduce); done)); (focus (kernel_rfl)); (focus ((conv => lhs; simp [-List.map_set, set_vnat, set_vnat1, set_vint, set_bool]); done)); refine vseg_done ?_))
  repeat refine vw_seqAt rfl ?_
  refine vw_regionRun rfl (by conv => lhs; reduce) (by conv => lhs; simp [-List.map_set, set_vnat, set_vnat1, set_vint, set_bool]) ?_
  refine vcall_use rfl (Equal_v a1 b1 g1) ?_
  by_cases h1 : a1 = b1
  · refine vseg_more (by conv => lhs; simp [-List.map_set, set_vnat, set_vnat1, set_vint, set_bool, h1]) ?_
    refine vcall_use rfl (EqIns_v a2 b2 g2 f3) ?_
    by_cases h2 : a2 = b2
    · by_cases h3 : a3 = b3
      · by_cases h4 : a4 = b4
        · refine vseg_more (by conv => lhs; simp [-List.map_set, set_vnat, set_vnat1, set_vint, set_bool, h2, h3, h4]) ?_
          refine vcall_use rfl (Equal_v a6 b6 g6) ?_
          by_cases h6 : a6 = b6
          · refine vseg_more (by conv => lhs; simp [-List.map_set, set_vnat, set_vnat1, set_vint, set_bool, h6]) ?_
            refine vcall_use rfl (EqEdge_v a5 b5 g5 f5) ?_
            refine vseg_more (by conv => lhs; simp [-List.map_set, set_vnat, set_vnat1, set_vint, set_bool]) ?_
            refine vseg_done ?_
            repeat (first | refine vw_seqAt rfl ?_ | refine vw_scopeAt rfl ?_ | refine vw_labelAt rfl ?_ | refine vw_skipAt rfl ?_ | refine vw_exitAt _ rfl rfl ?_ | refine vw_retAt rfl ?_ | (refine vw_condT rfl rfl ?_ ?_; focus (simp [ev, Fr.look]; done)) | (refine vw_condF rfl rfl ?_ ?_; focus (simp [ev, Fr.look]; done)) | refine vw_blockAt _ rfl rfl ?_ | (apply vw_regionRun; (focus rfl); (focus ((conv => lhs; reduce); done)); (focus ((conv => lhs; simp [-List.map_set, set_vnat, set_vnat1, set_vint, set_bool]); done)); refine vseg_done ?_) | (apply vw_drawPlain; (focus rfl); (focus kernel_rfl); (focus ((conv => lhs; reduce); done)); (focus ((conv => lhs; reduce); done)); (focus (kernel_rfl)); (focus ((conv => lhs; simp [-List.map_set, set_vnat, set_vnat1, set_vint, set_bool]); done)); refine vseg_done ?_))
            exact done_pure hwf (by simp [h1, h2, h3, h4, h6]) rfl
          · refine vseg_more (by conv => lhs; simp [-List.map_set, set_vnat, set_vnat1, set_vint, set_bool, h6]) ?_
            refine vseg_done ?_
            repeat (first | refine vw_seqAt rfl ?_ | refine vw_scopeAt rfl ?_ | refine vw_labelAt rfl ?_ | refine vw_skipAt rfl ?_ | refine vw_exitAt _ rfl rfl ?_ | refine vw_retAt rfl ?_ | (refine vw_condT rfl rfl ?_ ?_; focus (simp [ev, Fr.look]; done)) | (refine vw_condF rfl rfl ?_ ?_; focus (simp [ev, Fr.look]; done)) | refine vw_blockAt _ rfl rfl ?_ | (apply vw_regionRun; (focus rfl); (focus ((conv => lhs; reduce); done)); (focus ((conv => lhs; simp [-List.map_set, set_vnat, set_vnat1, set_vint, set_bool]); done)); refine vseg_done ?_) | (apply vw_drawPlain; (focus rfl); (focus kernel_rfl); (focus ((conv => lhs; reduce); done)); (focus ((conv => lhs; reduce); done)); (focus (kernel_rfl)); (focus ((conv => lhs; simp [-List.map_set, set_vnat, set_vnat1, set_vint, set_bool]); done)); refine vseg_done ?_))
            exact done_pure hwf (by simp [h6]) rfl
        · refine vseg_more (by conv => lhs; simp [-List.map_set, set_vnat, set_vnat1, set_vint, set_bool, h2, h3, h4]) ?_
          refine vseg_done ?_
          repeat (first | refine vw_seqAt rfl ?_ | refine vw_scopeAt rfl ?_ | refine vw_labelAt rfl ?_ | refine vw_skipAt rfl ?_ | refine vw_exitAt _ rfl rfl ?_ | refine vw_retAt rfl ?_ | (refine vw_condT rfl rfl ?_ ?_; focus (simp [ev, Fr.look]; done)) | (refine vw_condF rfl rfl ?_ ?_; focus (simp [ev, Fr.look]; done)) | refine vw_blockAt _ rfl rfl ?_ | (apply vw_regionRun; (focus rfl); (focus ((conv => lhs; reduce); done)); (focus ((conv => lhs; simp [-List.map_set, set_vnat, set_vnat1, set_vint, set_bool]); done)); refine vseg_done ?_) | (apply vw_drawPlain; (focus rfl); (focus kernel_rfl); (focus ((conv => lhs; reduce); done)); (focus ((conv => lhs; reduce); done)); (focus (kernel_rfl)); (focus ((conv => lhs; simp [-List.map_set, set_vnat, set_vnat1, set_vint, set_bool]); done)); refine vseg_done ?_))
          exact done_pure hwf (by simp [h4]) rfl
      · refine vseg_more (by conv => lhs; simp [-List.map_set, set_vnat, set_vnat1, set_vint, set_bool, h2, h3]) ?_
        refine vseg_done ?_
        repeat (first | refine vw_seqAt rfl ?_ | refine vw_scopeAt rfl ?_ | refine vw_labelAt rfl ?_ | refine vw_skipAt rfl ?_ | refine vw_exitAt _ rfl rfl ?_ | refine vw_retAt rfl ?_ | (refine vw_condT rfl rfl ?_ ?_; focus (simp [ev, Fr.look]; done)) | (refine vw_condF rfl rfl ?_ ?_; focus (simp [ev, Fr.look]; done)) | refine vw_blockAt _ rfl rfl ?_ | (apply vw_regionRun; (focus rfl); (focus ((conv => lhs; reduce); done)); (focus ((conv => lhs; simp [-List.map_set, set_vnat, set_vnat1, set_vint, set_bool]); done)); refine vseg_done ?_) | (apply vw_drawPlain; (focus rfl); (focus kernel_rfl); (focus ((conv => lhs; reduce); done)); (focus ((conv => lhs; reduce); done)); (focus (kernel_rfl)); (focus ((conv => lhs; simp [-List.map_set, set_vnat, set_vnat1, set_vint, set_bool]); done)); refine vseg_done ?_))
        exact done_pure hwf (by simp [h3]) rfl
    · refine vseg_more (by conv => lhs; simp [-List.map_set, set_vnat, set_vnat1, set_vint, set_bool, h2]) ?_
      refine vseg_done ?_
      repeat (first | refine vw_seqAt rfl ?_ | refine vw_scopeAt rfl ?_ | refine vw_labelAt rfl ?_ | refine vw_skipAt rfl ?_ | refine vw_exitAt _ rfl rfl ?_ | refine vw_retAt rfl ?_ | (refine vw_condT rfl rfl ?_ ?_; focus (simp [ev, Fr.look]; done)) | (refine vw_condF rfl rfl ?_ ?_; focus (simp [ev, Fr.look]; done)) | refine vw_blockAt _ rfl rfl ?_ | (apply vw_regionRun; (focus rfl); (focus ((conv => lhs; reduce); done)); (focus ((conv => lhs; simp [-List.map_set, set_vnat, set_vnat1, set_vint, set_bool]); done)); refine vseg_done ?_) | (apply vw_drawPlain; (focus rfl); (focus kernel_rfl); (focus ((conv => lhs; reduce); done)); (focus ((conv => lhs; reduce); done)); (focus (kernel_rfl)); (focus ((conv => lhs; simp [-List.map_set, set_vnat, set_vnat1, set_vint, set_bool]); done)); refine vseg_done ?_))
      exact done_pure hwf (by simp [h2]) rfl
  · refine vseg_more (by conv => lhs; simp [-List.map_set, set_vnat, set_vnat1, set_vint, set_bool, h1]) ?_
    refine vseg_done ?_
    repeat (first | refine vw_seqAt rfl ?_ | refine vw_scopeAt rfl ?_ | refine vw_labelAt rfl ?_ | refine vw_skipAt rfl ?_ | refine vw_exitAt _ rfl rfl ?_ | refine vw_retAt rfl ?_ | (refine vw_condT rfl rfl ?_ ?_; focus (simp [ev, Fr.look]; done)) | (refine vw_condF rfl rfl ?_ ?_; focus (simp [ev, Fr.look]; done)) | refine vw_blockAt _ rfl rfl ?_ | (apply vw_regionRun; (focus rfl); (focus ((conv => lhs; reduce); done)); (focus ((conv => lhs; simp [-List.map_set, set_vnat, set_vnat1, set_vint, set_bool]); done)); refine vseg_done ?_) | (apply vw_drawPlain; (focus rfl); (focus kernel_rfl); (focus ((conv => lhs; reduce); done)); (focus ((conv => lhs; reduce); done)); (focus (kernel_rfl)); (focus ((conv => lhs; simp [-List.map_set, set_vnat, set_vnat1, set_vint, set_bool]); done)); refine vseg_done ?_))
    exact done_pure hwf (by simp [h1]) rfl

end Go.Vw

namespace Go.Vw
open Go.Proofs Go.RowKit
set_option maxRecDepth 10000
set_option maxHeartbeats 2000000

theorem EqBlock_v (l m : List Ss.Block) (hl : l.length < 2^63) (hm : ∀ x ∈ l, x.Fits) : VPure Try.prog 18 [vl encBlock l, vl encBlock m, .func 19 []] (.bool (decide (l = m))) := by
  rw [← eqF_dec]
  exact EqFB_v l m _ _ rfl hl fun _ k h1 h2 => sameBlock_v _ _ (hm _ (List.getElem_mem h1))

/-- The same functions, both short enough. -/
def sameFn (f g : Ss.Fn) : Bool := f.small && g.small && decide (f = g)

theorem Same_v (f g : Ss.Fn) (hf : f.Fits) (hg : g.Fits) : VPure Try.prog 7 [encFn f, encFn g] (.bool (sameFn f g)) := by
  intro S
  have cf := small_v f hf
  have cg := small_v g hg
  unfold sameFn
  obtain ⟨⟨⟨f1, _⟩, ⟨f2, _⟩⟩, ⟨f3, _⟩, ⟨f4, f5⟩⟩ := hf
  generalize f.small = sf at *
  generalize g.small = sg at *
  obtain ⟨⟨a1, a2⟩, a3, a4⟩ := f
  obtain ⟨⟨b1, b2⟩, b3, b4⟩ := g
  simp only at f1 f2 f3 f4 f5
  simp only [Ss.Fn.mk.injEq, Ss.Sig.mk.injEq]
  have cf' : VPure Try.prog 16 [.agg [vl vint a1, vl vint a2, vl vint a3, vl encBlock a4]] (.bool sf) := cf
  have cg' : VPure Try.prog 16 [.agg [vl vint b1, vl vint b2, vl vint b3, vl encBlock b4]] (.bool sg) := cg
  have g1 : a1.length < 2^63 := by omega
  have g2 : a2.length < 2^63 := by omega
  have g3 : a3.length < 2^63 := by omega
  have g4 : a4.length < 2^63 := by omega
  generalize hX : (sf && sg && decide ((a1 = b1 ∧ a2 = b2) ∧ a3 = b3 ∧ a4 = b4)) = X
  refine vcalls_start (c := bodyOf Try.f7) Try.func7 rfl rfl (by simp [Try.ntmps7]) ?_
  rw [Try.ntmps7]
  intro hwf
  repeat (first | refine vw_seqAt rfl ?_ | refine vw_scopeAt rfl ?_ | refine vw_labelAt rfl ?_ | refine vw_skipAt rfl ?_ | refine vw_exitAt _ rfl rfl ?_ | refine vw_retAt rfl ?_ | (refine vw_condT rfl rfl ?_ ?_; focus (simp [ev, Fr.look]; done)) | (refine vw_condF rfl rfl ?_ ?_; focus (simp [ev, Fr.look]; done)) | refine vw_blockAt _ rfl rfl ?_ | (apply vw_regionRun; (focus rfl); (focus ((conv => lhs; reduce); done)); (focus ((conv => lhs; simp [-List.map_set, set_vnat, set_vnat1, set_vint, set_bool]); done)); refine vseg_done ?_) | (apply vw_drawPlain; (focus rfl); (focus kernel_rfl); (focus ((conv => lhs; reduce); done)); (focus ((conv => lhs; reduce); done)); (focus (kernel_rfl)); (focus ((conv => lhs; simp [-List.map_set, set_vnat, set_vnat1, set_vint, set_bool]); done)); refine vseg_done ?_))
  repeat refine vw_seqAt rfl ?_
  refine vw_regionRun rfl (by conv => lhs; reduce) (by conv => lhs; simp [-List.map_set, set_vnat, set_vnat1, set_vint, set_bool]) ?_
  refine vcall_useH (cf') (by rfl) ?_
  by_cases hsf : sf = true
  case neg =>
    have hsf' : sf = false := by simpa using hsf
    refine vseg_more (by conv => lhs; simp [-List.map_set, set_vnat, set_vnat1, set_vint, set_bool, hsf']) ?_
    refine vseg_done ?_
    repeat (first | refine vw_seqAt rfl ?_ | refine vw_scopeAt rfl ?_ | refine vw_labelAt rfl ?_ | refine vw_skipAt rfl ?_ | refine vw_exitAt _ rfl rfl ?_ | refine vw_retAt rfl ?_ | (refine vw_condT rfl rfl ?_ ?_; focus (simp [ev, Fr.look]; done)) | (refine vw_condF rfl rfl ?_ ?_; focus (simp [ev, Fr.look]; done)) | refine vw_blockAt _ rfl rfl ?_ | (apply vw_regionRun; (focus rfl); (focus ((conv => lhs; reduce); done)); (focus ((conv => lhs; simp [-List.map_set, set_vnat, set_vnat1, set_vint, set_bool]); done)); refine vseg_done ?_) | (apply vw_drawPlain; (focus rfl); (focus kernel_rfl); (focus ((conv => lhs; reduce); done)); (focus ((conv => lhs; reduce); done)); (focus (kernel_rfl)); (focus ((conv => lhs; simp [-List.map_set, set_vnat, set_vnat1, set_vint, set_bool]); done)); refine vseg_done ?_))
    exact done_pure hwf (by simp [← hX, hsf']) rfl
  refine vseg_more (by conv => lhs; simp [-List.map_set, set_vnat, set_vnat1, set_vint, set_bool, hsf]) ?_
  refine vcall_useH (cg') (by rfl) ?_
  by_cases hsg : sg = true
  case neg =>
    have hsg' : sg = false := by simpa using hsg
    refine vseg_more (by conv => lhs; simp [-List.map_set, set_vnat, set_vnat1, set_vint, set_bool, hsg']) ?_
    refine vseg_done ?_
    repeat (first | refine vw_seqAt rfl ?_ | refine vw_scopeAt rfl ?_ | refine vw_labelAt rfl ?_ | refine vw_skipAt rfl ?_ | refine vw_exitAt _ rfl rfl ?_ | refine vw_retAt rfl ?_ | (refine vw_condT rfl rfl ?_ ?_; focus (simp [ev, Fr.look]; done)) | (refine vw_condF rfl rfl ?_ ?_; focus (simp [ev, Fr.look]; done)) | refine vw_blockAt _ rfl rfl ?_ | (apply vw_regionRun; (focus rfl); (focus ((conv => lhs; reduce); done)); (focus ((conv => lhs; simp [-List.map_set, set_vnat, set_vnat1, set_vint, set_bool]); done)); refine vseg_done ?_) | (apply vw_drawPlain; (focus rfl); (focus kernel_rfl); (focus ((conv => lhs; reduce); done)); (focus ((conv => lhs; reduce); done)); (focus (kernel_rfl)); (focus ((conv => lhs; simp [-List.map_set, set_vnat, set_vnat1, set_vint, set_bool]); done)); refine vseg_done ?_))
    exact done_pure hwf (by simp [← hX, hsf, hsg']) rfl
  refine vseg_more (by conv => lhs; simp [-List.map_set, set_vnat, set_vnat1, set_vint, set_bool, hsg]) ?_
  refine vcall_useH (Equal_v a1 b1 g1) (by rfl) ?_
  by_cases h1 : a1 = b1
  · refine vseg_more (by conv => lhs; simp [-List.map_set, set_vnat, set_vnat1, set_vint, set_bool, h1]) ?_
    refine vcall_useH (Equal_v a2 b2 g2) (by rfl) ?_
    by_cases h2 : a2 = b2
    · refine vseg_more (by conv => lhs; simp [-List.map_set, set_vnat, set_vnat1, set_vint, set_bool, h2]) ?_
      refine vcall_useH (Equal_v a3 b3 g3) (by rfl) ?_
      by_cases h3 : a3 = b3
      · refine vseg_more (by conv => lhs; simp [-List.map_set, set_vnat, set_vnat1, set_vint, set_bool, h3]) ?_
        refine vcall_useH (EqBlock_v a4 b4 g4 f5) (by rfl) ?_
        refine vseg_more (by conv => lhs; simp [-List.map_set, set_vnat, set_vnat1, set_vint, set_bool]) ?_
        refine vseg_done ?_
        repeat (first | refine vw_seqAt rfl ?_ | refine vw_scopeAt rfl ?_ | refine vw_labelAt rfl ?_ | refine vw_skipAt rfl ?_ | refine vw_exitAt _ rfl rfl ?_ | refine vw_retAt rfl ?_ | (refine vw_condT rfl rfl ?_ ?_; focus (simp [ev, Fr.look]; done)) | (refine vw_condF rfl rfl ?_ ?_; focus (simp [ev, Fr.look]; done)) | refine vw_blockAt _ rfl rfl ?_ | (apply vw_regionRun; (focus rfl); (focus ((conv => lhs; reduce); done)); (focus ((conv => lhs; simp [-List.map_set, set_vnat, set_vnat1, set_vint, set_bool]); done)); refine vseg_done ?_) | (apply vw_drawPlain; (focus rfl); (focus kernel_rfl); (focus ((conv => lhs; reduce); done)); (focus ((conv => lhs; reduce); done)); (focus (kernel_rfl)); (focus ((conv => lhs; simp [-List.map_set, set_vnat, set_vnat1, set_vint, set_bool]); done)); refine vseg_done ?_))
        exact done_pure hwf (by simp [← hX, hsf, hsg, h1, h2, h3]) rfl
      · refine vseg_more (by conv => lhs; simp [-List.map_set, set_vnat, set_vnat1, set_vint, set_bool, h3]) ?_
        refine vseg_done ?_
        repeat (first | refine vw_seqAt rfl ?_ | refine vw_scopeAt rfl ?_ | refine vw_labelAt rfl ?_ | refine vw_skipAt rfl ?_ | refine vw_exitAt _ rfl rfl ?_ | refine vw_retAt rfl ?_ | (refine vw_condT rfl rfl ?_ ?_; focus (simp [ev, Fr.look]; done)) | (refine vw_condF rfl rfl ?_ ?_; focus (simp [ev, Fr.look]; done)) | refine vw_blockAt _ rfl rfl ?_ | (apply vw_regionRun; (focus rfl); (focus ((conv => lhs; reduce); done)); (focus ((conv => lhs; simp [-List.map_set, set_vnat, set_vnat1, set_vint, set_bool]); done)); refine vseg_done ?_) | (apply vw_drawPlain; (focus rfl); (focus kernel_rfl); (focus ((conv => lhs; reduce); done)); (focus ((conv => lhs; reduce); done)); (focus (kernel_rfl)); (focus ((conv => lhs; simp [-List.map_set, set_vnat, set_vnat1, set_vint, set_bool]); done)); refine vseg_done ?_))
        exact done_pure hwf (by simp [← hX, hsf, hsg, h3]) rfl
    · refine vseg_more (by conv => lhs; simp [-List.map_set, set_vnat, set_vnat1, set_vint, set_bool, h2]) ?_
      refine vseg_done ?_
      repeat (first | refine vw_seqAt rfl ?_ | refine vw_scopeAt rfl ?_ | refine vw_labelAt rfl ?_ | refine vw_skipAt rfl ?_ | refine vw_exitAt _ rfl rfl ?_ | refine vw_retAt rfl ?_ | (refine vw_condT rfl rfl ?_ ?_; focus (simp [ev, Fr.look]; done)) | (refine vw_condF rfl rfl ?_ ?_; focus (simp [ev, Fr.look]; done)) | refine vw_blockAt _ rfl rfl ?_ | (apply vw_regionRun; (focus rfl); (focus ((conv => lhs; reduce); done)); (focus ((conv => lhs; simp [-List.map_set, set_vnat, set_vnat1, set_vint, set_bool]); done)); refine vseg_done ?_) | (apply vw_drawPlain; (focus rfl); (focus kernel_rfl); (focus ((conv => lhs; reduce); done)); (focus ((conv => lhs; reduce); done)); (focus (kernel_rfl)); (focus ((conv => lhs; simp [-List.map_set, set_vnat, set_vnat1, set_vint, set_bool]); done)); refine vseg_done ?_))
      exact done_pure hwf (by simp [← hX, hsf, hsg, h2]) rfl
  · refine vseg_more (by conv => lhs; simp [-List.map_set, set_vnat, set_vnat1, set_vint, set_bool, h1]) ?_
    refine vseg_done ?_
    repeat (first | refine vw_seqAt rfl ?_ | refine vw_scopeAt rfl ?_ | refine vw_labelAt rfl ?_ | refine vw_skipAt rfl ?_ | refine vw_exitAt _ rfl rfl ?_ | refine vw_retAt rfl ?_ | (refine vw_condT rfl rfl ?_ ?_; focus (simp [ev, Fr.look]; done)) | (refine vw_condF rfl rfl ?_ ?_; focus (simp [ev, Fr.look]; done)) | refine vw_blockAt _ rfl rfl ?_ | (apply vw_regionRun; (focus rfl); (focus ((conv => lhs; reduce); done)); (focus ((conv => lhs; simp [-List.map_set, set_vnat, set_vnat1, set_vint, set_bool]); done)); refine vseg_done ?_) | (apply vw_drawPlain; (focus rfl); (focus kernel_rfl); (focus ((conv => lhs; reduce); done)); (focus ((conv => lhs; reduce); done)); (focus (kernel_rfl)); (focus ((conv => lhs; simp [-List.map_set, set_vnat, set_vnat1, set_vint, set_bool]); done)); refine vseg_done ?_))
    exact done_pure hwf (by simp [← hX, hsf, hsg, h1]) rfl
end Go.Vw

namespace Ss
/-- A function that answers 5. -/
def smallF : Fn := ⟨⟨[], [127]⟩, [127], [⟨[], [⟨258, 0, [], []⟩, ⟨256, 5, [], [0]⟩], ⟨4, 0, [], [0]⟩⟩]⟩
def env0 : Env := ⟨[], 0, [], [], false⟩
end Ss
namespace Go.Vw
open Go.Proofs Go.RowKit
set_option maxRecDepth 10000
set_option maxHeartbeats 4000000

theorem Reach.nilCell {N b0 : Nat} {σ : Fr} {B : Store} {u : Upds} {l : List (Option (Nat × List V))} {k i s : Nat} {cs : List V} (hk : k < l.length) (hck : (l[k]?).join = some (s, cs)) (hi : cs[i]? = some .nils) :
    Reach N b0 σ (St B u l) σ (St B u (l.set k (some (s, cs.set i (.list []))))) := by
  have := Reach.cell (N := N) (b0 := b0) (σ := σ) (o := lid B.nx k) (i := i) (s := s) (cs := cs) (Ghost.nils_list (St B u l)) (by simp [V.one]) (by rw [St_get]; exact hck) hi (by rw [St_get]; exact hck)
  rw [St_upd hk] at this
  exact this

theorem small0_v : VPure Try.prog 25 [] (encFn Ss.smallF) := by
  intro S
  have hr4 : rep0 [V.int .i64 0, .int .u64 0, .nils, .nils] 2 = [.int .i64 0, .int .u64 0, .nils, .nils, .int .i64 0, .int .u64 0, .nils, .nils] := rfl
  have hr6 : rep0 [V.nils, .nils, .int .i64 0, .int .i64 0, .nils, .nils] 1 = [.nils, .nils, .int .i64 0, .int .i64 0, .nils, .nils] := rfl
  refine vcalls_startC (c := bodyOf Try.f25) Try.func25 rfl (by conv => lhs; reduce) (by simp [Try.ntmps25]) ?_
  rw [Try.ntmps25]
  intro hwf
  repeat refine vw_seqAt rfl ?_
  refine vw_regionRun rfl (by conv => lhs; reduce) (by conv => lhs; simp [-List.map_set, set_vnat, set_vnat1, set_vint, set_bool]) ?_
  refine vseg_done ?_
  repeat refine vw_seqAt rfl ?_
  refine vw_regionRun rfl (by conv => lhs; reduce) (by conv => lhs; simp [-List.map_set, set_vnat, set_vnat1, set_vint, set_bool, hr4, hr6]) ?_
  refine vseg_done ?_
  apply vw_reach
  · exact Reach.nilCell (k := 4) (i := 2) (by simp) (by rfl) (by rfl)
  simp only [List.set_cons_succ, List.set_cons_zero]
  apply vw_reach
  · exact Reach.nilCell (k := 4) (i := 3) (by simp) (by rfl) (by rfl)
  simp only [List.set_cons_succ, List.set_cons_zero]
  apply vw_reach
  · exact Reach.nilCell (k := 4) (i := 6) (by simp) (by rfl) (by rfl)
  simp only [List.set_cons_succ, List.set_cons_zero]
  apply vw_reach
  · exact Reach.frzCell (k := 4) (j := 3) (i := 7) (by decide) (by simp) (by simp) (by rfl) (by rfl) (by rfl) (by rfl) (by rfl)
  simp only [List.set_cons_succ, List.set_cons_zero]
  apply vw_reach
  · exact Reach.nilCell (k := 6) (i := 0) (by simp) (by rfl) (by rfl)
  simp only [List.set_cons_succ, List.set_cons_zero]
  apply vw_reach
  · exact Reach.nilCell (k := 6) (i := 4) (by simp) (by rfl) (by rfl)
  simp only [List.set_cons_succ, List.set_cons_zero]
  apply vw_reach
  · exact Reach.frzCellS (enc := encIns) (s := 4) (fun _ => rfl) encIns_closed (k := 6) (j := 4) (i := 1) [⟨258, 0, [], []⟩, ⟨256, 5, [], [0]⟩] (by decide) (by simp) (by simp) (by rfl) (by rfl) (by rfl)
  simp only [List.set_cons_succ, List.set_cons_zero]
  apply vw_reach
  · exact Reach.frzCell (k := 6) (j := 5) (i := 5) (by decide) (by simp) (by simp) (by rfl) (by rfl) (by rfl) (by rfl) (by rfl)
  simp only [List.set_cons_succ, List.set_cons_zero]
  apply vw_reach
  · exact Reach.nilCell (k := 0) (i := 0) (by simp) (by rfl) (by rfl)
  simp only [List.set_cons_succ, List.set_cons_zero]
  apply vw_reach
  · exact Reach.frzCell (k := 0) (j := 1) (i := 1) (by decide) (by simp) (by simp) (by rfl) (by rfl) (by rfl) (by rfl) (by rfl)
  simp only [List.set_cons_succ, List.set_cons_zero]
  apply vw_reach
  · exact Reach.frzCell (k := 0) (j := 2) (i := 2) (by decide) (by simp) (by simp) (by rfl) (by rfl) (by rfl) (by rfl) (by rfl)
  simp only [List.set_cons_succ, List.set_cons_zero]
  apply vw_reach
  · exact Reach.frzCellS (enc := encBlock) (s := 6) (fun _ => rfl) encBlock_closed (k := 0) (j := 6) (i := 3) [⟨[], [⟨258, 0, [], []⟩, ⟨256, 5, [], [0]⟩], ⟨4, 0, [], [0]⟩⟩] (by decide) (by simp) (by simp) (by rfl) (by rfl) (by rfl)
  simp only [List.set_cons_succ, List.set_cons_zero]
  repeat (first | refine vw_seqAt rfl ?_ | refine vw_scopeAt rfl ?_ | refine vw_labelAt rfl ?_ | refine vw_skipAt rfl ?_ | refine vw_exitAt _ rfl rfl ?_ | refine vw_retAt rfl ?_ | (refine vw_condT rfl rfl ?_ ?_; focus (simp [ev, Fr.look]; done)) | (refine vw_condF rfl rfl ?_ ?_; focus (simp [ev, Fr.look]; done)) | refine vw_blockAt _ rfl rfl ?_ | (apply vw_regionRun; (focus rfl); (focus ((conv => lhs; reduce); done)); (focus ((conv => lhs; simp [-List.map_set, set_vnat, set_vnat1, set_vint, set_bool]); done)); refine vseg_done ?_) | (apply vw_drawPlain; (focus rfl); (focus kernel_rfl); (focus ((conv => lhs; reduce); done)); (focus ((conv => lhs; reduce); done)); (focus (kernel_rfl)); (focus ((conv => lhs; simp [-List.map_set, set_vnat, set_vnat1, set_vint, set_bool]); done)); refine vseg_done ?_))
  exact doneC (by simp; rfl) (done_pure hwf (by simp [Ss.smallF, vl]) rfl)

theorem small0_fits : Ss.smallF.Fits := by
  simp [Ss.smallF, Ss.Fn.Fits, Ss.Sig.Fits, Ss.Ints, Ss.Block.Fits, Ss.Ins.Fits, Ss.Term.Fits, Ss.I64]
theorem env0_fits : Ss.env0.Fits := by
  simp [Ss.env0, Ss.Env.Fits, Ss.Ints, Ss.I64]
theorem small0_small : Ss.smallF.small = true := by decide
theorem small0_used : Ss.usedOf Ss.smallF = [true] := by decide
theorem small0_defs : Ss.defsOf Ss.smallF = some [⟨true, 0, 1⟩] := by decide
theorem small0_succs : Ss.succs Ss.smallF.blocks = [[]] := by decide
theorem small0_rings : Ss.rings Ss.smallF.blocks [[]] = false := by
  simp [Ss.rings, Ss.smallF, Ss.tickB, Ss.ringM, Ss.ringW, List.range_succ]
theorem small0_shape : Ss.shapeOk Ss.smallF = true := by
  have h1 : G.right [[]] = true := by decide
  have h2 : G.ordI [[]] = [0] := by decide
  have h3 : G.nats [[]] = [[]] := rfl
  simp only [Ss.shapeOk, small0_succs, h1, h2, h3, small0_rings]
  decide
theorem small0_check : Ss.check Ss.env0 Ss.smallF = true := by
  have h1 : Ss.checkHead Ss.env0 Ss.smallF = true := by decide
  simp only [Ss.check, h1, small0_defs, small0_shape, Bool.true_and]
  generalize G.nearI (Ss.succs Ss.smallF.blocks) = near
  simp [Ss.smallF, Ss.checkBlocks, Ss.checkCode, Ss.insOk, Ss.form, Ss.insOut, Ss.typesOf, Ss.asks, eqF, Ss.termOk, Ss.termHead, Ss.termTail, Ss.branches, Ss.askOk]
end Go.Vw

namespace Go.Vw
open Go.Proofs Go.RowKit
set_option maxRecDepth 10000
set_option maxHeartbeats 8000000

/-- The same, or a nil slice seen as an empty list. -/
def NL (x y : V) : Prop := x = y ∨ (x = .nils ∧ y = .list [])
theorem Rep.nl {m : Imm} {β : Objs} {x y : V} {v : Value} (h : Rep m β x v) (hn : NL x y) : Rep m β y v := by
  rcases hn with rfl | ⟨rfl, rfl⟩
  · exact h
  · cases h with
    | imm h => cases h with | nils a => exact .imm (.list0 a 0 (Nat.zero_le _))
theorem Ghost.agg_nl {S : Store} {xs ys : List V} (hl : xs.length = ys.length) (h : ∀ (i : Nat) (x y : V), xs[i]? = some x → ys[i]? = some y → NL x y) : Ghost (.agg xs) S (.agg ys) S := by
  intro m β w v hS hr
  obtain ⟨vs, rfl, hl2, hrr, h1⟩ := hr.inv_agg
  refine ⟨m, β, hS, Ext.refl _ _ _, .agg ys vs (by omega) (fun i y u hy hu => ?_) h1⟩
  have hi : i < xs.length := by rw [hl]; exact (List.getElem?_eq_some_iff.1 hy).1
  exact (hrr i xs[i] u (List.getElem?_eq_getElem hi) hu).nl (h i _ y (List.getElem?_eq_getElem hi) hy)
theorem env0_ghost (S : Store) : Ghost (.agg [.nils, .int .i64 0, .nils, .nils, .bool false]) S (encEnv Ss.env0) S := by
  refine Ghost.agg_nl rfl fun i x y hx hy => ?_
  match i, hx, hy with
  | 0, hx, hy => cases hx; cases hy; exact .inr ⟨rfl, rfl⟩
  | 1, hx, hy => cases hx; cases hy; exact .inl rfl
  | 2, hx, hy => cases hx; cases hy; exact .inr ⟨rfl, rfl⟩
  | 3, hx, hy => cases hx; cases hy; exact .inr ⟨rfl, rfl⟩
  | 4, hx, hy => cases hx; cases hy; exact .inl rfl

theorem Alive8_v : VPure Try.prog 10 [] (.bool true) := by
  intro S
  have c0 := small0_v
  have cu := Used_v Ss.smallF small0_fits
  rw [if_pos small0_small, small0_used] at cu
  have cc := Check_v Ss.env0 Ss.smallF env0_fits small0_fits
  have cn := Count_v Ss.smallF small0_fits
  rw [if_pos small0_small, show Ss.count Ss.smallF.blocks = 2 from rfl] at cn
  have cp := Pure_v 106 (by simp [Ss.I64])
  have cq := Pure_v 109 (by simp [Ss.I64])
  have cs := Succ_v Ss.smallF small0_fits
  rw [if_pos small0_small, small0_succs] at cs
  have ce := Same_v Ss.smallF Ss.smallF small0_fits small0_fits
  obtain ⟨x1, h1⟩ : ∃ x, Ss.check Ss.env0 Ss.smallF = x := ⟨_, rfl⟩
  have e1 : x1 = true := by rw [← h1]; exact small0_check
  rw [h1] at cc
  obtain ⟨x2, h2⟩ : ∃ x, Ss.pure 106 = x := ⟨_, rfl⟩
  have e2 : x2 = true := by rw [← h2]; decide
  rw [h2] at cp
  obtain ⟨x3, h3⟩ : ∃ x, Ss.pure 109 = x := ⟨_, rfl⟩
  have e3 : x3 = false := by rw [← h3]; decide
  rw [h3] at cq
  obtain ⟨x4, h4⟩ : ∃ x, sameFn Ss.smallF Ss.smallF = x := ⟨_, rfl⟩
  have e4 : x4 = true := by rw [← h4]; simp [sameFn, small0_small]
  rw [h4] at ce
  have hsf : ∃ F, encFn Ss.smallF = F := ⟨_, rfl⟩
  obtain ⟨F, hF⟩ := hsf
  rw [hF] at c0 cu cc cn cs ce
  refine vcalls_start (c := bodyOf Try.f10) Try.func10 rfl rfl (by simp [Try.ntmps10]) ?_
  rw [Try.ntmps10]
  intro hwf
  repeat refine vw_seqAt rfl ?_
  refine vw_regionRun rfl (by conv => lhs; reduce) (by conv => lhs; simp [-List.map_set, set_vnat, set_vnat1, set_vint, set_bool]) ?_
  refine vseg_done ?_
  repeat refine vw_seqAt rfl ?_
  refine vw_regionRun rfl (by conv => lhs; reduce) (by conv => lhs; simp [-List.map_set, set_vnat, set_vnat1, set_vint, set_bool]) ?_
  refine vcall_useH (c0) (by rfl) ?_
  refine vseg_more (by conv => lhs; simp [-List.map_set, set_vnat, set_vnat1, set_vint, set_bool]) ?_
  refine vcall_useH (cu) (by rfl) ?_
  refine vseg_more (by conv => lhs; simp [-List.map_set, set_vnat, set_vnat1, set_vint, set_bool]) ?_
  refine vseg_done ?_
  repeat refine vw_seqAt rfl ?_
  refine vw_regionRun rfl (by conv => lhs; reduce) (by conv => lhs; simp [-List.map_set, set_vnat, set_vnat1, set_vint, set_bool]) ?_
  refine vcall_useH (c0) (by rfl) ?_
  refine vseg_more (by conv => lhs; simp [-List.map_set, set_vnat, set_vnat1, set_vint, set_bool]) ?_
  refine vcall_useG rfl (GhostArgs.one [] [_] (env0_ghost _)) cc ?_
  refine vseg_more (by conv => lhs; simp [-List.map_set, set_vnat, set_vnat1, set_vint, set_bool, e1]) ?_
  refine vcall_useH (c0) (by rfl) ?_
  refine vseg_more (by conv => lhs; simp [-List.map_set, set_vnat, set_vnat1, set_vint, set_bool]) ?_
  refine vcall_useH (cn) (by rfl) ?_
  refine vseg_more (by conv => lhs; simp [-List.map_set, set_vnat, set_vnat1, set_vint, set_bool]) ?_
  refine vcall_useH (cp) (by rfl) ?_
  refine vseg_more (by conv => lhs; simp [-List.map_set, set_vnat, set_vnat1, set_vint, set_bool, e2]) ?_
  refine vcall_useH (cq) (by rfl) ?_
  refine vseg_more (by conv => lhs; simp [-List.map_set, set_vnat, set_vnat1, set_vint, set_bool, e3]) ?_
  refine vcall_useH (c0) (by rfl) ?_
  refine vseg_more (by conv => lhs; simp [-List.map_set, set_vnat, set_vnat1, set_vint, set_bool]) ?_
  refine vcall_useH (cs) (by rfl) ?_
  refine vseg_more (by conv => lhs; simp [-List.map_set, set_vnat, set_vnat1, set_vint, set_bool]) ?_
  refine vcall_useH (c0) (by rfl) ?_
  refine vseg_more (by conv => lhs; simp [-List.map_set, set_vnat, set_vnat1, set_vint, set_bool]) ?_
  refine vcall_useH (c0) (by rfl) ?_
  refine vseg_more (by conv => lhs; simp [-List.map_set, set_vnat, set_vnat1, set_vint, set_bool]) ?_
  refine vcall_useH (ce) (by rfl) ?_
  refine vseg_more (by conv => lhs; simp [-List.map_set, set_vnat, set_vnat1, set_vint, set_bool, e4]) ?_
  refine vseg_done ?_
  repeat (first | refine vw_seqAt rfl ?_ | refine vw_scopeAt rfl ?_ | refine vw_labelAt rfl ?_ | refine vw_skipAt rfl ?_ | refine vw_exitAt _ rfl rfl ?_ | refine vw_retAt rfl ?_ | (refine vw_condT rfl rfl ?_ ?_; focus (simp [ev, Fr.look]; done)) | (refine vw_condF rfl rfl ?_ ?_; focus (simp [ev, Fr.look]; done)) | refine vw_blockAt _ rfl rfl ?_ | (apply vw_regionRun; (focus rfl); (focus ((conv => lhs; reduce); done)); (focus ((conv => lhs; simp [-List.map_set, set_vnat, set_vnat1, set_vint, set_bool]); done)); refine vseg_done ?_) | (apply vw_drawPlain; (focus rfl); (focus kernel_rfl); (focus ((conv => lhs; reduce); done)); (focus ((conv => lhs; reduce); done)); (focus (kernel_rfl)); (focus ((conv => lhs; simp [-List.map_set, set_vnat, set_vnat1, set_vint, set_bool]); done)); refine vseg_done ?_))
  exact done_pure hwf (by simp) rfl
end Go.Vw
