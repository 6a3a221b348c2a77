import Derived.Test.YtgnoiaekmmfnmaaVSimp
import Derived.Test.YtgnoiaekmmfnmaaGOrder
import Derived.Test.YtgnoiaekmmfnmaaGFromW
set_option linter.unusedVariables false
set_option linter.unusedSimpArgs false
namespace Go.Vw
open Go.Proofs Go.RowKit
set_option maxRecDepth 10000
set_option maxHeartbeats 4000000

/-- The walker, behind its walk. -/
theorem WAt_dv {S0 T : Store} {g : List (List Nat)} {b ow om : Nat} {s : G.WS} (h : G.WAt T g b ow om s) : T.get om = some (1, s.1.map V.bool) := h.2.2.2.2.2.2.1

theorem Without_v (g : List (List Nat)) (hg : G.Ok g) (a : Option Nat) (ha : ∀ n, a = some n → n < g.length) : VPure Try.prog 22 [vl (vl vnat) g, vint (a.elim (-1) Int.ofNat)] (vl V.bool (G.without g a)) := by
  intro S
  refine vcalls_start (c := bodyOf Try.f22) Try.func22 rfl rfl (by simp [Try.ntmps22]) ?_
  rw [Try.ntmps22]
  intro hwf
  have hm256 := hg.max
  have hp : 0 < g.length := hg.pos
  have hb1 : g.length * 1 ≤ 140737488355328 := by omega
  have hb0 : g.length ≤ 140737488355328 := by omega
  have wat : ∀ m : List Bool, m.length = g.length → G.WAt (St S [] [some (1, m.map V.bool), some (3, [vl (vl vnat) g, .slice (lid S.nx 0) 0 g.length, .nils])]) g S.nx (lid S.nx 1) (lid S.nx 0) (m, []) := by
    intro m hm
    refine ⟨hm, by simp [lid], by simp [lid], by simp [lid], by rw [St_nx]; simp [lid], by rw [St_nx]; simp [lid], by simp [St_get], .nils, by simp [St_get], .inl ⟨rfl, rfl⟩⟩
  cases a with
  | none =>
    obtain ⟨t, w1, w2, w3, w4⟩ := G.metFrom_ends hg (m := List.replicate g.length false) (by simp) (G.rep_getD _ _)
    have hX : G.without g none = t.1 := w2
    have e1 : (-1 : Int) = -1 := rfl
    simp only [Option.elim]
    have hrep : List.replicate g.length (V.bool false) = (List.replicate g.length false).map V.bool := by simp
    repeat (first | refine vw_seqAt rfl ?_ | refine vw_scopeAt rfl ?_ | refine vw_labelAt rfl ?_ | refine vw_skipAt rfl ?_ | refine vw_exitAt _ rfl rfl ?_ | refine vw_retAt rfl ?_ | (refine vw_condT rfl rfl ?_ ?_; focus (simp [ev, Fr.look]; done)) | (refine vw_condF rfl rfl ?_ ?_; focus (simp [ev, Fr.look]; done)) | refine vw_blockAt _ rfl rfl ?_ | (apply vw_regionRun; (focus rfl); (focus ((conv => lhs; reduce); done)); (focus ((conv => lhs; simp [-List.map_set, set_vnat, set_vnat1, set_vint, set_bool, hb1, hb0]); done)); refine vseg_done ?_) | (apply vw_drawPlain; (focus rfl); (focus kernel_rfl); (focus ((conv => lhs; reduce); done)); (focus ((conv => lhs; reduce); done)); (focus (kernel_rfl)); (focus ((conv => lhs; simp [-List.map_set, set_vnat, set_vnat1, set_vint, set_bool, hb1, hb0]); done)); refine vseg_done ?_))
    repeat refine vw_seqAt rfl ?_
    refine vw_regionRun rfl (by conv => lhs; reduce) (by conv => lhs; simp [-List.map_set, set_vnat, set_vnat1, set_vint, set_bool]) ?_
    refine vcall_any rfl (Walk_v g hg S (lid S.nx 1) (lid S.nx 0) g.length 0 _ t _ hp w1 (by omega) agree_St (by rw [hrep]; exact wat _ (by simp))) ?_
    rintro X T ⟨rfl, hag, hW⟩
    have hom := hW.2.2.2.2.2.2.1
    obtain ⟨dv, how, _⟩ := hW.2.2.2.2.2.2.2
    have hol := hW.2.2.2.2.2.1
    refine vseg_more (by conv => lhs; simp [-List.map_set, set_vnat, set_vnat1, set_vint, set_bool]) ?_
    refine vseg_done ?_
    repeat (first | refine vw_seqAt rfl ?_ | refine vw_scopeAt rfl ?_ | refine vw_labelAt rfl ?_ | refine vw_skipAt rfl ?_ | refine vw_exitAt _ rfl rfl ?_ | refine vw_retAt rfl ?_ | (refine vw_condT rfl rfl ?_ ?_; focus (simp [ev, Fr.look]; done)) | (refine vw_condF rfl rfl ?_ ?_; focus (simp [ev, Fr.look]; done)) | refine vw_blockAt _ rfl rfl ?_ | (apply vw_regionRun; (focus rfl); (focus ((conv => lhs; reduce); done)); (focus ((conv => lhs; simp [-List.map_set, set_vnat, set_vnat1, set_vint, set_bool, how]); done)); refine vseg_done ?_) | (apply vw_drawPlain; (focus rfl); (focus kernel_rfl); (focus ((conv => lhs; reduce); done)); (focus ((conv => lhs; reduce); done)); (focus (kernel_rfl)); (focus ((conv => lhs; simp [-List.map_set, set_vnat, set_vnat1, set_vint, set_bool, how]); done)); refine vseg_done ?_))
    have hfr := Ghost.freeze1 (len := g.length) hom (by simp [V.closed1]) (by simp [w4])
    rw [hX]
    exact done_ghost hwf (hfr.toB _) (hag.del (by simp [lid])) rfl
  | some a =>
    have hal := ha a rfl
    simp only [Option.elim]
    have hrep : List.replicate g.length (V.bool false) = (List.replicate g.length false).map V.bool := by simp
    by_cases h0 : a = 0
    · subst h0
      have hX : G.without g (some 0) = List.replicate g.length false := by simp [G.without]
      repeat (first | refine vw_seqAt rfl ?_ | refine vw_scopeAt rfl ?_ | refine vw_labelAt rfl ?_ | refine vw_skipAt rfl ?_ | refine vw_exitAt _ rfl rfl ?_ | refine vw_retAt rfl ?_ | (refine vw_condT rfl rfl ?_ ?_; focus (simp [ev, Fr.look]; done)) | (refine vw_condF rfl rfl ?_ ?_; focus (simp [ev, Fr.look]; done)) | refine vw_blockAt _ rfl rfl ?_ | (apply vw_regionRun; (focus rfl); (focus ((conv => lhs; reduce); done)); (focus ((conv => lhs; simp [-List.map_set, set_vnat, set_vnat1, set_vint, set_bool, hb1, hb0, hal]); done)); refine vseg_done ?_) | (apply vw_drawPlain; (focus rfl); (focus kernel_rfl); (focus ((conv => lhs; reduce); done)); (focus ((conv => lhs; reduce); done)); (focus (kernel_rfl)); (focus ((conv => lhs; simp [-List.map_set, set_vnat, set_vnat1, set_vint, set_bool, hb1, hb0, hal]); done)); refine vseg_done ?_))
      have hfr := frz1 (B := S) (u := []) (l := [some (1, (List.replicate g.length false).map V.bool), some (3, [vl (vl vnat) g, V.slice (lid S.nx 0) 0 g.length, V.nils])]) (k := 0) (len := g.length) (cells := (List.replicate g.length false).map V.bool) (by simp) rfl (by simp [V.closed1]) (by simp)
      rw [hX]
      rw [hrep]
      exact done_via hwf (hfr.toB _) rfl
    · have hz : ((List.replicate g.length false).set a true).getD 0 false = false := by rw [G.getD_set_other h0]; exact G.rep_getD _ _
      obtain ⟨t, w1, w2, w3, w4⟩ := G.metFrom_ends hg (m := (List.replicate g.length false).set a true) (by simp) hz
      have hX : G.without g (some a) = t.1.set a false := by simp [G.without, h0, w2]
      have ha0 : ¬ (a : Int) = 0 := by omega
      have hat : a < t.1.length := by omega
      repeat (first | refine vw_seqAt rfl ?_ | refine vw_scopeAt rfl ?_ | refine vw_labelAt rfl ?_ | refine vw_skipAt rfl ?_ | refine vw_exitAt _ rfl rfl ?_ | refine vw_retAt rfl ?_ | (refine vw_condT rfl rfl ?_ ?_; focus (simp [ev, Fr.look]; done)) | (refine vw_condF rfl rfl ?_ ?_; focus (simp [ev, Fr.look]; done)) | refine vw_blockAt _ rfl rfl ?_ | (apply vw_regionRun; (focus rfl); (focus ((conv => lhs; reduce); done)); (focus ((conv => lhs; simp [-List.map_set, set_vnat, set_vnat1, set_vint, set_bool, hb1, hb0, hal, ha0, h0]); done)); refine vseg_done ?_) | (apply vw_drawPlain; (focus rfl); (focus kernel_rfl); (focus ((conv => lhs; reduce); done)); (focus ((conv => lhs; reduce); done)); (focus (kernel_rfl)); (focus ((conv => lhs; simp [-List.map_set, set_vnat, set_vnat1, set_vint, set_bool, hb1, hb0, hal, ha0, h0]); done)); refine vseg_done ?_))
      repeat refine vw_seqAt rfl ?_
      refine vw_regionRun rfl (by conv => lhs; reduce) (by conv => lhs; simp [-List.map_set, set_vnat, set_vnat1, set_vint, set_bool]) ?_
      refine vcall_any rfl (Walk_v g hg S (lid S.nx 1) (lid S.nx 0) g.length 0 _ t _ hp w1 (by omega) agree_St (by rw [hrep, ← List.map_set]; exact wat _ (by simp))) ?_
      rintro X T ⟨rfl, hag, hW⟩
      have hom := hW.2.2.2.2.2.2.1
      obtain ⟨dv, how, _⟩ := hW.2.2.2.2.2.2.2
      have hol := hW.2.2.2.2.2.1
      refine vseg_more (by conv => lhs; simp [-List.map_set, set_vnat, set_vnat1, set_vint, set_bool]) ?_
      refine vseg_done ?_
      have hne : ¬ lid S.nx 1 = lid S.nx 0 := by simp [lid]
      repeat (first | refine vw_seqAt rfl ?_ | refine vw_scopeAt rfl ?_ | refine vw_labelAt rfl ?_ | refine vw_skipAt rfl ?_ | refine vw_exitAt _ rfl rfl ?_ | refine vw_retAt rfl ?_ | (refine vw_condT rfl rfl ?_ ?_; focus (simp [ev, Fr.look]; done)) | (refine vw_condF rfl rfl ?_ ?_; focus (simp [ev, Fr.look]; done)) | refine vw_blockAt _ rfl rfl ?_ | (apply vw_regionRun; (focus rfl); (focus ((conv => lhs; reduce); done)); (focus ((conv => lhs; simp [-List.map_set, set_vnat, set_vnat1, set_vint, set_bool, how, hom, hal, hat, upd_old, upd_new, hne]); done)); refine vseg_done ?_) | (apply vw_drawPlain; (focus rfl); (focus kernel_rfl); (focus ((conv => lhs; reduce); done)); (focus ((conv => lhs; reduce); done)); (focus (kernel_rfl)); (focus ((conv => lhs; simp [-List.map_set, set_vnat, set_vnat1, set_vint, set_bool, how, hom, hal, hat, upd_old, upd_new, hne]); done)); refine vseg_done ?_))
      have hfr := Ghost.freeze1 (S := T.upd (lid S.nx 0) (1, (t.1.set a false).map V.bool)) (o := lid S.nx 0) (cells := (t.1.set a false).map V.bool) (len := g.length) upd_new (all_closed1 V.bool (fun _ => rfl) _) (by simp [w4])
      rw [hX]
      exact done_ghost hwf (hfr.toB _) ((hag.upd (by simp [lid]) _).del (by simp [lid])) rfl
end Go.Vw
