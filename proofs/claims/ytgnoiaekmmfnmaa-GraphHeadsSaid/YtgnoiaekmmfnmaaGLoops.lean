import Derived.Test.YtgnoiaekmmfnmaaVMore
import Derived.Test.YtgnoiaekmmfnmaaGLoop
import Derived.Test.YtgnoiaekmmfnmaaGLaws2
set_option linter.unusedVariables false
set_option linter.unusedSimpArgs false
namespace Go.Vw
open Go.Proofs Go.RowKit
set_option maxRecDepth 10000
set_option maxHeartbeats 16000000

def encLoop (x : Nat × List Nat) : V := .agg [vnat x.1, vl vnat x.2]
theorem encLoop_cells (x : Nat × List Nat) : (encLoop x).cells = [vnat x.1, vl vnat x.2] := by simp [encLoop, V.cells]
theorem encLoop_len (x : Nat × List Nat) : (encLoop x).cells.length = 2 := by rw [encLoop_cells]; rfl
theorem encLoop_closed (x : Nat × List Nat) : (encLoop x).closed = true := rfl

theorem renL_loops (f : Nat → Nat) (ls : List (Nat × List Nat)) : V.renL f (flatC encLoop ls) = flatC encLoop ls := flatC_ren encLoop_closed f ls
theorem idsL_loops (p : Nat → Bool) (ls : List (Nat × List Nat)) : V.idsL p (flatC encLoop ls) = true := flatC_ids encLoop_closed p ls
theorem renL_repb (f : Nat → Nat) (n : Nat) (b : Bool) : V.renL f (List.replicate n (V.bool b)) = List.replicate n (V.bool b) := by
  have := renL_bool f (List.replicate n b)
  simpa using this
theorem idsL_repb (p : Nat → Bool) (n : Nat) (b : Bool) : V.idsL p (List.replicate n (V.bool b)) = true := by
  have := idsL_bool p (List.replicate n b)
  simpa using this

theorem few {u t : Nat} (hu : u ≤ 256) (ht : t ≤ 1048576) : u * (1048576 + 1) + t ≤ 1073741824 := by omega
theorem few_len {M : Nat} {inn : List Bool} {td : List Nat} {n : Nat} (h : G.todoM M inn (td ++ [n]) ≤ 1073741824) : td.length + 1 ≤ 1073741824 := by
  simp only [G.todoM, List.length_append, List.length_cons, List.length_nil] at h
  have := Nat.zero_le (G.unmet inn * (M + 1))
  omega
theorem few_less {M : Nat} {inn : List Bool} {td : List Nat} {n : Nat} : G.todoM M inn td < G.todoM M inn (td ++ [n]) := by
  simp [G.todoM]

/-- The nodes to do and the nodes that are in, told as the search tells them: at most so many. -/
def Few (inn : List Bool) (todo : List Nat) : Prop := G.todoM (1048576) inn todo ≤ 1073741824

theorem gLoopsErr_v (g : List (List Int)) (h : Fits g) (hr : G.right g = false) : VPure Try.prog 23 [vl (vl vint) g] (.tuple [vl encLoop [], vint 1]) := by
  intro S
  have e : G.err g = 1 := by simp [G.err, hr]
  refine vcalls_start (c := bodyOf Try.f23) Try.func23 rfl rfl (by simp [Try.ntmps23]) ?_
  rw [Try.ntmps23]
  intro hwf
  repeat (first | refine vw_seqAt rfl ?_ | refine vw_scopeAt rfl ?_ | refine vw_labelAt rfl ?_ | refine vw_skipAt rfl ?_ | refine vw_exitAt _ rfl rfl ?_ | refine vw_retAt rfl ?_ | (refine vw_condT rfl rfl ?_ ?_; focus (simp [ev, Fr.look]; done)) | (refine vw_condF rfl rfl ?_ ?_; focus (simp [ev, Fr.look]; done)) | refine vw_blockAt _ rfl rfl ?_ | (apply vw_regionRun; (focus rfl); (focus ((conv => lhs; reduce); done)); (focus ((conv => lhs; simp [-List.map_set, set_vnat, set_vnat1, set_vint, set_bool]); done)); refine vseg_done ?_) | (apply vw_drawPlain; (focus rfl); (focus kernel_rfl); (focus ((conv => lhs; reduce); done)); (focus ((conv => lhs; reduce); done)); (focus (kernel_rfl)); (focus ((conv => lhs; simp [-List.map_set, set_vnat, set_vnat1, set_vint, set_bool]); done)); refine vseg_done ?_))
  repeat refine vw_seqAt rfl ?_
  refine vw_regionRun rfl (by conv => lhs; reduce) (by conv => lhs; simp [-List.map_set, set_vnat, set_vnat1, set_vint, set_bool]) ?_
  refine vcall_use rfl (NearestAll_v g h) ?_
  refine vseg_more (by conv => lhs; simp [-List.map_set, set_vnat, set_vnat1, set_vint, set_bool]) ?_
  refine vseg_done ?_
  repeat (first | refine vw_seqAt rfl ?_ | refine vw_scopeAt rfl ?_ | refine vw_labelAt rfl ?_ | refine vw_skipAt rfl ?_ | refine vw_exitAt _ rfl rfl ?_ | refine vw_retAt rfl ?_ | (refine vw_condT rfl rfl ?_ ?_; focus (simp [ev, Fr.look]; done)) | (refine vw_condF rfl rfl ?_ ?_; focus (simp [ev, Fr.look]; done)) | refine vw_blockAt _ rfl rfl ?_ | (apply vw_regionRun; (focus rfl); (focus ((conv => lhs; reduce); done)); (focus ((conv => lhs; simp [-List.map_set, set_vnat, set_vnat1, set_vint, set_bool, e]); done)); refine vseg_done ?_) | (apply vw_drawPlain; (focus rfl); (focus kernel_rfl); (focus ((conv => lhs; reduce); done)); (focus ((conv => lhs; reduce); done)); (focus (kernel_rfl)); (focus ((conv => lhs; simp [-List.map_set, set_vnat, set_vnat1, set_vint, set_bool, e]); done)); refine vseg_done ?_))
  exact done_via (l := []) hwf ((Ghost.tuple [] [vint 1] (Ghost.nils_list _)).toB _) rfl

theorem gLoops_v (g : List (List Nat)) (hg : G.Ok g) (near : List Int) (fr : List (List Nat)) (cn : VPure Try.prog 18 [vl (vl vnat) g] (.tuple [vl vint near, vint 0])) (cf : VPure Try.prog 12 [vl (vl vnat) g] (.tuple [vl (vl vnat) fr, vint 0]))
    (hnl : near.length = g.length) (hfl : fr.length = g.length) (hfm : ∀ r ∈ fr, r.length ≤ 1048576) (hfe : ∀ r ∈ fr, ∀ x ∈ r, x < g.length) :
    VPure Try.prog 23 [vl (vl vnat) g] (.tuple [vl encLoop (G.loopsTo near fr g.length g.length), vint 0]) := by
  intro S
  refine vcalls_start (c := bodyOf Try.f23) Try.func23 rfl rfl (by simp [Try.ntmps23]) ?_
  rw [Try.ntmps23]
  intro hwf
  have hm := hg.max
  have hp := hg.pos
  have hb1 : g.length * 1 ≤ 140737488355328 := by omega
  have hb0 : g.length ≤ 140737488355328 := by omega
  repeat (first | refine vw_seqAt rfl ?_ | refine vw_scopeAt rfl ?_ | refine vw_labelAt rfl ?_ | refine vw_skipAt rfl ?_ | refine vw_exitAt _ rfl rfl ?_ | refine vw_retAt rfl ?_ | (refine vw_condT rfl rfl ?_ ?_; focus (simp [ev, Fr.look]; done)) | (refine vw_condF rfl rfl ?_ ?_; focus (simp [ev, Fr.look]; done)) | refine vw_blockAt _ rfl rfl ?_ | (apply vw_regionRun; (focus rfl); (focus ((conv => lhs; reduce); done)); (focus ((conv => lhs; simp [-List.map_set, set_vnat, set_vnat1, set_vint, set_bool]); done)); refine vseg_done ?_) | (apply vw_drawPlain; (focus rfl); (focus kernel_rfl); (focus ((conv => lhs; reduce); done)); (focus ((conv => lhs; reduce); done)); (focus (kernel_rfl)); (focus ((conv => lhs; simp [-List.map_set, set_vnat, set_vnat1, set_vint, set_bool]); done)); refine vseg_done ?_))
  repeat refine vw_seqAt rfl ?_
  refine vw_regionRun rfl (by conv => lhs; reduce) (by conv => lhs; simp [-List.map_set, set_vnat, set_vnat1, set_vint, set_bool]) ?_
  refine vcall_use rfl (cn) ?_
  refine vseg_more (by conv => lhs; simp [-List.map_set, set_vnat, set_vnat1, set_vint, set_bool]) ?_
  refine vseg_done ?_
  repeat (first | refine vw_seqAt rfl ?_ | refine vw_scopeAt rfl ?_ | refine vw_labelAt rfl ?_ | refine vw_skipAt rfl ?_ | refine vw_exitAt _ rfl rfl ?_ | refine vw_retAt rfl ?_ | (refine vw_condT rfl rfl ?_ ?_; focus (simp [ev, Fr.look]; done)) | (refine vw_condF rfl rfl ?_ ?_; focus (simp [ev, Fr.look]; done)) | refine vw_blockAt _ rfl rfl ?_ | (apply vw_regionRun; (focus rfl); (focus ((conv => lhs; reduce); done)); (focus ((conv => lhs; simp [-List.map_set, set_vnat, set_vnat1, set_vint, set_bool]); done)); refine vseg_done ?_) | (apply vw_drawPlain; (focus rfl); (focus kernel_rfl); (focus ((conv => lhs; reduce); done)); (focus ((conv => lhs; reduce); done)); (focus (kernel_rfl)); (focus ((conv => lhs; simp [-List.map_set, set_vnat, set_vnat1, set_vint, set_bool]); done)); refine vseg_done ?_))
  repeat refine vw_seqAt rfl ?_
  refine vw_regionRun rfl (by conv => lhs; reduce) (by conv => lhs; simp [-List.map_set, set_vnat, set_vnat1, set_vint, set_bool]) ?_
  refine vcall_use rfl (cf) ?_
  refine vseg_more (by conv => lhs; simp [-List.map_set, set_vnat, set_vnat1, set_vint, set_bool]) ?_
  refine vseg_done ?_
  repeat refine vw_seqAt rfl ?_
  refine vw_regionRun rfl (by conv => lhs; reduce) (by conv => lhs; simp [-List.map_set, set_vnat, set_vnat1, set_vint, set_bool]) ?_
  refine vseg_done ?_
  refine vw_void 8 2 rfl (by conv => lhs; simp [Fr.set]) ?_
  repeat (first | refine vw_seqAt rfl ?_ | refine vw_scopeAt rfl ?_ | refine vw_labelAt rfl ?_ | refine vw_skipAt rfl ?_ | refine vw_exitAt _ rfl rfl ?_ | refine vw_retAt rfl ?_ | (refine vw_condT rfl rfl ?_ ?_; focus (simp [ev, Fr.look]; done)) | (refine vw_condF rfl rfl ?_ ?_; focus (simp [ev, Fr.look]; done)) | refine vw_blockAt _ rfl rfl ?_ | (apply vw_regionRun; (focus rfl); (focus ((conv => lhs; reduce); done)); (focus ((conv => lhs; simp [-List.map_set, set_vnat, set_vnat1, set_vint, set_bool]); done)); refine vseg_done ?_) | (apply vw_drawPlain; (focus rfl); (focus kernel_rfl); (focus ((conv => lhs; reduce); done)); (focus ((conv => lhs; reduce); done)); (focus (kernel_rfl)); (focus ((conv => lhs; simp [-List.map_set, set_vnat, set_vnat1, set_vint, set_bool]); done)); refine vseg_done ?_))
  repeat refine vw_seqAt rfl ?_
  refine vw_loopAt [0, 4, 6, 8, 32, 33] rfl (fun c σ S' => ∃ h : Nat, h ≤ g.length ∧ c = g.length - h ∧ σ = [(0, vl (vl vnat) g), (4, vl vint near), (6, vl (vl vnat) fr), (8, .slice (lid S.nx 0) 0 (G.loopsTo near fr g.length h).length), (32, vnat g.length), (33, vnat h)] ∧ S' = St S [] [some (2, flatC encLoop (G.loopsTo near fr g.length h))]) g.length ?_ ?_
  · exact ⟨0, by omega, rfl, by simp [Fr.only, G.loopsTo], by simp [G.loopsTo, flatC]⟩
  · rintro c σ T ⟨h, hh, rfl, rfl, rfl⟩
    by_cases hht : h < g.length
    · have hw : IntKind.i64.wrap ((h : Int) + 1) = (h : Int) + 1 := wrap_i64 (by omega) (by omega)
      have hhn : h < near.length := by omega
      have hhf : h < fr.length := by omega
      have hnd : near.getD h 0 = near[h] := by simp [hhn]
      have hfd : fr.getD h [] = fr[h] := by simp [hhf]
      have hrow := hfm _ (List.getElem_mem hhf)
      have hrowe := hfe _ (List.getElem_mem hhf)
      have hst : G.loopsTo near fr g.length (h + 1) = if (0 < h ∧ near[h] < 0) ∨ G.backs near h fr[h] = [] then G.loopsTo near fr g.length h else G.loopsTo near fr g.length h ++ [(h, G.picked (G.loopIn fr h (G.backs near h fr[h]) g.length) g.length)] := by
        simp only [G.loopsTo, hnd, hfd]
      have hlo := G.loopsTo_len near fr g.length h
      generalize G.loopsTo near fr g.length h = ls at *
      by_cases hskip : 0 < h ∧ near[h] < 0
      · rw [if_pos (.inl hskip)] at hst
        obtain ⟨h1, h2⟩ := hskip
        have h1' : (0 : Int) < (h : Int) := by omega
        repeat (first | refine vw_seqAt rfl ?_ | refine vw_scopeAt rfl ?_ | refine vw_labelAt rfl ?_ | refine vw_skipAt rfl ?_ | refine vw_exitAt _ rfl rfl ?_ | refine vw_retAt rfl ?_ | (refine vw_condT rfl rfl ?_ ?_; focus (simp [ev, Fr.look]; done)) | (refine vw_condF rfl rfl ?_ ?_; focus (simp [ev, Fr.look]; done)) | refine vw_blockAt _ rfl rfl ?_ | (apply vw_regionRun; (focus rfl); (focus ((conv => lhs; reduce); done)); (focus ((conv => lhs; simp [-List.map_set, set_vnat, set_vnat1, set_vint, set_bool, hht, hhn, h1, h1', h2]); done)); refine vseg_done ?_) | (apply vw_drawPlain; (focus rfl); (focus kernel_rfl); (focus ((conv => lhs; reduce); done)); (focus ((conv => lhs; reduce); done)); (focus (kernel_rfl)); (focus ((conv => lhs; simp [-List.map_set, set_vnat, set_vnat1, set_vint, set_bool, hht, hhn, h1, h1', h2]); done)); refine vseg_done ?_))
        show Again _ _ _ _ _ _ _
        exact again ⟨Nat.sub_lt_sub_left hht (Nat.lt_succ_self h), h + 1, hht, rfl, by rw [hst]; simp [Fr.only, hw], by rw [hst]⟩
      · have hge : 0 < h → ¬ near[h] < 0 := fun h1 h2 => hskip ⟨h1, h2⟩
        repeat (first | refine vw_seqAt rfl ?_ | refine vw_scopeAt rfl ?_ | refine vw_labelAt rfl ?_ | refine vw_skipAt rfl ?_ | refine vw_exitAt _ rfl rfl ?_ | refine vw_retAt rfl ?_ | (refine vw_condT rfl rfl ?_ ?_; focus (simp [ev, Fr.look]; done)) | (refine vw_condF rfl rfl ?_ ?_; focus (simp [ev, Fr.look]; done)) | refine vw_blockAt _ rfl rfl ?_ | (apply vw_regionRun; (focus rfl); (focus ((conv => lhs; reduce); done)); (focus ((conv => lhs; simp [-List.map_set, set_vnat, set_vnat1, set_vint, set_bool, hht]); done)); refine vseg_done ?_) | (apply vw_drawPlain; (focus rfl); (focus kernel_rfl); (focus ((conv => lhs; reduce); done)); (focus ((conv => lhs; reduce); done)); (focus (kernel_rfl)); (focus ((conv => lhs; simp [-List.map_set, set_vnat, set_vnat1, set_vint, set_bool, hht]); done)); refine vseg_done ?_))
        repeat refine vw_seqAt rfl ?_
        refine vw_regionSplit (0 < h) [0, 4, 6, 8, 9, 32, 33, 44] rfl (by conv => lhs; reduce) (fun hyes => ⟨_, by conv => lhs; simp [-List.map_set, set_vnat, set_vnat1, set_vint, set_bool, hyes, hhn, (hge hyes)], by conv => lhs; simp [Fr.only]⟩) (fun hno => ⟨_, by conv => lhs; simp [-List.map_set, set_vnat, set_vnat1, set_vint, set_bool, hno, hhn], by conv => lhs; simp [Fr.only]⟩) ?_
        repeat (first | refine vw_seqAt rfl ?_ | refine vw_scopeAt rfl ?_ | refine vw_labelAt rfl ?_ | refine vw_skipAt rfl ?_ | refine vw_exitAt _ rfl rfl ?_ | refine vw_retAt rfl ?_ | (refine vw_condT rfl rfl ?_ ?_; focus (simp [ev, Fr.look]; done)) | (refine vw_condF rfl rfl ?_ ?_; focus (simp [ev, Fr.look]; done)) | refine vw_blockAt _ rfl rfl ?_ | (apply vw_regionRun; (focus rfl); (focus ((conv => lhs; reduce); done)); (focus ((conv => lhs; simp [-List.map_set, set_vnat, set_vnat1, set_vint, set_bool, hb1, hb0, hhf]); done)); refine vseg_done ?_) | (apply vw_drawPlain; (focus rfl); (focus kernel_rfl); (focus ((conv => lhs; reduce); done)); (focus ((conv => lhs; reduce); done)); (focus (kernel_rfl)); (focus ((conv => lhs; simp [-List.map_set, set_vnat, set_vnat1, set_vint, set_bool, hb1, hb0, hhf]); done)); refine vseg_done ?_))
        refine vw_void 11 1 rfl (by conv => lhs; simp [Fr.set]) ?_
        repeat (first | refine vw_seqAt rfl ?_ | refine vw_scopeAt rfl ?_ | refine vw_labelAt rfl ?_ | refine vw_skipAt rfl ?_ | refine vw_exitAt _ rfl rfl ?_ | refine vw_retAt rfl ?_ | (refine vw_condT rfl rfl ?_ ?_; focus (simp [ev, Fr.look]; done)) | (refine vw_condF rfl rfl ?_ ?_; focus (simp [ev, Fr.look]; done)) | refine vw_blockAt _ rfl rfl ?_ | (apply vw_regionRun; (focus rfl); (focus ((conv => lhs; reduce); done)); (focus ((conv => lhs; simp [-List.map_set, set_vnat, set_vnat1, set_vint, set_bool, hhf]); done)); refine vseg_done ?_) | (apply vw_drawPlain; (focus rfl); (focus kernel_rfl); (focus ((conv => lhs; reduce); done)); (focus ((conv => lhs; reduce); done)); (focus (kernel_rfl)); (focus ((conv => lhs; simp [-List.map_set, set_vnat, set_vnat1, set_vint, set_bool, hhf]); done)); refine vseg_done ?_))
        generalize hts : G.backs near h fr[h] = ts at *
        have htsl : ts.length ≤ fr[h].length := by rw [← hts]; exact List.length_filter_le _ _
        repeat refine vw_seqAt rfl ?_
        refine vw_loopAt [0, 4, 6, 8, 9, 10, 11, 32, 33, 51, 52, 53] rfl (fun c σ S' => ∃ (k : Nat) (todo : List Nat), k ≤ fr[h].length ∧ c = fr[h].length - k ∧ todo ++ G.backs near h (fr[h].drop k) = ts ∧ σ = [(0, vl (vl vnat) g), (4, vl vint near), (6, vl (vl vnat) fr), (8, .slice (lid S.nx 0) 0 ls.length), (9, vnat h), (10, .slice (lid S.nx 1) 0 g.length), (11, .slice (lid S.nx 2) 0 todo.length), (32, vnat g.length), (33, vnat h), (51, vl vnat fr[h]), (52, vnat fr[h].length), (53, vnat k)] ∧ S' = St S [] [some (2, flatC encLoop ls), some (1, (List.replicate g.length false).map V.bool), some (1, todo.map vnat)]) fr[h].length ?_ ?_
        · exact ⟨0, [], by omega, rfl, by simpa using hts, by simp [Fr.only], by simp⟩
        · rintro c σ T ⟨k, todo, hk, rfl, hdo, rfl, rfl⟩
          have htdl : todo.length ≤ ts.length := by rw [← hdo]; simp
          by_cases hkt : k < fr[h].length
          · have hwk : IntKind.i64.wrap ((k : Int) + 1) = (k : Int) + 1 := wrap_i64 (by omega) (by omega)
            rw [List.drop_eq_getElem_cons hkt] at hdo
            generalize hpe : fr[h][k] = p at hdo
            have hd := Dominates_v near h p (by omega)
            repeat (first | refine vw_seqAt rfl ?_ | refine vw_scopeAt rfl ?_ | refine vw_labelAt rfl ?_ | refine vw_skipAt rfl ?_ | refine vw_exitAt _ rfl rfl ?_ | refine vw_retAt rfl ?_ | (refine vw_condT rfl rfl ?_ ?_; focus (simp [ev, Fr.look]; done)) | (refine vw_condF rfl rfl ?_ ?_; focus (simp [ev, Fr.look]; done)) | refine vw_blockAt _ rfl rfl ?_ | (apply vw_regionRun; (focus rfl); (focus ((conv => lhs; reduce); done)); (focus ((conv => lhs; simp [-List.map_set, set_vnat, set_vnat1, set_vint, set_bool, hkt, hpe]); done)); refine vseg_done ?_) | (apply vw_drawPlain; (focus rfl); (focus kernel_rfl); (focus ((conv => lhs; reduce); done)); (focus ((conv => lhs; reduce); done)); (focus (kernel_rfl)); (focus ((conv => lhs; simp [-List.map_set, set_vnat, set_vnat1, set_vint, set_bool, hkt, hpe]); done)); refine vseg_done ?_))
            repeat refine vw_seqAt rfl ?_
            refine vw_regionRun rfl (by conv => lhs; reduce) (by conv => lhs; simp [-List.map_set, set_vnat, set_vnat1, set_vint, set_bool]) ?_
            refine vcall_use rfl (hd) ?_
            refine vseg_more (by conv => lhs; simp [-List.map_set, set_vnat, set_vnat1, set_vint, set_bool]) ?_
            refine vseg_done ?_
            cases hb : G.dominates near h p with
            | true =>
              have hc8 : (todo.length + 1) * 8 ≤ 140737488355328 := by omega
              have hc1 : todo.length + 1 ≤ 140737488355328 := by omega
              have hdo' : (todo ++ [p]) ++ G.backs near h (fr[h].drop (k + 1)) = ts := by
                rw [← hdo]; simp [G.backs, hb]
              repeat (first | refine vw_seqAt rfl ?_ | refine vw_scopeAt rfl ?_ | refine vw_labelAt rfl ?_ | refine vw_skipAt rfl ?_ | refine vw_exitAt _ rfl rfl ?_ | refine vw_retAt rfl ?_ | (refine vw_condT rfl rfl ?_ ?_; focus (simp [ev, Fr.look]; done)) | (refine vw_condF rfl rfl ?_ ?_; focus (simp [ev, Fr.look]; done)) | refine vw_blockAt _ rfl rfl ?_ | (apply vw_regionRun; (focus rfl); (focus ((conv => lhs; reduce); done)); (focus ((conv => lhs; simp [-List.map_set, set_vnat, set_vnat1, set_vint, set_bool, hb, hc8, hc1]); done)); refine vseg_done ?_) | (apply vw_drawPlain; (focus rfl); (focus kernel_rfl); (focus ((conv => lhs; reduce); done)); (focus ((conv => lhs; reduce); done)); (focus (kernel_rfl)); (focus ((conv => lhs; simp [-List.map_set, set_vnat, set_vnat1, set_vint, set_bool, hb, hc8, hc1]); done)); refine vseg_done ?_))
              refine again_gc [0, 1, 4] (by conv => lhs; simp [Fr.only]) hwf (by decide) (by simp [-List.map_set, renL_loops, idsL_loops, renL_repb, idsL_repb]) (by conv => lhs; simp [-List.map_set, renL_loops, idsL_loops, renL_repb, idsL_repb]) (by conv => lhs; simp [-List.map_set, renL_loops, idsL_loops, renL_repb, idsL_repb]) (by conv => lhs; simp [-List.map_set, renL_loops, idsL_loops, renL_repb, idsL_repb]) ⟨?_, k + 1, todo ++ [p], hkt, rfl, hdo', by simp [hwk], by simp⟩
              omega
            | false =>
              have hdo' : todo ++ G.backs near h (fr[h].drop (k + 1)) = ts := by
                rw [← hdo]; simp [G.backs, hb]
              repeat (first | refine vw_seqAt rfl ?_ | refine vw_scopeAt rfl ?_ | refine vw_labelAt rfl ?_ | refine vw_skipAt rfl ?_ | refine vw_exitAt _ rfl rfl ?_ | refine vw_retAt rfl ?_ | (refine vw_condT rfl rfl ?_ ?_; focus (simp [ev, Fr.look]; done)) | (refine vw_condF rfl rfl ?_ ?_; focus (simp [ev, Fr.look]; done)) | refine vw_blockAt _ rfl rfl ?_ | (apply vw_regionRun; (focus rfl); (focus ((conv => lhs; reduce); done)); (focus ((conv => lhs; simp [-List.map_set, set_vnat, set_vnat1, set_vint, set_bool, hb]); done)); refine vseg_done ?_) | (apply vw_drawPlain; (focus rfl); (focus kernel_rfl); (focus ((conv => lhs; reduce); done)); (focus ((conv => lhs; reduce); done)); (focus (kernel_rfl)); (focus ((conv => lhs; simp [-List.map_set, set_vnat, set_vnat1, set_vint, set_bool, hb]); done)); refine vseg_done ?_))
              show Again _ _ _ _ _ _ _
              exact again ⟨Nat.sub_lt_sub_left hkt (Nat.lt_succ_self k), k + 1, todo, hkt, rfl, hdo', by simp [Fr.only, hwk], by simp⟩
          · have hke : k = fr[h].length := by omega
            subst hke
            simp only [List.drop_length] at hdo
            have hts' : todo = ts := by simpa [G.backs] using hdo
            subst hts'
            by_cases hemp : todo = []
            · rw [if_pos (.inr hemp)] at hst
              subst hemp
              repeat (first | refine vw_seqAt rfl ?_ | refine vw_scopeAt rfl ?_ | refine vw_labelAt rfl ?_ | refine vw_skipAt rfl ?_ | refine vw_exitAt _ rfl rfl ?_ | refine vw_retAt rfl ?_ | (refine vw_condT rfl rfl ?_ ?_; focus (simp [ev, Fr.look]; done)) | (refine vw_condF rfl rfl ?_ ?_; focus (simp [ev, Fr.look]; done)) | refine vw_blockAt _ rfl rfl ?_ | (apply vw_regionRun; (focus rfl); (focus ((conv => lhs; reduce); done)); (focus ((conv => lhs; simp [-List.map_set, set_vnat, set_vnat1, set_vint, set_bool, hkt]); done)); refine vseg_done ?_) | (apply vw_drawPlain; (focus rfl); (focus kernel_rfl); (focus ((conv => lhs; reduce); done)); (focus ((conv => lhs; reduce); done)); (focus (kernel_rfl)); (focus ((conv => lhs; simp [-List.map_set, set_vnat, set_vnat1, set_vint, set_bool, hkt]); done)); refine vseg_done ?_))
              refine again_gc [0] (by conv => lhs; simp [Fr.only]) hwf (by decide) (by simp [-List.map_set, renL_loops, idsL_loops, renL_repb, idsL_repb]) (by conv => lhs; simp [-List.map_set, renL_loops, idsL_loops, renL_repb, idsL_repb]) (by conv => lhs; simp [-List.map_set, renL_loops, idsL_loops, renL_repb, idsL_repb]) (by conv => lhs; simp [-List.map_set, renL_loops, idsL_loops, renL_repb, idsL_repb]) ⟨?_, h + 1, hht, rfl, by rw [hst]; simp [hw], by rw [hst]⟩
              omega
            · rw [if_neg (by rintro (h1 | h1); exact hskip h1; exact hemp h1)] at hst
              have hlen0 : ¬ todo.length = 0 := fun e => hemp (List.eq_nil_of_length_eq_zero e)
              have hlt : ∀ t ∈ todo, t < g.length := fun t ht => hrowe t (by rw [← hts] at ht; exact (List.mem_filter.1 ht).1)
              have hS0 := G.Srch.start (fr := fr) hht hlt
              repeat (first | refine vw_seqAt rfl ?_ | refine vw_scopeAt rfl ?_ | refine vw_labelAt rfl ?_ | refine vw_skipAt rfl ?_ | refine vw_exitAt _ rfl rfl ?_ | refine vw_retAt rfl ?_ | (refine vw_condT rfl rfl ?_ ?_; focus (simp [ev, Fr.look]; done)) | (refine vw_condF rfl rfl ?_ ?_; focus (simp [ev, Fr.look]; done)) | refine vw_blockAt _ rfl rfl ?_ | (apply vw_regionRun; (focus rfl); (focus ((conv => lhs; reduce); done)); (focus ((conv => lhs; simp [-List.map_set, set_vnat, set_vnat1, set_vint, set_bool, hkt, hlen0, hht]); done)); refine vseg_done ?_) | (apply vw_drawPlain; (focus rfl); (focus kernel_rfl); (focus ((conv => lhs; reduce); done)); (focus ((conv => lhs; reduce); done)); (focus (kernel_rfl)); (focus ((conv => lhs; simp [-List.map_set, set_vnat, set_vnat1, set_vint, set_bool, hkt, hlen0, hht]); done)); refine vseg_done ?_))
              have hum : G.unmet ((List.replicate g.length false).set h true) ≤ g.length := by
                have := List.count_le_length (a := false) (l := (List.replicate g.length false).set h true)
                simpa [G.unmet] using this
              have hm0 : G.todoM (1048576) ((List.replicate g.length false).set h true) todo ≤ 1073741824 := by
                exact few (by omega) (by omega)
              repeat refine vw_seqAt rfl ?_
              refine vw_loopAt [0, 4, 6, 8, 9, 10, 11, 32, 33] rfl (fun c σ S' => ∃ (inn : List Bool) (td : List Nat), G.Srch fr h todo g.length inn td ∧ c = G.todoM (1048576) inn td ∧ c ≤ 1073741824 ∧ σ = [(0, vl (vl vnat) g), (4, vl vint near), (6, vl (vl vnat) fr), (8, .slice (lid S.nx 0) 0 ls.length), (9, vnat h), (10, .slice (lid S.nx 1) 0 g.length), (11, .slice (lid S.nx 2) 0 td.length), (32, vnat g.length), (33, vnat h)] ∧ S' = St S [] [some (2, flatC encLoop ls), some (1, inn.map V.bool), some (1, td.map vnat)]) (G.todoM (1048576) ((List.replicate g.length false).set h true) todo) ?_ ?_
              · exact ⟨_, _, hS0, rfl, hm0, by simp [Fr.only], by simp [List.map_set]⟩
              · rintro c σ T ⟨inn, td, hS, rfl, hcm, rfl, rfl⟩
                have hil := hS.len
                rcases List.eq_nil_or_concat td with rfl | ⟨td, n, rfl⟩
                · have hie := G.loopIn_eq hS
                  rw [← hie] at hst
                  repeat refine vw_seqAt rfl ?_
                  refine vw_regionRun rfl (by conv => lhs; reduce) (by conv => lhs; simp [-List.map_set, set_vnat, set_vnat1, set_vint, set_bool]) ?_
                  refine vseg_done ?_
                  repeat refine vw_seqAt rfl ?_
                  refine vw_condF rfl rfl rfl ?_
                  repeat refine vw_seqAt rfl ?_
                  refine vw_exitAt 4 rfl rfl ?_
                  repeat refine vw_seqAt rfl ?_
                  refine vw_regionRun rfl (by conv => lhs; reduce) (by conv => lhs; simp [-List.map_set, set_vnat, set_vnat1, set_vint, set_bool]) ?_
                  refine vseg_done ?_
                  apply vw_reach
                  · exact Reach.voidCell 1 (k := 3) (i := 1) (by simp) rfl rfl
                  simp only [List.cons_append, List.nil_append, List.set_cons_succ, List.set_cons_zero, List.length_cons, List.length_nil, Nat.reduceAdd]
                  repeat (first | refine vw_seqAt rfl ?_ | refine vw_scopeAt rfl ?_ | refine vw_labelAt rfl ?_ | refine vw_skipAt rfl ?_ | refine vw_exitAt _ rfl rfl ?_ | refine vw_retAt rfl ?_ | (refine vw_condT rfl rfl ?_ ?_; focus (simp [ev, Fr.look]; done)) | (refine vw_condF rfl rfl ?_ ?_; focus (simp [ev, Fr.look]; done)) | refine vw_blockAt _ rfl rfl ?_ | (apply vw_regionRun; (focus rfl); (focus ((conv => lhs; reduce); done)); (focus ((conv => lhs; simp [-List.map_set, set_vnat, set_vnat1, set_vint, set_bool]); done)); refine vseg_done ?_) | (apply vw_drawPlain; (focus rfl); (focus kernel_rfl); (focus ((conv => lhs; reduce); done)); (focus ((conv => lhs; reduce); done)); (focus (kernel_rfl)); (focus ((conv => lhs; simp [-List.map_set, set_vnat, set_vnat1, set_vint, set_bool]); done)); refine vseg_done ?_))
                  repeat refine vw_seqAt rfl ?_
                  refine vw_loopAt [0, 4, 6, 8, 15, 32, 33, 102, 103, 104] rfl (fun c σ S' => ∃ k : Nat, k ≤ g.length ∧ c = g.length - k ∧ σ = [(0, vl (vl vnat) g), (4, vl vint near), (6, vl (vl vnat) fr), (8, .slice (lid S.nx 0) 0 ls.length), (15, .ptr (lid S.nx 3) 0), (32, vnat g.length), (33, vnat h), (102, .slice (lid S.nx 1) 0 g.length), (103, vnat g.length), (104, vnat k)] ∧ S' = St S [] [some (2, flatC encLoop ls), some (1, inn.map V.bool), some (1, []), some (2, [vnat h, .slice (lid S.nx 4) 0 (G.picked inn k).length]), some (1, (G.picked inn k).map vnat)]) g.length ?_ ?_
                  · exact ⟨0, by omega, rfl, by simp [Fr.only], by simp [G.picked]⟩
                  · rintro c σ T ⟨k, hk, rfl, rfl, rfl⟩
                    have hpl := G.picked_len inn k
                    by_cases hkt : k < g.length
                    · have hwk : IntKind.i64.wrap ((k : Int) + 1) = (k : Int) + 1 := wrap_i64 (by omega) (by omega)
                      have hki : k < inn.length := by omega
                      obtain ⟨x, hx⟩ : ∃ x, inn[k] = x := ⟨_, rfl⟩
                      have hxd : inn.getD k false = x := by simp [hki, hx]
                      have hps : G.picked inn (k + 1) = if x = true then G.picked inn k ++ [k] else G.picked inn k := by simp only [G.picked, hxd]
                      have hc8 : ((G.picked inn k).length + 1) * 8 ≤ 140737488355328 := by omega
                      have hc1 : (G.picked inn k).length + 1 ≤ 140737488355328 := by omega
                      generalize G.picked inn k = pk at *
                      cases x with
                      | true =>
                        repeat (first | refine vw_seqAt rfl ?_ | refine vw_scopeAt rfl ?_ | refine vw_labelAt rfl ?_ | refine vw_skipAt rfl ?_ | refine vw_exitAt _ rfl rfl ?_ | refine vw_retAt rfl ?_ | (refine vw_condT rfl rfl ?_ ?_; focus (simp [ev, Fr.look]; done)) | (refine vw_condF rfl rfl ?_ ?_; focus (simp [ev, Fr.look]; done)) | refine vw_blockAt _ rfl rfl ?_ | (apply vw_regionRun; (focus rfl); (focus ((conv => lhs; reduce); done)); (focus ((conv => lhs; simp [-List.map_set, set_vnat, set_vnat1, set_vint, set_bool, hkt, hki, hx, hc8, hc1]); done)); refine vseg_done ?_) | (apply vw_drawPlain; (focus rfl); (focus kernel_rfl); (focus ((conv => lhs; reduce); done)); (focus ((conv => lhs; reduce); done)); (focus (kernel_rfl)); (focus ((conv => lhs; simp [-List.map_set, set_vnat, set_vnat1, set_vint, set_bool, hkt, hki, hx, hc8, hc1]); done)); refine vseg_done ?_))
                        refine again_gc [0, 1, 2, 3, 6] (by conv => lhs; simp [Fr.only]) hwf (by decide) (by simp [-List.map_set, renL_loops, idsL_loops]) (by conv => lhs; simp [-List.map_set, renL_loops, idsL_loops]) (by conv => lhs; simp [-List.map_set, renL_loops, idsL_loops]) (by conv => lhs; simp [-List.map_set, renL_loops, idsL_loops]) ⟨?_, k + 1, hkt, rfl, by simp [hwk], by rw [hps]; simp⟩
                        omega
                      | false =>
                        repeat (first | refine vw_seqAt rfl ?_ | refine vw_scopeAt rfl ?_ | refine vw_labelAt rfl ?_ | refine vw_skipAt rfl ?_ | refine vw_exitAt _ rfl rfl ?_ | refine vw_retAt rfl ?_ | (refine vw_condT rfl rfl ?_ ?_; focus (simp [ev, Fr.look]; done)) | (refine vw_condF rfl rfl ?_ ?_; focus (simp [ev, Fr.look]; done)) | refine vw_blockAt _ rfl rfl ?_ | (apply vw_regionRun; (focus rfl); (focus ((conv => lhs; reduce); done)); (focus ((conv => lhs; simp [-List.map_set, set_vnat, set_vnat1, set_vint, set_bool, hkt, hki, hx, hc8, hc1]); done)); refine vseg_done ?_) | (apply vw_drawPlain; (focus rfl); (focus kernel_rfl); (focus ((conv => lhs; reduce); done)); (focus ((conv => lhs; reduce); done)); (focus (kernel_rfl)); (focus ((conv => lhs; simp [-List.map_set, set_vnat, set_vnat1, set_vint, set_bool, hkt, hki, hx, hc8, hc1]); done)); refine vseg_done ?_))
                        show Again _ _ _ _ _ _ _
                        exact again ⟨Nat.sub_lt_sub_left hkt (Nat.lt_succ_self k), k + 1, hkt, rfl, by simp [Fr.only, hwk], by rw [hps]; simp⟩
                    · have hke : k = g.length := by omega
                      subst hke
                      generalize G.picked inn g.length = pk at *
                      repeat refine vw_seqAt rfl ?_
                      refine vw_regionRun rfl (by conv => lhs; reduce) (by conv => lhs; simp [-List.map_set, set_vnat, set_vnat1, set_vint, set_bool, hkt]) ?_
                      refine vseg_done ?_
                      repeat refine vw_seqAt rfl ?_
                      refine vw_condF rfl rfl rfl ?_
                      repeat refine vw_seqAt rfl ?_
                      refine vw_exitAt 6 rfl rfl ?_
                      apply vw_reach
                      · exact Reach.frzCell (k := 3) (j := 4) (i := 1) (n := pk.length) (cells' := pk.map vnat) (by omega) (by simp) (by simp) rfl rfl rfl (all_closed1 vnat (fun _ => rfl) _) (by simp)
                      simp only [List.set_cons_succ, List.set_cons_zero]
                      have hfl2 : ls.length * 2 = (flatC encLoop ls).length := by rw [flatC_len encLoop_len]
                      have hc8 : (ls.length + 1) * 32 ≤ 140737488355328 := by omega
                      have hc1 : ls.length + 1 ≤ 140737488355328 := by omega
                      have hsnoc : flatC encLoop (ls ++ [(h, pk)]) = flatC encLoop ls ++ [vnat h, V.list (pk.map vnat)] := by rw [flatC_snoc, encLoop_cells]; rfl
                      repeat (first | refine vw_seqAt rfl ?_ | refine vw_scopeAt rfl ?_ | refine vw_labelAt rfl ?_ | refine vw_skipAt rfl ?_ | refine vw_exitAt _ rfl rfl ?_ | refine vw_retAt rfl ?_ | (refine vw_condT rfl rfl ?_ ?_; focus (simp [ev, Fr.look]; done)) | (refine vw_condF rfl rfl ?_ ?_; focus (simp [ev, Fr.look]; done)) | refine vw_blockAt _ rfl rfl ?_ | (apply vw_regionRun; (focus rfl); (focus ((conv => lhs; reduce); done)); (focus ((conv => lhs; simp [-List.map_set, set_vnat, set_vnat1, set_vint, set_bool, hfl2, hc8, hc1, rep0]); done)); refine vseg_done ?_) | (apply vw_drawPlain; (focus rfl); (focus kernel_rfl); (focus ((conv => lhs; reduce); done)); (focus ((conv => lhs; reduce); done)); (focus (kernel_rfl)); (focus ((conv => lhs; simp [-List.map_set, set_vnat, set_vnat1, set_vint, set_bool, hfl2, hc8, hc1, rep0]); done)); refine vseg_done ?_))
                      refine again_gc [6] (by conv => lhs; simp [Fr.only]) hwf (by decide) (by simp [-List.map_set, renL_loops, idsL_loops]) (by conv => lhs; simp [-List.map_set, renL_loops, idsL_loops]) (by conv => lhs; simp [-List.map_set, renL_loops, idsL_loops]) (by conv => lhs; simp [-List.map_set, renL_loops, idsL_loops]) ⟨?_, h + 1, hht, rfl, by rw [hst]; simp [hw], by rw [hst, hsnoc]; simp⟩
                      omega
                · rw [List.concat_eq_append] at *
                  have hn := hS.lt n (by simp)
                  have hni : n < inn.length := by omega
                  have hnf : n < fr.length := by omega
                  have hfn : fr.getD n [] = fr[n] := by simp [hnf]
                  have hrn := hfm _ (List.getElem_mem hnf)
                  have htl : td.length + 1 ≤ 1073741824 := few_len hcm
                  have hw1 : IntKind.i64.wrap ((td.length : Int) + 1 - 1) = (td.length : Int) := by
                    rw [wrap_i64 (by omega) (by omega)]; omega
                  have hw2 : IntKind.i64.wrap (td.length : Int) = (td.length : Int) := wrap_i64 (by omega) (by omega)
                  have h0 : (0 : Int) < (td.length : Int) + 1 := by omega
                  have h1 : (td.length : Int) < (td.length : Int) + 1 := by omega
                  have h2 : (td.length : Int) ≤ (td.length : Int) + 1 := by omega
                  have hsub : ∀ t ∈ td, t ∈ td ++ [n] := fun t ht => by simp [ht]
                  have hre : ∀ t ∈ td ++ [n], t = n ∨ t ∈ td := fun t ht => by
                    rcases List.mem_append.1 ht with h | h
                    · exact .inr h
                    · simp at h; exact .inl h
                  repeat refine vw_seqAt rfl ?_
                  refine vw_regionRun rfl (by conv => lhs; reduce) (by conv => lhs; simp [-List.map_set, set_vnat, set_vnat1, set_vint, set_bool, h0]) ?_
                  refine vseg_done ?_
                  repeat refine vw_seqAt rfl ?_
                  refine vw_condT rfl rfl rfl ?_
                  repeat refine vw_seqAt rfl ?_
                  refine vw_skipAt rfl ?_
                  repeat refine vw_seqAt rfl ?_
                  refine vw_blockAt 5 rfl rfl ?_
                  repeat refine vw_seqAt rfl ?_
                  refine vw_regionRun rfl (by conv => lhs; reduce) (by conv => lhs; simp [-List.map_set, set_vnat, set_vnat1, set_vint, set_bool, hw1, hw2, h0, h1]) ?_
                  refine vseg_done ?_
                  repeat refine vw_seqAt rfl ?_
                  refine vw_regionRun rfl (by conv => lhs; reduce) (by conv => lhs; simp [-List.map_set, set_vnat, set_vnat1, set_vint, set_bool, hw1, hw2, h0, h1, h2]) ?_
                  refine vseg_done ?_
                  refine vw_trim 11 td.length rfl (by simp) rfl (by conv => lhs; simp [List.set_cons_zero, List.set_cons_succ]) ?_
                  obtain ⟨x, hx⟩ : ∃ x, inn[n] = x := ⟨_, rfl⟩
                  have hxd : inn.getD n false = x := by simp [hni, hx]
                  cases x with
                  | true =>
                    have hS' := hS.seen hxd hsub hre
                    repeat (first | refine vw_seqAt rfl ?_ | refine vw_scopeAt rfl ?_ | refine vw_labelAt rfl ?_ | refine vw_skipAt rfl ?_ | refine vw_exitAt _ rfl rfl ?_ | refine vw_retAt rfl ?_ | (refine vw_condT rfl rfl ?_ ?_; focus (simp [ev, Fr.look]; done)) | (refine vw_condF rfl rfl ?_ ?_; focus (simp [ev, Fr.look]; done)) | refine vw_blockAt _ rfl rfl ?_ | (apply vw_regionRun; (focus rfl); (focus ((conv => lhs; reduce); done)); (focus ((conv => lhs; simp [-List.map_set, set_vnat, set_vnat1, set_vint, set_bool, hn, hni, hx]); done)); refine vseg_done ?_) | (apply vw_drawPlain; (focus rfl); (focus kernel_rfl); (focus ((conv => lhs; reduce); done)); (focus ((conv => lhs; reduce); done)); (focus (kernel_rfl)); (focus ((conv => lhs; simp [-List.map_set, set_vnat, set_vnat1, set_vint, set_bool, hn, hni, hx]); done)); refine vseg_done ?_))
                    refine again_gc [0, 1, 2] (by conv => lhs; simp [Fr.only]) hwf (by decide) (by simp [-List.map_set, renL_loops, idsL_loops]) (by conv => lhs; simp [-List.map_set, renL_loops, idsL_loops]) (by conv => lhs; simp [-List.map_set, renL_loops, idsL_loops]) (by conv => lhs; simp [-List.map_set, renL_loops, idsL_loops]) ⟨?_, inn, td, hS', rfl, Nat.le_trans (Nat.le_of_lt few_less) hcm, by simp, by simp⟩
                    exact few_less
                  | false =>
                    have hS' := hS.take (todo' := td ++ fr[n]) (by simp) (by rw [hfn]; exact hfe _ (List.getElem_mem hnf)) hxd (fun t ht => by
                      rcases List.mem_append.1 ht with h | h
                      · exact .inl (by simp [h])
                      · exact .inr (by rw [hfn]; exact h)) (fun t ht => by
                      rcases hre t ht with h | h
                      · exact .inl h
                      · exact .inr (by simp [h])) (fun t ht => by rw [hfn] at ht; simp [ht])
                    have hmm := G.todoM_take (M := 1048576) (todo := td ++ [n]) (todo' := td ++ fr[n]) hni hx hrn (by simp; omega)
                    have hc8 : (td.length + fr[n].length) * 8 ≤ 140737488355328 := by omega
                    have hc1 : td.length + fr[n].length ≤ 140737488355328 := by omega
                    repeat (first | refine vw_seqAt rfl ?_ | refine vw_scopeAt rfl ?_ | refine vw_labelAt rfl ?_ | refine vw_skipAt rfl ?_ | refine vw_exitAt _ rfl rfl ?_ | refine vw_retAt rfl ?_ | (refine vw_condT rfl rfl ?_ ?_; focus (simp [ev, Fr.look]; done)) | (refine vw_condF rfl rfl ?_ ?_; focus (simp [ev, Fr.look]; done)) | refine vw_blockAt _ rfl rfl ?_ | (apply vw_regionRun; (focus rfl); (focus ((conv => lhs; reduce); done)); (focus ((conv => lhs; simp [-List.map_set, set_vnat, set_vnat1, set_vint, set_bool, hn, hni, hx, hnf, opAppend_vl, nc_vnat, hc8, hc1, flatC_vnat]); done)); refine vseg_done ?_) | (apply vw_drawPlain; (focus rfl); (focus kernel_rfl); (focus ((conv => lhs; reduce); done)); (focus ((conv => lhs; reduce); done)); (focus (kernel_rfl)); (focus ((conv => lhs; simp [-List.map_set, set_vnat, set_vnat1, set_vint, set_bool, hn, hni, hx, hnf, opAppend_vl, nc_vnat, hc8, hc1, flatC_vnat]); done)); refine vseg_done ?_))
                    refine again_gc [0, 1, 3] (by conv => lhs; simp [Fr.only]) hwf (by decide) (by simp [-List.map_set, renL_loops, idsL_loops]) (by conv => lhs; simp [-List.map_set, renL_loops, idsL_loops]) (by conv => lhs; simp [-List.map_set, renL_loops, idsL_loops]) (by conv => lhs; simp [-List.map_set, renL_loops, idsL_loops]) ⟨?_, _, _, hS', rfl, Nat.le_trans (Nat.le_of_lt hmm) hcm, by simp, by simp⟩
                    exact hmm
    · have hhe : h = g.length := by omega
      subst hhe
      repeat (first | refine vw_seqAt rfl ?_ | refine vw_scopeAt rfl ?_ | refine vw_labelAt rfl ?_ | refine vw_skipAt rfl ?_ | refine vw_exitAt _ rfl rfl ?_ | refine vw_retAt rfl ?_ | (refine vw_condT rfl rfl ?_ ?_; focus (simp [ev, Fr.look]; done)) | (refine vw_condF rfl rfl ?_ ?_; focus (simp [ev, Fr.look]; done)) | refine vw_blockAt _ rfl rfl ?_ | (apply vw_regionRun; (focus rfl); (focus ((conv => lhs; reduce); done)); (focus ((conv => lhs; simp [-List.map_set, set_vnat, set_vnat1, set_vint, set_bool, hht]); done)); refine vseg_done ?_) | (apply vw_drawPlain; (focus rfl); (focus kernel_rfl); (focus ((conv => lhs; reduce); done)); (focus ((conv => lhs; reduce); done)); (focus (kernel_rfl)); (focus ((conv => lhs; simp [-List.map_set, set_vnat, set_vnat1, set_vint, set_bool, hht]); done)); refine vseg_done ?_))
      exact done_via hwf ((Ghost.tuple [] [vint 0] (frzSt (k := 0) encLoop_len encLoop_closed _ (by simp) rfl)).toB _) rfl
end Go.Vw
