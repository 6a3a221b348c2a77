import Derived.Test.YtgnoiaekmmfnmaaVMore
import Derived.Test.YtgnoiaekmmfnmaaGLoops
set_option linter.unusedVariables false
set_option linter.unusedSimpArgs false
namespace Go.Vw
open Go.Proofs Go.RowKit
set_option maxRecDepth 10000
set_option maxHeartbeats 16000000

theorem opAppend_off {S : Store} {o off len : Nat} {pre cells : List V} {l : List Nat} (ho : S.get o = some (1, pre ++ cells)) (hp : pre.length = off) (hl : cells.length = len) (hb : (len + l.length) * 8 ≤ 140737488355328) (hb1 : len + l.length ≤ 140737488355328) :
    opAppend 1 8 S (.slice o off len) (vl vnat l) = some (.slice S.nx 0 (len + l.length), (S.del o).add (1, cells ++ l.map vnat)) := by
  subst hp; subst hl
  have e1 : srcCells 1 S (vl vnat l) = some (l.map vnat, l.length) := by
    have h1 : (l.map vnat).all (fun x => x.ncells == 1) = true := by simp [vnat, V.ncells]
    have h2 : (l.map vnat).flatMap V.cells = l.map vnat := by
      clear hb hb1 h1
      induction l with
      | nil => rfl
      | cons x l ih => simp only [List.map_cons, List.flatMap_cons, ih]; rfl
    simp only [srcCells, vl, h1, if_true, h2, List.length_map]
  simp [opAppend, e1, ho, hb, hb1]

theorem rLoopsErr_v (g : List (List Int)) (h : Fits g) (hr : G.right g = false) : VPure Try.prog 24 [vl (vl vint) g] (.tuple [vl encLoop [], vint 1]) := by
  intro S
  have e : G.err g = 1 := by simp [G.err, hr]
  refine vcalls_start (c := bodyOf Try.f24) Try.func24 rfl rfl (by simp [Try.ntmps24]) ?_
  rw [Try.ntmps24]
  intro hwf
  repeat (first | refine vw_seqAt rfl ?_ | refine vw_scopeAt rfl ?_ | refine vw_labelAt rfl ?_ | refine vw_skipAt rfl ?_ | refine vw_exitAt _ rfl rfl ?_ | refine vw_retAt rfl ?_ | (refine vw_condT rfl rfl ?_ ?_; focus (simp [ev, Fr.look]; done)) | (refine vw_condF rfl rfl ?_ ?_; focus (simp [ev, Fr.look]; done)) | refine vw_blockAt _ rfl rfl ?_ | (apply vw_regionRun; (focus rfl); (focus ((conv => lhs; reduce); done)); (focus ((conv => lhs; simp [-List.map_set, set_vnat, set_vnat1, set_vint, set_bool]); done)); refine vseg_done ?_) | (apply vw_drawPlain; (focus rfl); (focus kernel_rfl); (focus ((conv => lhs; reduce); done)); (focus ((conv => lhs; reduce); done)); (focus (kernel_rfl)); (focus ((conv => lhs; simp [-List.map_set, set_vnat, set_vnat1, set_vint, set_bool]); done)); refine vseg_done ?_))
  repeat refine vw_seqAt rfl ?_
  refine vw_regionRun rfl (by conv => lhs; reduce) (by conv => lhs; simp [-List.map_set, set_vnat, set_vnat1, set_vint, set_bool]) ?_
  refine vcall_use rfl (RFromAll_v g h) ?_
  refine vseg_more (by conv => lhs; simp [-List.map_set, set_vnat, set_vnat1, set_vint, set_bool]) ?_
  refine vseg_done ?_
  repeat (first | refine vw_seqAt rfl ?_ | refine vw_scopeAt rfl ?_ | refine vw_labelAt rfl ?_ | refine vw_skipAt rfl ?_ | refine vw_exitAt _ rfl rfl ?_ | refine vw_retAt rfl ?_ | (refine vw_condT rfl rfl ?_ ?_; focus (simp [ev, Fr.look]; done)) | (refine vw_condF rfl rfl ?_ ?_; focus (simp [ev, Fr.look]; done)) | refine vw_blockAt _ rfl rfl ?_ | (apply vw_regionRun; (focus rfl); (focus ((conv => lhs; reduce); done)); (focus ((conv => lhs; simp [-List.map_set, set_vnat, set_vnat1, set_vint, set_bool, e]); done)); refine vseg_done ?_) | (apply vw_drawPlain; (focus rfl); (focus kernel_rfl); (focus ((conv => lhs; reduce); done)); (focus ((conv => lhs; reduce); done)); (focus (kernel_rfl)); (focus ((conv => lhs; simp [-List.map_set, set_vnat, set_vnat1, set_vint, set_bool, e]); done)); refine vseg_done ?_))
  exact done_via (l := []) hwf ((Ghost.tuple [] [vint 1] (Ghost.nils_list _)).toB _) rfl

theorem rLoops_v (g : List (List Nat)) (hg : G.Ok g) (t : List (List Bool)) (fr : List (List Nat)) (ct : VPure Try.prog 31 [vl (vl vnat) g] (vl (vl V.bool) t)) (cf : VPure Try.prog 13 [vl (vl vnat) g] (.tuple [vl (vl vnat) fr, vint 0]))
    (htl : t.length = g.length) (htr : ∀ a (ha : a < t.length), t[a].length = g.length) (hfl : fr.length = g.length) (hfm : ∀ r ∈ fr, r.length ≤ 1048576) (hfe : ∀ r ∈ fr, ∀ x ∈ r, x < g.length) :
    VPure Try.prog 24 [vl (vl vnat) g] (.tuple [vl encLoop (G.rloopsTo t fr g.length g.length), vint 0]) := by
  intro S
  refine vcalls_start (c := bodyOf Try.f24) Try.func24 rfl rfl (by simp [Try.ntmps24]) ?_
  rw [Try.ntmps24]
  intro hwf
  have hm := hg.max
  have hp := hg.pos
  have hb1 : g.length * 1 ≤ 140737488355328 := by omega
  have hb0 : g.length ≤ 140737488355328 := by omega
  repeat (first | refine vw_seqAt rfl ?_ | refine vw_scopeAt rfl ?_ | refine vw_labelAt rfl ?_ | refine vw_skipAt rfl ?_ | refine vw_exitAt _ rfl rfl ?_ | refine vw_retAt rfl ?_ | (refine vw_condT rfl rfl ?_ ?_; focus (simp [ev, Fr.look]; done)) | (refine vw_condF rfl rfl ?_ ?_; focus (simp [ev, Fr.look]; done)) | refine vw_blockAt _ rfl rfl ?_ | (apply vw_regionRun; (focus rfl); (focus ((conv => lhs; reduce); done)); (focus ((conv => lhs; simp [-List.map_set, set_vnat, set_vnat1, set_vint, set_bool]); done)); refine vseg_done ?_) | (apply vw_drawPlain; (focus rfl); (focus kernel_rfl); (focus ((conv => lhs; reduce); done)); (focus ((conv => lhs; reduce); done)); (focus (kernel_rfl)); (focus ((conv => lhs; simp [-List.map_set, set_vnat, set_vnat1, set_vint, set_bool]); done)); refine vseg_done ?_))
  repeat refine vw_seqAt rfl ?_
  refine vw_regionRun rfl (by conv => lhs; reduce) (by conv => lhs; simp [-List.map_set, set_vnat, set_vnat1, set_vint, set_bool]) ?_
  refine vcall_use rfl (cf) ?_
  refine vseg_more (by conv => lhs; simp [-List.map_set, set_vnat, set_vnat1, set_vint, set_bool]) ?_
  refine vseg_done ?_
  repeat (first | refine vw_seqAt rfl ?_ | refine vw_scopeAt rfl ?_ | refine vw_labelAt rfl ?_ | refine vw_skipAt rfl ?_ | refine vw_exitAt _ rfl rfl ?_ | refine vw_retAt rfl ?_ | (refine vw_condT rfl rfl ?_ ?_; focus (simp [ev, Fr.look]; done)) | (refine vw_condF rfl rfl ?_ ?_; focus (simp [ev, Fr.look]; done)) | refine vw_blockAt _ rfl rfl ?_ | (apply vw_regionRun; (focus rfl); (focus ((conv => lhs; reduce); done)); (focus ((conv => lhs; simp [-List.map_set, set_vnat, set_vnat1, set_vint, set_bool]); done)); refine vseg_done ?_) | (apply vw_drawPlain; (focus rfl); (focus kernel_rfl); (focus ((conv => lhs; reduce); done)); (focus ((conv => lhs; reduce); done)); (focus (kernel_rfl)); (focus ((conv => lhs; simp [-List.map_set, set_vnat, set_vnat1, set_vint, set_bool]); done)); refine vseg_done ?_))
  repeat refine vw_seqAt rfl ?_
  refine vw_regionRun rfl (by conv => lhs; reduce) (by conv => lhs; simp [-List.map_set, set_vnat, set_vnat1, set_vint, set_bool]) ?_
  refine vcall_use rfl (ct) ?_
  refine vseg_more (by conv => lhs; simp [-List.map_set, set_vnat, set_vnat1, set_vint, set_bool]) ?_
  refine vseg_done ?_
  repeat refine vw_seqAt rfl ?_
  refine vw_regionRun rfl (by conv => lhs; reduce) (by conv => lhs; simp [-List.map_set, set_vnat, set_vnat1, set_vint, set_bool]) ?_
  refine vseg_done ?_
  refine vw_void 7 2 rfl (by conv => lhs; simp [Fr.set]) ?_
  repeat (first | refine vw_seqAt rfl ?_ | refine vw_scopeAt rfl ?_ | refine vw_labelAt rfl ?_ | refine vw_skipAt rfl ?_ | refine vw_exitAt _ rfl rfl ?_ | refine vw_retAt rfl ?_ | (refine vw_condT rfl rfl ?_ ?_; focus (simp [ev, Fr.look]; done)) | (refine vw_condF rfl rfl ?_ ?_; focus (simp [ev, Fr.look]; done)) | refine vw_blockAt _ rfl rfl ?_ | (apply vw_regionRun; (focus rfl); (focus ((conv => lhs; reduce); done)); (focus ((conv => lhs; simp [-List.map_set, set_vnat, set_vnat1, set_vint, set_bool]); done)); refine vseg_done ?_) | (apply vw_drawPlain; (focus rfl); (focus kernel_rfl); (focus ((conv => lhs; reduce); done)); (focus ((conv => lhs; reduce); done)); (focus (kernel_rfl)); (focus ((conv => lhs; simp [-List.map_set, set_vnat, set_vnat1, set_vint, set_bool]); done)); refine vseg_done ?_))
  repeat refine vw_seqAt rfl ?_
  refine vw_loopAt [0, 4, 6, 7, 8] rfl (fun c σ S' => ∃ h : Nat, h ≤ g.length ∧ c = g.length - h ∧ σ = [(0, vl (vl vnat) g), (4, vl (vl vnat) fr), (6, vl (vl V.bool) t), (7, .slice (lid S.nx 0) 0 (G.rloopsTo t fr g.length h).length), (8, vnat h)] ∧ S' = St S [] [some (2, flatC encLoop (G.rloopsTo t fr g.length h))]) g.length ?_ ?_
  · exact ⟨0, by omega, rfl, by simp [Fr.only, G.rloopsTo], by simp [G.rloopsTo, flatC]⟩
  · rintro c σ T ⟨h, hh, rfl, rfl, rfl⟩
    by_cases hht : h < g.length
    · have hw : IntKind.i64.wrap ((h : Int) + 1) = (h : Int) + 1 := wrap_i64 (by omega) (by omega)
      have hhf : h < fr.length := by omega
      have hhtb : h < t.length := by omega
      have htrl := htr h hhtb
      have hfd : fr.getD h [] = fr[h] := by simp [hhf]
      have hrow := hfm _ (List.getElem_mem hhf)
      have hrowe := hfe _ (List.getElem_mem hhf)
      have hst : G.rloopsTo t fr g.length (h + 1) = if G.rbacks t h fr[h] = [] then G.rloopsTo t fr g.length h else G.rloopsTo t fr g.length h ++ [(h, G.picked (G.loopIn fr h (G.rbacks t h fr[h]) g.length) g.length)] := by
        simp only [G.rloopsTo, hfd]
      have hlo := G.rloopsTo_len t fr g.length h
      generalize G.rloopsTo t fr g.length h = ls at *
      repeat (first | refine vw_seqAt rfl ?_ | refine vw_scopeAt rfl ?_ | refine vw_labelAt rfl ?_ | refine vw_skipAt rfl ?_ | refine vw_exitAt _ rfl rfl ?_ | refine vw_retAt rfl ?_ | (refine vw_condT rfl rfl ?_ ?_; focus (simp [ev, Fr.look]; done)) | (refine vw_condF rfl rfl ?_ ?_; focus (simp [ev, Fr.look]; done)) | refine vw_blockAt _ rfl rfl ?_ | (apply vw_regionRun; (focus rfl); (focus ((conv => lhs; reduce); done)); (focus ((conv => lhs; simp [-List.map_set, set_vnat, set_vnat1, set_vint, set_bool, hht, hb1, hb0]); done)); refine vseg_done ?_) | (apply vw_drawPlain; (focus rfl); (focus kernel_rfl); (focus ((conv => lhs; reduce); done)); (focus ((conv => lhs; reduce); done)); (focus (kernel_rfl)); (focus ((conv => lhs; simp [-List.map_set, set_vnat, set_vnat1, set_vint, set_bool, hht, hb1, hb0]); done)); refine vseg_done ?_))
      refine vw_void 10 1 rfl (by conv => lhs; simp [Fr.set]) ?_
      repeat (first | refine vw_seqAt rfl ?_ | refine vw_scopeAt rfl ?_ | refine vw_labelAt rfl ?_ | refine vw_skipAt rfl ?_ | refine vw_exitAt _ rfl rfl ?_ | refine vw_retAt rfl ?_ | (refine vw_condT rfl rfl ?_ ?_; focus (simp [ev, Fr.look]; done)) | (refine vw_condF rfl rfl ?_ ?_; focus (simp [ev, Fr.look]; done)) | refine vw_blockAt _ rfl rfl ?_ | (apply vw_regionRun; (focus rfl); (focus ((conv => lhs; reduce); done)); (focus ((conv => lhs; simp [-List.map_set, set_vnat, set_vnat1, set_vint, set_bool]); done)); refine vseg_done ?_) | (apply vw_drawPlain; (focus rfl); (focus kernel_rfl); (focus ((conv => lhs; reduce); done)); (focus ((conv => lhs; reduce); done)); (focus (kernel_rfl)); (focus ((conv => lhs; simp [-List.map_set, set_vnat, set_vnat1, set_vint, set_bool]); done)); refine vseg_done ?_))
      generalize hts : G.rbacks t h fr[h] = ts at *
      have htsl : ts.length ≤ fr[h].length := by rw [← hts]; exact List.length_filter_le _ _
      repeat refine vw_seqAt rfl ?_
      refine vw_loopAt [0, 4, 6, 7, 8, 9, 10, 11] rfl (fun c σ S' => ∃ (k : Nat) (todo : List Nat), k ≤ fr[h].length ∧ c = fr[h].length - k ∧ todo ++ G.rbacks t h (fr[h].drop k) = ts ∧ σ = [(0, vl (vl vnat) g), (4, vl (vl vnat) fr), (6, vl (vl V.bool) t), (7, .slice (lid S.nx 0) 0 ls.length), (8, vnat h), (9, .slice (lid S.nx 1) 0 g.length), (10, .slice (lid S.nx 2) 0 todo.length), (11, vnat k)] ∧ S' = St S [] [some (2, flatC encLoop ls), some (1, (List.replicate g.length false).map V.bool), some (1, todo.map vnat)]) fr[h].length ?_ ?_
      · exact ⟨0, [], by omega, rfl, by simpa using hts, by simp [Fr.only], by simp⟩
      · rintro c σ T ⟨k, todo, hk, rfl, hdo, rfl, rfl⟩
        have htdl : todo.length ≤ ts.length := by rw [← hdo]; simp
        by_cases hkt : k < fr[h].length
        · have hwk : IntKind.i64.wrap ((k : Int) + 1) = (k : Int) + 1 := wrap_i64 (by omega) (by omega)
          rw [List.drop_eq_getElem_cons hkt] at hdo
          have hpl := hrowe _ (List.getElem_mem hkt)
          generalize hpe : fr[h][k] = p at hdo hpl
          have hptl : p < t[h].length := by omega
          obtain ⟨b, hbe⟩ : ∃ b, t[h][p] = b := ⟨_, rfl⟩
          have hb : G.tabAt t h p = b := by simp [G.tabAt, hhtb, hptl, hbe]
          repeat (first | refine vw_seqAt rfl ?_ | refine vw_scopeAt rfl ?_ | refine vw_labelAt rfl ?_ | refine vw_skipAt rfl ?_ | refine vw_exitAt _ rfl rfl ?_ | refine vw_retAt rfl ?_ | (refine vw_condT rfl rfl ?_ ?_; focus (simp [ev, Fr.look]; done)) | (refine vw_condF rfl rfl ?_ ?_; focus (simp [ev, Fr.look]; done)) | refine vw_blockAt _ rfl rfl ?_ | (apply vw_regionRun; (focus rfl); (focus ((conv => lhs; reduce); done)); (focus ((conv => lhs; simp [-List.map_set, set_vnat, set_vnat1, set_vint, set_bool, hkt, hhf]); done)); refine vseg_done ?_) | (apply vw_drawPlain; (focus rfl); (focus kernel_rfl); (focus ((conv => lhs; reduce); done)); (focus ((conv => lhs; reduce); done)); (focus (kernel_rfl)); (focus ((conv => lhs; simp [-List.map_set, set_vnat, set_vnat1, set_vint, set_bool, hkt, hhf]); done)); refine vseg_done ?_))
          cases b with
          | true =>
            have hc8 : (todo.length + 1) * 8 ≤ 140737488355328 := by omega
            have hc1 : todo.length + 1 ≤ 140737488355328 := by omega
            have hdo' : (todo ++ [p]) ++ G.rbacks t h (fr[h].drop (k + 1)) = ts := by
              rw [← hdo]; simp [G.rbacks, hb]
            repeat (first | refine vw_seqAt rfl ?_ | refine vw_scopeAt rfl ?_ | refine vw_labelAt rfl ?_ | refine vw_skipAt rfl ?_ | refine vw_exitAt _ rfl rfl ?_ | refine vw_retAt rfl ?_ | (refine vw_condT rfl rfl ?_ ?_; focus (simp [ev, Fr.look]; done)) | (refine vw_condF rfl rfl ?_ ?_; focus (simp [ev, Fr.look]; done)) | refine vw_blockAt _ rfl rfl ?_ | (apply vw_regionRun; (focus rfl); (focus ((conv => lhs; reduce); done)); (focus ((conv => lhs; simp [-List.map_set, set_vnat, set_vnat1, set_vint, set_bool, hkt, hpe, hhf, hhtb, hptl, hbe, hc8, hc1]); done)); refine vseg_done ?_) | (apply vw_drawPlain; (focus rfl); (focus kernel_rfl); (focus ((conv => lhs; reduce); done)); (focus ((conv => lhs; reduce); done)); (focus (kernel_rfl)); (focus ((conv => lhs; simp [-List.map_set, set_vnat, set_vnat1, set_vint, set_bool, hkt, hpe, hhf, hhtb, hptl, hbe, hc8, hc1]); done)); refine vseg_done ?_))
            refine again_gc [0, 1, 4] (by conv => lhs; simp [Fr.only]) hwf (by decide) (by simp [-List.map_set, renL_loops, idsL_loops, renL_repb, idsL_repb]) (by conv => lhs; simp [-List.map_set, renL_loops, idsL_loops, renL_repb, idsL_repb]) (by conv => lhs; simp [-List.map_set, renL_loops, idsL_loops, renL_repb, idsL_repb]) (by conv => lhs; simp [-List.map_set, renL_loops, idsL_loops, renL_repb, idsL_repb]) ⟨?_, k + 1, todo ++ [p], hkt, rfl, hdo', by simp [hwk], by simp⟩
            omega
          | false =>
            have hdo' : todo ++ G.rbacks t h (fr[h].drop (k + 1)) = ts := by
              rw [← hdo]; simp [G.rbacks, hb]
            repeat (first | refine vw_seqAt rfl ?_ | refine vw_scopeAt rfl ?_ | refine vw_labelAt rfl ?_ | refine vw_skipAt rfl ?_ | refine vw_exitAt _ rfl rfl ?_ | refine vw_retAt rfl ?_ | (refine vw_condT rfl rfl ?_ ?_; focus (simp [ev, Fr.look]; done)) | (refine vw_condF rfl rfl ?_ ?_; focus (simp [ev, Fr.look]; done)) | refine vw_blockAt _ rfl rfl ?_ | (apply vw_regionRun; (focus rfl); (focus ((conv => lhs; reduce); done)); (focus ((conv => lhs; simp [-List.map_set, set_vnat, set_vnat1, set_vint, set_bool, hkt, hpe, hhf, hhtb, hptl, hbe]); done)); refine vseg_done ?_) | (apply vw_drawPlain; (focus rfl); (focus kernel_rfl); (focus ((conv => lhs; reduce); done)); (focus ((conv => lhs; reduce); done)); (focus (kernel_rfl)); (focus ((conv => lhs; simp [-List.map_set, set_vnat, set_vnat1, set_vint, set_bool, hkt, hpe, hhf, hhtb, hptl, hbe]); done)); refine vseg_done ?_))
            show Again _ _ _ _ _ _ _
            exact again ⟨Nat.sub_lt_sub_left hkt (Nat.lt_succ_self k), k + 1, todo, hkt, rfl, hdo', by simp [Fr.only, hwk], by simp⟩
        · have hke : k = fr[h].length := by omega
          subst hke
          simp only [List.drop_length] at hdo
          have hts' : todo = ts := by simpa [G.rbacks] using hdo
          subst hts'
          by_cases hemp : todo = []
          · rw [if_pos hemp] at hst
            subst hemp
            repeat (first | refine vw_seqAt rfl ?_ | refine vw_scopeAt rfl ?_ | refine vw_labelAt rfl ?_ | refine vw_skipAt rfl ?_ | refine vw_exitAt _ rfl rfl ?_ | refine vw_retAt rfl ?_ | (refine vw_condT rfl rfl ?_ ?_; focus (simp [ev, Fr.look]; done)) | (refine vw_condF rfl rfl ?_ ?_; focus (simp [ev, Fr.look]; done)) | refine vw_blockAt _ rfl rfl ?_ | (apply vw_regionRun; (focus rfl); (focus ((conv => lhs; reduce); done)); (focus ((conv => lhs; simp [-List.map_set, set_vnat, set_vnat1, set_vint, set_bool, hkt, hhf]); done)); refine vseg_done ?_) | (apply vw_drawPlain; (focus rfl); (focus kernel_rfl); (focus ((conv => lhs; reduce); done)); (focus ((conv => lhs; reduce); done)); (focus (kernel_rfl)); (focus ((conv => lhs; simp [-List.map_set, set_vnat, set_vnat1, set_vint, set_bool, hkt, hhf]); done)); refine vseg_done ?_))
            refine again_gc [0] (by conv => lhs; simp [Fr.only]) hwf (by decide) (by simp [-List.map_set, renL_loops, idsL_loops, renL_repb, idsL_repb]) (by conv => lhs; simp [-List.map_set, renL_loops, idsL_loops, renL_repb, idsL_repb]) (by conv => lhs; simp [-List.map_set, renL_loops, idsL_loops, renL_repb, idsL_repb]) (by conv => lhs; simp [-List.map_set, renL_loops, idsL_loops, renL_repb, idsL_repb]) ⟨?_, h + 1, hht, rfl, by rw [hst]; simp [hw], by rw [hst]⟩
            omega
          · rw [if_neg hemp] at hst
            have hlen0 : ¬ todo.length = 0 := fun e => hemp (List.eq_nil_of_length_eq_zero e)
            have hlt : ∀ t ∈ todo, t < g.length := fun t ht => hrowe t (by rw [← hts] at ht; exact (List.mem_filter.1 ht).1)
            have hS0 := G.Srch.start (fr := fr) hht hlt
            have hum : G.unmet ((List.replicate g.length false).set h true) ≤ g.length := by
              have := List.count_le_length (a := false) (l := (List.replicate g.length false).set h true)
              simpa [G.unmet] using this
            have hm0 : G.todoM (1048576) ((List.replicate g.length false).set h true) todo ≤ 1073741824 := by
              exact few (by omega) (by omega)
            repeat (first | refine vw_seqAt rfl ?_ | refine vw_scopeAt rfl ?_ | refine vw_labelAt rfl ?_ | refine vw_skipAt rfl ?_ | refine vw_exitAt _ rfl rfl ?_ | refine vw_retAt rfl ?_ | (refine vw_condT rfl rfl ?_ ?_; focus (simp [ev, Fr.look]; done)) | (refine vw_condF rfl rfl ?_ ?_; focus (simp [ev, Fr.look]; done)) | refine vw_blockAt _ rfl rfl ?_ | (apply vw_regionRun; (focus rfl); (focus ((conv => lhs; reduce); done)); (focus ((conv => lhs; simp [-List.map_set, set_vnat, set_vnat1, set_vint, set_bool, hkt, hhf, hlen0, hht]); done)); refine vseg_done ?_) | (apply vw_drawPlain; (focus rfl); (focus kernel_rfl); (focus ((conv => lhs; reduce); done)); (focus ((conv => lhs; reduce); done)); (focus (kernel_rfl)); (focus ((conv => lhs; simp [-List.map_set, set_vnat, set_vnat1, set_vint, set_bool, hkt, hhf, hlen0, hht]); done)); refine vseg_done ?_))
            repeat refine vw_seqAt rfl ?_
            refine vw_loopAt [0, 4, 6, 7, 8, 9, 10] rfl (fun c σ S' => ∃ (inn : List Bool) (pre td : List Nat), G.Srch fr h todo g.length inn td ∧ c = G.todoM (1048576) inn td ∧ c ≤ 1073741824 ∧ σ = [(0, vl (vl vnat) g), (4, vl (vl vnat) fr), (6, vl (vl V.bool) t), (7, .slice (lid S.nx 0) 0 ls.length), (8, vnat h), (9, .slice (lid S.nx 1) 0 g.length), (10, .slice (lid S.nx 2) pre.length td.length)] ∧ S' = St S [] [some (2, flatC encLoop ls), some (1, inn.map V.bool), some (1, pre.map vnat ++ td.map vnat)]) (G.todoM (1048576) ((List.replicate g.length false).set h true) todo) ?_ ?_
            · exact ⟨_, [], _, hS0, rfl, hm0, by simp [Fr.only], by simp [List.map_set]⟩
            · rintro c σ T ⟨inn, pre, td, hS, rfl, hcm, rfl, rfl⟩
              have hil := hS.len
              cases td with
              | nil =>
                have hie := G.loopIn_eq hS
                rw [← hie] at hst
                repeat refine vw_seqAt rfl ?_
                refine vw_regionRun rfl (by conv => lhs; reduce) (by conv => lhs; simp [-List.map_set, set_vnat, set_vnat1, set_vint, set_bool]) ?_
                refine vseg_done ?_
                repeat refine vw_seqAt rfl ?_
                refine vw_condF rfl rfl rfl ?_
                repeat refine vw_seqAt rfl ?_
                refine vw_exitAt 4 rfl rfl ?_
                repeat refine vw_seqAt rfl ?_
                refine vw_regionRun rfl (by conv => lhs; reduce) (by conv => lhs; simp [-List.map_set, set_vnat, set_vnat1, set_vint, set_bool]) ?_
                refine vseg_done ?_
                apply vw_reach
                · exact Reach.voidCell 1 (k := 3) (i := 1) (by simp) rfl rfl
                simp only [List.cons_append, List.nil_append, List.set_cons_succ, List.set_cons_zero, List.length_cons, List.length_nil, Nat.reduceAdd]
                repeat (first | refine vw_seqAt rfl ?_ | refine vw_scopeAt rfl ?_ | refine vw_labelAt rfl ?_ | refine vw_skipAt rfl ?_ | refine vw_exitAt _ rfl rfl ?_ | refine vw_retAt rfl ?_ | (refine vw_condT rfl rfl ?_ ?_; focus (simp [ev, Fr.look]; done)) | (refine vw_condF rfl rfl ?_ ?_; focus (simp [ev, Fr.look]; done)) | refine vw_blockAt _ rfl rfl ?_ | (apply vw_regionRun; (focus rfl); (focus ((conv => lhs; reduce); done)); (focus ((conv => lhs; simp [-List.map_set, set_vnat, set_vnat1, set_vint, set_bool]); done)); refine vseg_done ?_) | (apply vw_drawPlain; (focus rfl); (focus kernel_rfl); (focus ((conv => lhs; reduce); done)); (focus ((conv => lhs; reduce); done)); (focus (kernel_rfl)); (focus ((conv => lhs; simp [-List.map_set, set_vnat, set_vnat1, set_vint, set_bool]); done)); refine vseg_done ?_))
                repeat refine vw_seqAt rfl ?_
                refine vw_loopAt [0, 4, 6, 7, 8, 9, 13, 14] rfl (fun c σ S' => ∃ k : Nat, k ≤ g.length ∧ c = g.length - k ∧ σ = [(0, vl (vl vnat) g), (4, vl (vl vnat) fr), (6, vl (vl V.bool) t), (7, .slice (lid S.nx 0) 0 ls.length), (8, vnat h), (9, .slice (lid S.nx 1) 0 g.length), (13, .ptr (lid S.nx 3) 0), (14, vnat k)] ∧ S' = St S [] [some (2, flatC encLoop ls), some (1, inn.map V.bool), some (1, pre.map vnat), some (2, [vnat h, .slice (lid S.nx 4) 0 (G.picked inn k).length]), some (1, (G.picked inn k).map vnat)]) g.length ?_ ?_
                · exact ⟨0, by omega, rfl, by simp [Fr.only], by simp [G.picked]⟩
                · rintro c σ T ⟨k, hk, rfl, rfl, rfl⟩
                  have hpl := G.picked_len inn k
                  by_cases hkt : k < g.length
                  · have hwk : IntKind.i64.wrap ((k : Int) + 1) = (k : Int) + 1 := wrap_i64 (by omega) (by omega)
                    have hki : k < inn.length := by omega
                    obtain ⟨x, hx⟩ : ∃ x, inn[k] = x := ⟨_, rfl⟩
                    have hxd : inn.getD k false = x := by simp [hki, hx]
                    have hps : G.picked inn (k + 1) = if x = true then G.picked inn k ++ [k] else G.picked inn k := by simp only [G.picked, hxd]
                    have hc8 : ((G.picked inn k).length + 1) * 8 ≤ 140737488355328 := by omega
                    have hc1 : (G.picked inn k).length + 1 ≤ 140737488355328 := by omega
                    generalize G.picked inn k = pk at *
                    cases x with
                    | true =>
                      repeat (first | refine vw_seqAt rfl ?_ | refine vw_scopeAt rfl ?_ | refine vw_labelAt rfl ?_ | refine vw_skipAt rfl ?_ | refine vw_exitAt _ rfl rfl ?_ | refine vw_retAt rfl ?_ | (refine vw_condT rfl rfl ?_ ?_; focus (simp [ev, Fr.look]; done)) | (refine vw_condF rfl rfl ?_ ?_; focus (simp [ev, Fr.look]; done)) | refine vw_blockAt _ rfl rfl ?_ | (apply vw_regionRun; (focus rfl); (focus ((conv => lhs; reduce); done)); (focus ((conv => lhs; simp [-List.map_set, set_vnat, set_vnat1, set_vint, set_bool, hkt, hki, hx, hc8, hc1]); done)); refine vseg_done ?_) | (apply vw_drawPlain; (focus rfl); (focus kernel_rfl); (focus ((conv => lhs; reduce); done)); (focus ((conv => lhs; reduce); done)); (focus (kernel_rfl)); (focus ((conv => lhs; simp [-List.map_set, set_vnat, set_vnat1, set_vint, set_bool, hkt, hki, hx, hc8, hc1]); done)); refine vseg_done ?_))
                      refine again_gc [0, 1, 2, 3, 6] (by conv => lhs; simp [Fr.only]) hwf (by decide) (by simp [-List.map_set, renL_loops, idsL_loops]) (by conv => lhs; simp [-List.map_set, renL_loops, idsL_loops]) (by conv => lhs; simp [-List.map_set, renL_loops, idsL_loops]) (by conv => lhs; simp [-List.map_set, renL_loops, idsL_loops]) ⟨?_, k + 1, hkt, rfl, by simp [hwk], by rw [hps]; simp⟩
                      omega
                    | false =>
                      repeat (first | refine vw_seqAt rfl ?_ | refine vw_scopeAt rfl ?_ | refine vw_labelAt rfl ?_ | refine vw_skipAt rfl ?_ | refine vw_exitAt _ rfl rfl ?_ | refine vw_retAt rfl ?_ | (refine vw_condT rfl rfl ?_ ?_; focus (simp [ev, Fr.look]; done)) | (refine vw_condF rfl rfl ?_ ?_; focus (simp [ev, Fr.look]; done)) | refine vw_blockAt _ rfl rfl ?_ | (apply vw_regionRun; (focus rfl); (focus ((conv => lhs; reduce); done)); (focus ((conv => lhs; simp [-List.map_set, set_vnat, set_vnat1, set_vint, set_bool, hkt, hki, hx, hc8, hc1]); done)); refine vseg_done ?_) | (apply vw_drawPlain; (focus rfl); (focus kernel_rfl); (focus ((conv => lhs; reduce); done)); (focus ((conv => lhs; reduce); done)); (focus (kernel_rfl)); (focus ((conv => lhs; simp [-List.map_set, set_vnat, set_vnat1, set_vint, set_bool, hkt, hki, hx, hc8, hc1]); done)); refine vseg_done ?_))
                      show Again _ _ _ _ _ _ _
                      exact again ⟨Nat.sub_lt_sub_left hkt (Nat.lt_succ_self k), k + 1, hkt, rfl, by simp [Fr.only, hwk], by rw [hps]; simp⟩
                  · have hke : k = g.length := by omega
                    subst hke
                    generalize G.picked inn g.length = pk at *
                    repeat refine vw_seqAt rfl ?_
                    refine vw_regionRun rfl (by conv => lhs; reduce) (by conv => lhs; simp [-List.map_set, set_vnat, set_vnat1, set_vint, set_bool, hkt]) ?_
                    refine vseg_done ?_
                    repeat refine vw_seqAt rfl ?_
                    refine vw_condF rfl rfl rfl ?_
                    repeat refine vw_seqAt rfl ?_
                    refine vw_exitAt 6 rfl rfl ?_
                    apply vw_reach
                    · exact Reach.frzCell (k := 3) (j := 4) (i := 1) (n := pk.length) (cells' := pk.map vnat) (by omega) (by simp) (by simp) rfl rfl rfl (all_closed1 vnat (fun _ => rfl) _) (by simp)
                    simp only [List.set_cons_succ, List.set_cons_zero]
                    have hfl2 : ls.length * 2 = (flatC encLoop ls).length := by rw [flatC_len encLoop_len]
                    have hc8 : (ls.length + 1) * 32 ≤ 140737488355328 := by omega
                    have hc1 : ls.length + 1 ≤ 140737488355328 := by omega
                    have hsnoc : flatC encLoop (ls ++ [(h, pk)]) = flatC encLoop ls ++ [vnat h, V.list (pk.map vnat)] := by rw [flatC_snoc, encLoop_cells]; rfl
                    repeat (first | refine vw_seqAt rfl ?_ | refine vw_scopeAt rfl ?_ | refine vw_labelAt rfl ?_ | refine vw_skipAt rfl ?_ | refine vw_exitAt _ rfl rfl ?_ | refine vw_retAt rfl ?_ | (refine vw_condT rfl rfl ?_ ?_; focus (simp [ev, Fr.look]; done)) | (refine vw_condF rfl rfl ?_ ?_; focus (simp [ev, Fr.look]; done)) | refine vw_blockAt _ rfl rfl ?_ | (apply vw_regionRun; (focus rfl); (focus ((conv => lhs; reduce); done)); (focus ((conv => lhs; simp [-List.map_set, set_vnat, set_vnat1, set_vint, set_bool, hfl2, hc8, hc1, rep0]); done)); refine vseg_done ?_) | (apply vw_drawPlain; (focus rfl); (focus kernel_rfl); (focus ((conv => lhs; reduce); done)); (focus ((conv => lhs; reduce); done)); (focus (kernel_rfl)); (focus ((conv => lhs; simp [-List.map_set, set_vnat, set_vnat1, set_vint, set_bool, hfl2, hc8, hc1, rep0]); done)); refine vseg_done ?_))
                    refine again_gc [6] (by conv => lhs; simp [Fr.only]) hwf (by decide) (by simp [-List.map_set, renL_loops, idsL_loops]) (by conv => lhs; simp [-List.map_set, renL_loops, idsL_loops]) (by conv => lhs; simp [-List.map_set, renL_loops, idsL_loops]) (by conv => lhs; simp [-List.map_set, renL_loops, idsL_loops]) ⟨?_, h + 1, hht, rfl, by rw [hst]; simp [hw], by rw [hst, hsnoc]; simp⟩
                    omega
              | cons n td =>
                have hn := hS.lt n (by simp)
                have hni : n < inn.length := by omega
                have hnf : n < fr.length := by omega
                have hfn : fr.getD n [] = fr[n] := by simp [hnf]
                have hrn := hfm _ (List.getElem_mem hnf)
                have htl : td.length + 1 ≤ 1073741824 := by
                  have : G.todoM (1048576) inn (td ++ [n]) = G.todoM (1048576) inn (n :: td) := by simp [G.todoM]
                  rw [← this] at hcm
                  exact few_len hcm
                have h0 : (0 : Int) < (td.length : Int) + 1 := by omega
                have h2 : (1 : Int) ≤ (td.length : Int) + 1 := by omega
                have hsub : ∀ t ∈ td, t ∈ n :: td := fun t ht => by simp [ht]
                have hre : ∀ t ∈ n :: td, t = n ∨ t ∈ td := fun t ht => by simpa using ht
                have hless : G.todoM (1048576) inn td < G.todoM (1048576) inn (n :: td) := by simp [G.todoM]
                have hpre : (pre.map vnat ++ (n :: td).map vnat) = ((pre ++ [n]).map vnat ++ td.map vnat) := by simp
                obtain ⟨x, hx⟩ : ∃ x, inn[n] = x := ⟨_, rfl⟩
                have hxd : inn.getD n false = x := by simp [hni, hx]
                cases x with
                | true =>
                  have hS' := hS.seen hxd hsub hre
                  repeat (first | refine vw_seqAt rfl ?_ | refine vw_scopeAt rfl ?_ | refine vw_labelAt rfl ?_ | refine vw_skipAt rfl ?_ | refine vw_exitAt _ rfl rfl ?_ | refine vw_retAt rfl ?_ | (refine vw_condT rfl rfl ?_ ?_; focus (simp [ev, Fr.look]; done)) | (refine vw_condF rfl rfl ?_ ?_; focus (simp [ev, Fr.look]; done)) | refine vw_blockAt _ rfl rfl ?_ | (apply vw_regionRun; (focus rfl); (focus ((conv => lhs; reduce); done)); (focus ((conv => lhs; simp [-List.map_set, set_vnat, set_vnat1, set_vint, set_bool, h0, h2, hn, hni, hx]); done)); refine vseg_done ?_) | (apply vw_drawPlain; (focus rfl); (focus kernel_rfl); (focus ((conv => lhs; reduce); done)); (focus ((conv => lhs; reduce); done)); (focus (kernel_rfl)); (focus ((conv => lhs; simp [-List.map_set, set_vnat, set_vnat1, set_vint, set_bool, h0, h2, hn, hni, hx]); done)); refine vseg_done ?_))
                  show Again _ _ _ _ _ _ _
                  exact again ⟨hless, inn, pre ++ [n], td, hS', rfl, Nat.le_trans (Nat.le_of_lt hless) hcm, by simp [Fr.only], by rw [← hpre]; simp⟩
                | false =>
                  have hS' := hS.take (todo' := td ++ fr[n]) (by simp) (by rw [hfn]; exact hfe _ (List.getElem_mem hnf)) hxd (fun t ht => by
                    rcases List.mem_append.1 ht with h | h
                    · exact .inl (by simp [h])
                    · exact .inr (by rw [hfn]; exact h)) (fun t ht => by
                    rcases hre t ht with h | h
                    · exact .inl h
                    · exact .inr (by simp [h])) (fun t ht => by rw [hfn] at ht; simp [ht])
                  have hmm := G.todoM_take (M := 1048576) (todo := n :: td) (todo' := td ++ fr[n]) hni hx hrn (by simp; omega)
                  have hc8 : (td.length + fr[n].length) * 8 ≤ 140737488355328 := by omega
                  have hc1 : td.length + fr[n].length ≤ 140737488355328 := by omega
                  have hap := opAppend_off (S := St S [] [some (2, flatC encLoop ls), some (1, (inn.set n true).map V.bool), some (1, pre.map vnat ++ V.int .i64 (n : Int) :: td.map vnat)]) (o := lid S.nx 2) (off := pre.length + 1) (len := td.length) (pre := pre.map vnat ++ [vnat n]) (cells := td.map vnat) (l := fr[n]) (by simp [St_get]) (by simp) (by simp) hc8 hc1
                  repeat (first | refine vw_seqAt rfl ?_ | refine vw_scopeAt rfl ?_ | refine vw_labelAt rfl ?_ | refine vw_skipAt rfl ?_ | refine vw_exitAt _ rfl rfl ?_ | refine vw_retAt rfl ?_ | (refine vw_condT rfl rfl ?_ ?_; focus (simp [ev, Fr.look]; done)) | (refine vw_condF rfl rfl ?_ ?_; focus (simp [ev, Fr.look]; done)) | refine vw_blockAt _ rfl rfl ?_ | (apply vw_regionRun; (focus rfl); (focus ((conv => lhs; reduce); done)); (focus ((conv => lhs; simp [-List.map_set, set_vnat, set_vnat1, set_vint, set_bool, h0, h2, hn, hni, hx]); done)); refine vseg_done ?_) | (apply vw_drawPlain; (focus rfl); (focus kernel_rfl); (focus ((conv => lhs; reduce); done)); (focus ((conv => lhs; reduce); done)); (focus (kernel_rfl)); (focus ((conv => lhs; simp [-List.map_set, set_vnat, set_vnat1, set_vint, set_bool, h0, h2, hn, hni, hx]); done)); refine vseg_done ?_))
                  repeat refine vw_seqAt rfl ?_
                  refine vw_regionRun rfl (by conv => lhs; reduce) (by conv => lhs; simp [-List.map_set, set_vnat, set_vnat1, set_vint, set_bool, hnf, hap]) ?_
                  refine vseg_done ?_
                  repeat (first | refine vw_seqAt rfl ?_ | refine vw_scopeAt rfl ?_ | refine vw_labelAt rfl ?_ | refine vw_skipAt rfl ?_ | refine vw_exitAt _ rfl rfl ?_ | refine vw_retAt rfl ?_ | (refine vw_condT rfl rfl ?_ ?_; focus (simp [ev, Fr.look]; done)) | (refine vw_condF rfl rfl ?_ ?_; focus (simp [ev, Fr.look]; done)) | refine vw_blockAt _ rfl rfl ?_ | (apply vw_regionRun; (focus rfl); (focus ((conv => lhs; reduce); done)); (focus ((conv => lhs; simp [-List.map_set, set_vnat, set_vnat1, set_vint, set_bool]); done)); refine vseg_done ?_) | (apply vw_drawPlain; (focus rfl); (focus kernel_rfl); (focus ((conv => lhs; reduce); done)); (focus ((conv => lhs; reduce); done)); (focus (kernel_rfl)); (focus ((conv => lhs; simp [-List.map_set, set_vnat, set_vnat1, set_vint, set_bool]); done)); refine vseg_done ?_))
                  refine again_gc [0, 1, 3] (by conv => lhs; simp [Fr.only]) hwf (by decide) (by simp [-List.map_set, renL_loops, idsL_loops]) (by conv => lhs; simp [-List.map_set, renL_loops, idsL_loops]) (by conv => lhs; simp [-List.map_set, renL_loops, idsL_loops]) (by conv => lhs; simp [-List.map_set, renL_loops, idsL_loops]) ⟨?_, _, [], _, hS', rfl, Nat.le_trans (Nat.le_of_lt hmm) hcm, by simp, by simp⟩
                  exact hmm
    · have hhe : h = g.length := by omega
      subst hhe
      repeat (first | refine vw_seqAt rfl ?_ | refine vw_scopeAt rfl ?_ | refine vw_labelAt rfl ?_ | refine vw_skipAt rfl ?_ | refine vw_exitAt _ rfl rfl ?_ | refine vw_retAt rfl ?_ | (refine vw_condT rfl rfl ?_ ?_; focus (simp [ev, Fr.look]; done)) | (refine vw_condF rfl rfl ?_ ?_; focus (simp [ev, Fr.look]; done)) | refine vw_blockAt _ rfl rfl ?_ | (apply vw_regionRun; (focus rfl); (focus ((conv => lhs; reduce); done)); (focus ((conv => lhs; simp [-List.map_set, set_vnat, set_vnat1, set_vint, set_bool, hht]); done)); refine vseg_done ?_) | (apply vw_drawPlain; (focus rfl); (focus kernel_rfl); (focus ((conv => lhs; reduce); done)); (focus ((conv => lhs; reduce); done)); (focus (kernel_rfl)); (focus ((conv => lhs; simp [-List.map_set, set_vnat, set_vnat1, set_vint, set_bool, hht]); done)); refine vseg_done ?_))
      exact done_via hwf ((Ghost.tuple [] [vint 0] (frzSt (k := 0) encLoop_len encLoop_closed _ (by simp) rfl)).toB _) rfl
end Go.Vw
