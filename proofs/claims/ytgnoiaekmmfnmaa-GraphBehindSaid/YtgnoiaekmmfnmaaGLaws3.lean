import Derived.Test.YtgnoiaekmmfnmaaVSimp
import Derived.Test.YtgnoiaekmmfnmaaGLaws2
import Derived.Test.YtgnoiaekmmfnmaaGNearTh2
set_option linter.unusedVariables false
set_option linter.unusedSimpArgs false
namespace Go.Vw
open Go.Proofs Go.RowKit
set_option maxRecDepth 10000
set_option maxHeartbeats 8000000

theorem wrapS {n : Int} (h1 : 0 ≤ n) (h2 : n ≤ 4000000) : IntKind.i64.wrap n = n := wrap_i64 (by omega) (by omega)

theorem BehindErr_v (g : List (List Int)) (h : Fits g) (hr : G.right g = false) : VPure Try.prog 6 [vl (vl vint) g] (.bool true) := by
  intro S
  have e : G.err g = 1 := by simp [G.err, hr]
  refine vcalls_start (c := bodyOf Try.f6) Try.func6 rfl rfl (by simp [Try.ntmps6]) ?_
  rw [Try.ntmps6]
  intro hwf
  repeat (first | refine vw_seqAt rfl ?_ | refine vw_scopeAt rfl ?_ | refine vw_labelAt rfl ?_ | refine vw_skipAt rfl ?_ | refine vw_exitAt _ rfl rfl ?_ | refine vw_retAt rfl ?_ | (refine vw_condT rfl rfl ?_ ?_; focus (simp [ev, Fr.look]; done)) | (refine vw_condF rfl rfl ?_ ?_; focus (simp [ev, Fr.look]; done)) | refine vw_blockAt _ rfl rfl ?_ | (apply vw_regionRun; (focus rfl); (focus ((conv => lhs; reduce); done)); (focus ((conv => lhs; simp [-List.map_set, set_vnat, set_vnat1, set_vint, set_bool]); done)); refine vseg_done ?_) | (apply vw_drawPlain; (focus rfl); (focus kernel_rfl); (focus ((conv => lhs; reduce); done)); (focus ((conv => lhs; reduce); done)); (focus (kernel_rfl)); (focus ((conv => lhs; simp [-List.map_set, set_vnat, set_vnat1, set_vint, set_bool]); done)); refine vseg_done ?_))
  repeat refine vw_seqAt rfl ?_
  refine vw_regionRun rfl (by conv => lhs; reduce) (by conv => lhs; simp [-List.map_set, set_vnat, set_vnat1, set_vint, set_bool]) ?_
  refine vcall_use rfl (OrderAll_v g h) ?_
  refine vseg_more (by conv => lhs; simp [-List.map_set, set_vnat, set_vnat1, set_vint, set_bool]) ?_
  refine vseg_done ?_
  repeat (first | refine vw_seqAt rfl ?_ | refine vw_scopeAt rfl ?_ | refine vw_labelAt rfl ?_ | refine vw_skipAt rfl ?_ | refine vw_exitAt _ rfl rfl ?_ | refine vw_retAt rfl ?_ | (refine vw_condT rfl rfl ?_ ?_; focus (simp [ev, Fr.look]; done)) | (refine vw_condF rfl rfl ?_ ?_; focus (simp [ev, Fr.look]; done)) | refine vw_blockAt _ rfl rfl ?_ | (apply vw_regionRun; (focus rfl); (focus ((conv => lhs; reduce); done)); (focus ((conv => lhs; simp [-List.map_set, set_vnat, set_vnat1, set_vint, set_bool]); done)); refine vseg_done ?_) | (apply vw_drawPlain; (focus rfl); (focus kernel_rfl); (focus ((conv => lhs; reduce); done)); (focus ((conv => lhs; reduce); done)); (focus (kernel_rfl)); (focus ((conv => lhs; simp [-List.map_set, set_vnat, set_vnat1, set_vint, set_bool]); done)); refine vseg_done ?_))
  repeat refine vw_seqAt rfl ?_
  refine vw_regionRun rfl (by conv => lhs; reduce) (by conv => lhs; simp [-List.map_set, set_vnat, set_vnat1, set_vint, set_bool]) ?_
  refine vcall_use rfl (NearestAll_v g h) ?_
  refine vseg_more (by conv => lhs; simp [-List.map_set, set_vnat, set_vnat1, set_vint, set_bool]) ?_
  refine vseg_done ?_
  repeat (first | refine vw_seqAt rfl ?_ | refine vw_scopeAt rfl ?_ | refine vw_labelAt rfl ?_ | refine vw_skipAt rfl ?_ | refine vw_exitAt _ rfl rfl ?_ | refine vw_retAt rfl ?_ | (refine vw_condT rfl rfl ?_ ?_; focus (simp [ev, Fr.look]; done)) | (refine vw_condF rfl rfl ?_ ?_; focus (simp [ev, Fr.look]; done)) | refine vw_blockAt _ rfl rfl ?_ | (apply vw_regionRun; (focus rfl); (focus ((conv => lhs; reduce); done)); (focus ((conv => lhs; simp [-List.map_set, set_vnat, set_vnat1, set_vint, set_bool, e]); done)); refine vseg_done ?_) | (apply vw_drawPlain; (focus rfl); (focus kernel_rfl); (focus ((conv => lhs; reduce); done)); (focus ((conv => lhs; reduce); done)); (focus (kernel_rfl)); (focus ((conv => lhs; simp [-List.map_set, set_vnat, set_vnat1, set_vint, set_bool, e]); done)); refine vseg_done ?_))
  repeat refine vw_seqAt rfl ?_
  refine vw_regionRun rfl (by conv => lhs; reduce) (by conv => lhs; simp [-List.map_set, set_vnat, set_vnat1, set_vint, set_bool, e]) ?_
  refine vcall_use rfl (Alive_v) ?_
  refine vseg_more (by conv => lhs; simp [-List.map_set, set_vnat, set_vnat1, set_vint, set_bool]) ?_
  refine vseg_done ?_
  repeat (first | refine vw_seqAt rfl ?_ | refine vw_scopeAt rfl ?_ | refine vw_labelAt rfl ?_ | refine vw_skipAt rfl ?_ | refine vw_exitAt _ rfl rfl ?_ | refine vw_retAt rfl ?_ | (refine vw_condT rfl rfl ?_ ?_; focus (simp [ev, Fr.look]; done)) | (refine vw_condF rfl rfl ?_ ?_; focus (simp [ev, Fr.look]; done)) | refine vw_blockAt _ rfl rfl ?_ | (apply vw_regionRun; (focus rfl); (focus ((conv => lhs; reduce); done)); (focus ((conv => lhs; simp [-List.map_set, set_vnat, set_vnat1, set_vint, set_bool]); done)); refine vseg_done ?_) | (apply vw_drawPlain; (focus rfl); (focus kernel_rfl); (focus ((conv => lhs; reduce); done)); (focus ((conv => lhs; reduce); done)); (focus (kernel_rfl)); (focus ((conv => lhs; simp [-List.map_set, set_vnat, set_vnat1, set_vint, set_bool]); done)); refine vseg_done ?_))
  exact done_pure hwf rfl rfl

theorem Behind_v (g : List (List Int)) (h : Fits g) : VPure Try.prog 6 [vl (vl vint) g] (.bool true) := by
  cases hr : G.right g with
  | false => exact BehindErr_v g h hr
  | true =>
  intro S
  have e : G.err g = 0 := by simp [G.err, hr]
  have hg := G.right_ok hr
  have ho := G.order_ok hg
  have hN := G.rNear_ok hg
  have e1 : G.ordI g = G.order (G.nats g) := by simp [G.ordI, hr]
  have e2 : G.nearI g = G.rNear (G.nats g) := by simp [G.nearI, hr]
  have hgl : (G.nats g).length = g.length := G.nats_length g
  have hm := hg.max
  have c1 := OrderAll_v g h
  have c2 := NearestAll_v g h
  rw [e1] at c1
  rw [e2] at c2
  have hin := fun x (hx : x ∈ G.order (G.nats g)) => G.at_rk hg hx
  have hout := fun x (hx : x ∉ G.order (G.nats g)) => G.at_none hg hx
  have hrkl := fun x (hx : x ∈ G.order (G.nats g)) => G.rk_lt ho hx
  have hseen := fun k x => @G.atTo_out (G.nats g).length (G.order (G.nats g)) k x
  have hatl := fun k => G.atTo_len (G.nats g).length (G.order (G.nats g)) k
  have hrkd : ∀ x, x ∈ G.order (G.nats g) → x ≠ 0 → ∃ p : Nat, G.nd (G.rNear (G.nats g)) x = p ∧ p ∈ G.order (G.nats g) ∧ G.rk (G.nats g) (G.order (G.nats g)) p < G.rk (G.nats g) (G.order (G.nats g)) x := by
    intro x hx hx0
    obtain ⟨p, q1, q2, q3, q4, _⟩ := hN.near x hx hx0
    exact ⟨p, q1, q2, q4.rk ho q2 hx q3⟩
  have hnl := hN.len
  have hz := hN.zero
  have hout2 := hN.out
  generalize hl : G.order (G.nats g) = l at *
  generalize hnr : G.rNear (G.nats g) = near at *
  have hll : l.length ≤ 256 := by
    obtain ⟨t, k1, k2, k3⟩ := G.order_ends hg
    rw [← hl]; simp [G.order, k1]; omega
  obtain ⟨l', hl'⟩ := ho.head
  have hl0 : 0 < l.length := by rw [hl']; simp
  have hl00 : l[0] = 0 := by simp [hl']
  have hlt := ho.lt
  have hnd := ho.nd
  rw [hgl] at *
  have hb8 : g.length * 8 ≤ 140737488355328 := by omega
  have hb0 : g.length ≤ 140737488355328 := by omega
  have hl0' : ¬ l.length = 0 := by omega
  refine vcalls_start (c := bodyOf Try.f6) Try.func6 rfl rfl (by simp [Try.ntmps6]) ?_
  rw [Try.ntmps6]
  intro hwf
  repeat (first | refine vw_seqAt rfl ?_ | refine vw_scopeAt rfl ?_ | refine vw_labelAt rfl ?_ | refine vw_skipAt rfl ?_ | refine vw_exitAt _ rfl rfl ?_ | refine vw_retAt rfl ?_ | (refine vw_condT rfl rfl ?_ ?_; focus (simp [ev, Fr.look]; done)) | (refine vw_condF rfl rfl ?_ ?_; focus (simp [ev, Fr.look]; done)) | refine vw_blockAt _ rfl rfl ?_ | (apply vw_regionRun; (focus rfl); (focus ((conv => lhs; reduce); done)); (focus ((conv => lhs; simp [-List.map_set, set_vnat, set_vnat1, set_vint, set_bool]); done)); refine vseg_done ?_) | (apply vw_drawPlain; (focus rfl); (focus kernel_rfl); (focus ((conv => lhs; reduce); done)); (focus ((conv => lhs; reduce); done)); (focus (kernel_rfl)); (focus ((conv => lhs; simp [-List.map_set, set_vnat, set_vnat1, set_vint, set_bool]); done)); refine vseg_done ?_))
  repeat refine vw_seqAt rfl ?_
  refine vw_regionRun rfl (by conv => lhs; reduce) (by conv => lhs; simp [-List.map_set, set_vnat, set_vnat1, set_vint, set_bool]) ?_
  refine vcall_use rfl (c1) ?_
  refine vseg_more (by conv => lhs; simp [-List.map_set, set_vnat, set_vnat1, set_vint, set_bool]) ?_
  refine vseg_done ?_
  repeat (first | refine vw_seqAt rfl ?_ | refine vw_scopeAt rfl ?_ | refine vw_labelAt rfl ?_ | refine vw_skipAt rfl ?_ | refine vw_exitAt _ rfl rfl ?_ | refine vw_retAt rfl ?_ | (refine vw_condT rfl rfl ?_ ?_; focus (simp [ev, Fr.look]; done)) | (refine vw_condF rfl rfl ?_ ?_; focus (simp [ev, Fr.look]; done)) | refine vw_blockAt _ rfl rfl ?_ | (apply vw_regionRun; (focus rfl); (focus ((conv => lhs; reduce); done)); (focus ((conv => lhs; simp [-List.map_set, set_vnat, set_vnat1, set_vint, set_bool]); done)); refine vseg_done ?_) | (apply vw_drawPlain; (focus rfl); (focus kernel_rfl); (focus ((conv => lhs; reduce); done)); (focus ((conv => lhs; reduce); done)); (focus (kernel_rfl)); (focus ((conv => lhs; simp [-List.map_set, set_vnat, set_vnat1, set_vint, set_bool]); done)); refine vseg_done ?_))
  repeat refine vw_seqAt rfl ?_
  refine vw_regionRun rfl (by conv => lhs; reduce) (by conv => lhs; simp [-List.map_set, set_vnat, set_vnat1, set_vint, set_bool]) ?_
  refine vcall_use rfl (c2) ?_
  refine vseg_more (by conv => lhs; simp [-List.map_set, set_vnat, set_vnat1, set_vint, set_bool]) ?_
  refine vseg_done ?_
  repeat (first | refine vw_seqAt rfl ?_ | refine vw_scopeAt rfl ?_ | refine vw_labelAt rfl ?_ | refine vw_skipAt rfl ?_ | refine vw_exitAt _ rfl rfl ?_ | refine vw_retAt rfl ?_ | (refine vw_condT rfl rfl ?_ ?_; focus (simp [ev, Fr.look]; done)) | (refine vw_condF rfl rfl ?_ ?_; focus (simp [ev, Fr.look]; done)) | refine vw_blockAt _ rfl rfl ?_ | (apply vw_regionRun; (focus rfl); (focus ((conv => lhs; reduce); done)); (focus ((conv => lhs; simp [-List.map_set, set_vnat, set_vnat1, set_vint, set_bool, e, hl0, hl00, hl0', hnl, hb8, hb0]); done)); refine vseg_done ?_) | (apply vw_drawPlain; (focus rfl); (focus kernel_rfl); (focus ((conv => lhs; reduce); done)); (focus ((conv => lhs; reduce); done)); (focus (kernel_rfl)); (focus ((conv => lhs; simp [-List.map_set, set_vnat, set_vnat1, set_vint, set_bool, e, hl0, hl00, hl0', hnl, hb8, hb0]); done)); refine vseg_done ?_))
  repeat refine vw_seqAt rfl ?_
  refine vw_loopAt [0, 5, 7, 53, 54, 55] rfl (fun c σ S' => ∃ k : Nat, k ≤ l.length ∧ c = l.length - k ∧ σ = [(0, vl (vl vint) g), (5, vl vint near), (7, .slice (lid S.nx 0) 0 g.length), (53, vl vnat l), (54, vnat l.length), (55, vnat k)] ∧ S' = St S [] [some (1, (G.atTo g.length l k).map vnat)]) l.length ?_ ?_
  · exact ⟨0, by omega, rfl, by simp [Fr.only], by simp [G.atTo]⟩
  · rintro c σ T ⟨k, hk, rfl, rfl, rfl⟩
    by_cases hkt : k < l.length
    · have hw : IntKind.i64.wrap ((k : Int) + 1) = (k : Int) + 1 := wrap_i64 (by omega) (by omega)
      have hx := hlt _ (List.getElem_mem hkt)
      have hal := hatl k
      have ha0 : (G.atTo g.length l k).getD l[k] 0 = 0 := by
        refine hseen k l[k] hk (fun i hi e => ?_)
        have hil : i < l.length := by omega
        have e' : l.getD i 0 = l[i] := by simp [hil]
        rw [e'] at e
        have := (List.getElem_inj hnd).1 e
        omega
      have hst : G.atTo g.length l (k + 1) = (G.atTo g.length l k).set l[k] (k + 1) := by simp [G.atTo, hkt]
      have hzk : l[k] = 0 → k = 0 := by
        intro e
        rw [← hl00] at e
        exact (List.getElem_inj hnd).1 e
      generalize hxe : l[k] = x at hx ha0 hst hzk
      have hal' : x < (G.atTo g.length l k).length := by omega
      have ha1 : (G.atTo g.length l k)[x] = 0 := by simpa [hal'] using ha0
      have hx1 : ¬ (x : Int) < 0 := by omega
      have hx2 : ¬ (g.length : Int) ≤ (x : Int) := by omega
      by_cases hx0 : x = 0
      · have hk0 := hzk hx0
        subst hx0
        have hk1 : ¬ (0 : Int) < (k : Int) := by omega
        have hk2 : ¬ 0 < k := by omega
        have hg1 : ¬ (g.length : Int) ≤ 0 := by omega
        have hg2 : ¬ g.length = 0 := by omega
        have hg3 : ¬ g = [] := by intro e; rw [e] at hx; simp at hx
        repeat (first | refine vw_seqAt rfl ?_ | refine vw_scopeAt rfl ?_ | refine vw_labelAt rfl ?_ | refine vw_skipAt rfl ?_ | refine vw_exitAt _ rfl rfl ?_ | refine vw_retAt rfl ?_ | (refine vw_condT rfl rfl ?_ ?_; focus (simp [ev, Fr.look]; done)) | (refine vw_condF rfl rfl ?_ ?_; focus (simp [ev, Fr.look]; done)) | refine vw_blockAt _ rfl rfl ?_ | (apply vw_regionRun; (focus rfl); (focus ((conv => lhs; reduce); done)); (focus ((conv => lhs; simp [-List.map_set, set_vnat, set_vnat1, set_vint, set_bool, hkt, hx, hxe, hal', ha1, hk1, hk2, hg1, hg2, hg3]); done)); refine vseg_done ?_) | (apply vw_drawPlain; (focus rfl); (focus kernel_rfl); (focus ((conv => lhs; reduce); done)); (focus ((conv => lhs; reduce); done)); (focus (kernel_rfl)); (focus ((conv => lhs; simp [-List.map_set, set_vnat, set_vnat1, set_vint, set_bool, hkt, hx, hxe, hal', ha1, hk1, hk2, hg1, hg2, hg3]); done)); refine vseg_done ?_))
        show Again _ _ _ _ _ _ _
        exact again ⟨Nat.sub_lt_sub_left hkt (Nat.lt_succ_self k), k + 1, hkt, rfl, by simp [Fr.only, hw], by rw [hst]; simp [List.map_set, hw]⟩
      · have hne' : ¬ (x : Int) = 0 := by omega
        repeat (first | refine vw_seqAt rfl ?_ | refine vw_scopeAt rfl ?_ | refine vw_labelAt rfl ?_ | refine vw_skipAt rfl ?_ | refine vw_exitAt _ rfl rfl ?_ | refine vw_retAt rfl ?_ | (refine vw_condT rfl rfl ?_ ?_; focus (simp [ev, Fr.look]; done)) | (refine vw_condF rfl rfl ?_ ?_; focus (simp [ev, Fr.look]; done)) | refine vw_blockAt _ rfl rfl ?_ | (apply vw_regionRun; (focus rfl); (focus ((conv => lhs; reduce); done)); (focus ((conv => lhs; simp [-List.map_set, set_vnat, set_vnat1, set_vint, set_bool, hkt, hx, hxe, hal', ha1, hx1, hx2, hx0, hne']); done)); refine vseg_done ?_) | (apply vw_drawPlain; (focus rfl); (focus kernel_rfl); (focus ((conv => lhs; reduce); done)); (focus ((conv => lhs; reduce); done)); (focus (kernel_rfl)); (focus ((conv => lhs; simp [-List.map_set, set_vnat, set_vnat1, set_vint, set_bool, hkt, hx, hxe, hal', ha1, hx1, hx2, hx0, hne']); done)); refine vseg_done ?_))
        show Again _ _ _ _ _ _ _
        exact again ⟨Nat.sub_lt_sub_left hkt (Nat.lt_succ_self k), k + 1, hkt, rfl, by simp [Fr.only, hw], by rw [hst]; simp [List.map_set, hw]⟩
    · have hkl : k = l.length := by omega
      subst hkl
      have hal := hatl l.length
      generalize G.atTo g.length l l.length = at' at *
      repeat (first | refine vw_seqAt rfl ?_ | refine vw_scopeAt rfl ?_ | refine vw_labelAt rfl ?_ | refine vw_skipAt rfl ?_ | refine vw_exitAt _ rfl rfl ?_ | refine vw_retAt rfl ?_ | (refine vw_condT rfl rfl ?_ ?_; focus (simp [ev, Fr.look]; done)) | (refine vw_condF rfl rfl ?_ ?_; focus (simp [ev, Fr.look]; done)) | refine vw_blockAt _ rfl rfl ?_ | (apply vw_regionRun; (focus rfl); (focus ((conv => lhs; reduce); done)); (focus ((conv => lhs; simp [-List.map_set, set_vnat, set_vnat1, set_vint, set_bool, hkt, hnl]); done)); refine vseg_done ?_) | (apply vw_drawPlain; (focus rfl); (focus kernel_rfl); (focus ((conv => lhs; reduce); done)); (focus ((conv => lhs; reduce); done)); (focus (kernel_rfl)); (focus ((conv => lhs; simp [-List.map_set, set_vnat, set_vnat1, set_vint, set_bool, hkt, hnl]); done)); refine vseg_done ?_))
      repeat refine vw_seqAt rfl ?_
      refine vw_loopAt [0, 5, 7, 89, 90, 91] rfl (fun c σ S' => ∃ k : Nat, k ≤ g.length ∧ c = g.length - k ∧ σ = [(0, vl (vl vint) g), (5, vl vint near), (7, .slice (lid S.nx 0) 0 g.length), (89, vl vint near), (90, vnat g.length), (91, vnat k)] ∧ S' = St S [] [some (1, at'.map vnat)]) g.length ?_ ?_
      · exact ⟨0, by omega, rfl, by simp [Fr.only, hnl], rfl⟩
      · rintro c σ T ⟨k, hk, rfl, rfl, rfl⟩
        by_cases hkt : k < g.length
        · have hw : IntKind.i64.wrap ((k : Int) + 1) = (k : Int) + 1 := wrap_i64 (by omega) (by omega)
          have hkn : k < near.length := by omega
          have hka : k < at'.length := by omega
          have hndk : near[k] = G.nd near k := by simp [G.nd, hkn]
          have hatk : at'.getD k 0 = at'[k] := by simp [hka]
          have fin : ∀ σ : Fr, σ.only [0, 5, 7, 89, 90, 91] = [(0, vl (vl vint) g), (5, vl vint near), (7, .slice (lid S.nx 0) 0 g.length), (89, vl vint near), (90, vnat g.length), (91, vnat (k + 1))] → ∃ k' : Nat, k' ≤ g.length ∧ g.length - (k + 1) = g.length - k' ∧ σ.only [0, 5, 7, 89, 90, 91] = [(0, vl (vl vint) g), (5, vl vint near), (7, .slice (lid S.nx 0) 0 g.length), (89, vl vint near), (90, vnat g.length), (91, vnat k')] ∧ St S [] [some (1, at'.map vnat)] = St S [] [some (1, at'.map vnat)] := fun σ hσ => ⟨k + 1, hkt, rfl, hσ, rfl⟩
          by_cases hkl : k ∈ l
          · by_cases hk0 : k = 0
            · subst hk0
              have hdk : near[0] = -1 := by rw [hndk]; exact hz
              have hg1 : ¬ (g.length : Int) ≤ -1 := by omega
              repeat (first | refine vw_seqAt rfl ?_ | refine vw_scopeAt rfl ?_ | refine vw_labelAt rfl ?_ | refine vw_skipAt rfl ?_ | refine vw_exitAt _ rfl rfl ?_ | refine vw_retAt rfl ?_ | (refine vw_condT rfl rfl ?_ ?_; focus (simp [ev, Fr.look]; done)) | (refine vw_condF rfl rfl ?_ ?_; focus (simp [ev, Fr.look]; done)) | refine vw_blockAt _ rfl rfl ?_ | (apply vw_regionRun; (focus rfl); (focus ((conv => lhs; reduce); done)); (focus ((conv => lhs; simp [-List.map_set, set_vnat, set_vnat1, set_vint, set_bool, hkt, hkn, hka, hdk, hg1]); done)); refine vseg_done ?_) | (apply vw_drawPlain; (focus rfl); (focus kernel_rfl); (focus ((conv => lhs; reduce); done)); (focus ((conv => lhs; reduce); done)); (focus (kernel_rfl)); (focus ((conv => lhs; simp [-List.map_set, set_vnat, set_vnat1, set_vint, set_bool, hkt, hkn, hka, hdk, hg1]); done)); refine vseg_done ?_))
              show Again _ _ _ _ _ _ _
              exact again ⟨Nat.sub_lt_sub_left hkt (Nat.lt_succ_self 0), fin _ (by simp [Fr.only]; exact hw)⟩
            · obtain ⟨p, q1, q2, q3⟩ := hrkd k hkl hk0
              have hdk : near[k] = (p : Int) := by rw [hndk]; exact q1
              have hpl := hlt p q2
              have hpa : p < at'.length := by omega
              have hap : at'[p] = G.rk (G.nats g) l p + 1 := by
                have := hin p q2
                simpa [hpa] using this
              have hak : at'[k] = G.rk (G.nats g) l k + 1 := by
                have := hin k hkl
                simpa [hka] using this
              generalize G.rk (G.nats g) l p = rp at *
              generalize G.rk (G.nats g) l k = rk at *
              have h1 : ¬ (g.length : Int) ≤ (p : Int) := by omega
              have h2 : ¬ (p : Int) < 0 := by omega
              have h3 : ¬ ((rk : Int) + 1 = 0) := by omega
              have h4 : ¬ ((rp : Int) + 1 = 0) := by omega
              have h5 : ¬ ((rk : Int) + 1 ≤ (rp : Int) + 1) := by omega
              have h6 : ¬ ((rk : Int) ≤ (rp : Int)) := by omega
              have h7 : ¬ (rk ≤ rp) := by omega
              repeat (first | refine vw_seqAt rfl ?_ | refine vw_scopeAt rfl ?_ | refine vw_labelAt rfl ?_ | refine vw_skipAt rfl ?_ | refine vw_exitAt _ rfl rfl ?_ | refine vw_retAt rfl ?_ | (refine vw_condT rfl rfl ?_ ?_; focus (simp [ev, Fr.look]; done)) | (refine vw_condF rfl rfl ?_ ?_; focus (simp [ev, Fr.look]; done)) | refine vw_blockAt _ rfl rfl ?_ | (apply vw_regionRun; (focus rfl); (focus ((conv => lhs; reduce); done)); (focus ((conv => lhs; simp [-List.map_set, set_vnat, set_vnat1, set_vint, set_bool, hkt, hkn, hka, hdk, hpl, hpa, hap, hak, h1, h2, h3, h4, h5, h6, h7]); done)); refine vseg_done ?_) | (apply vw_drawPlain; (focus rfl); (focus kernel_rfl); (focus ((conv => lhs; reduce); done)); (focus ((conv => lhs; reduce); done)); (focus (kernel_rfl)); (focus ((conv => lhs; simp [-List.map_set, set_vnat, set_vnat1, set_vint, set_bool, hkt, hkn, hka, hdk, hpl, hpa, hap, hak, h1, h2, h3, h4, h5, h6, h7]); done)); refine vseg_done ?_))
              show Again _ _ _ _ _ _ _
              exact again ⟨Nat.sub_lt_sub_left hkt (Nat.lt_succ_self k), fin _ (by simp [Fr.only, hw])⟩
          · have hk0 : k ≠ 0 := by
              intro e
              subst e
              exact hkl (by rw [hl']; simp)
            have hk0' : ¬ (k : Int) = 0 := by omega
            have hdk : near[k] = -1 := by rw [hndk]; exact hout2 k hkt hkl
            have hak : at'[k] = 0 := by
              have := hout k hkl
              simpa [hka] using this
            have hg1 : ¬ (g.length : Int) ≤ -1 := by omega
            repeat (first | refine vw_seqAt rfl ?_ | refine vw_scopeAt rfl ?_ | refine vw_labelAt rfl ?_ | refine vw_skipAt rfl ?_ | refine vw_exitAt _ rfl rfl ?_ | refine vw_retAt rfl ?_ | (refine vw_condT rfl rfl ?_ ?_; focus (simp [ev, Fr.look]; done)) | (refine vw_condF rfl rfl ?_ ?_; focus (simp [ev, Fr.look]; done)) | refine vw_blockAt _ rfl rfl ?_ | (apply vw_regionRun; (focus rfl); (focus ((conv => lhs; reduce); done)); (focus ((conv => lhs; simp [-List.map_set, set_vnat, set_vnat1, set_vint, set_bool, hkt, hkn, hka, hdk, hak, hg1, hk0, hk0']); done)); refine vseg_done ?_) | (apply vw_drawPlain; (focus rfl); (focus kernel_rfl); (focus ((conv => lhs; reduce); done)); (focus ((conv => lhs; reduce); done)); (focus (kernel_rfl)); (focus ((conv => lhs; simp [-List.map_set, set_vnat, set_vnat1, set_vint, set_bool, hkt, hkn, hka, hdk, hak, hg1, hk0, hk0']); done)); refine vseg_done ?_))
            show Again _ _ _ _ _ _ _
            exact again ⟨Nat.sub_lt_sub_left hkt (Nat.lt_succ_self k), fin _ (by simp [Fr.only, hw])⟩
        · repeat (first | refine vw_seqAt rfl ?_ | refine vw_scopeAt rfl ?_ | refine vw_labelAt rfl ?_ | refine vw_skipAt rfl ?_ | refine vw_exitAt _ rfl rfl ?_ | refine vw_retAt rfl ?_ | (refine vw_condT rfl rfl ?_ ?_; focus (simp [ev, Fr.look]; done)) | (refine vw_condF rfl rfl ?_ ?_; focus (simp [ev, Fr.look]; done)) | refine vw_blockAt _ rfl rfl ?_ | (apply vw_regionRun; (focus rfl); (focus ((conv => lhs; reduce); done)); (focus ((conv => lhs; simp [-List.map_set, set_vnat, set_vnat1, set_vint, set_bool, hkt]); done)); refine vseg_done ?_) | (apply vw_drawPlain; (focus rfl); (focus kernel_rfl); (focus ((conv => lhs; reduce); done)); (focus ((conv => lhs; reduce); done)); (focus (kernel_rfl)); (focus ((conv => lhs; simp [-List.map_set, set_vnat, set_vnat1, set_vint, set_bool, hkt]); done)); refine vseg_done ?_))
          repeat refine vw_seqAt rfl ?_
          refine vw_regionRun rfl (by conv => lhs; reduce) (by conv => lhs; simp [-List.map_set, set_vnat, set_vnat1, set_vint, set_bool]) ?_
          refine vcall_use rfl (Alive_v) ?_
          refine vseg_more (by conv => lhs; simp [-List.map_set, set_vnat, set_vnat1, set_vint, set_bool]) ?_
          refine vseg_done ?_
          repeat (first | refine vw_seqAt rfl ?_ | refine vw_scopeAt rfl ?_ | refine vw_labelAt rfl ?_ | refine vw_skipAt rfl ?_ | refine vw_exitAt _ rfl rfl ?_ | refine vw_retAt rfl ?_ | (refine vw_condT rfl rfl ?_ ?_; focus (simp [ev, Fr.look]; done)) | (refine vw_condF rfl rfl ?_ ?_; focus (simp [ev, Fr.look]; done)) | refine vw_blockAt _ rfl rfl ?_ | (apply vw_regionRun; (focus rfl); (focus ((conv => lhs; reduce); done)); (focus ((conv => lhs; simp [-List.map_set, set_vnat, set_vnat1, set_vint, set_bool]); done)); refine vseg_done ?_) | (apply vw_drawPlain; (focus rfl); (focus kernel_rfl); (focus ((conv => lhs; reduce); done)); (focus ((conv => lhs; reduce); done)); (focus (kernel_rfl)); (focus ((conv => lhs; simp [-List.map_set, set_vnat, set_vnat1, set_vint, set_bool]); done)); refine vseg_done ?_))
          exact done_pure hwf rfl rfl
end Go.Vw
