import Derived.Test.YtgnoiaekmmfnmaaVSimp
import Derived.Test.YtgnoiaekmmfnmaaGTable
set_option linter.unusedVariables false
set_option linter.unusedSimpArgs false
namespace Go.Vw
open Go.Proofs Go.RowKit
set_option maxRecDepth 10000
set_option maxHeartbeats 4000000

theorem RNearestErr_v (g : List (List Int)) (hg : g.length < 2^63) (hl : ∀ l ∈ g, l.length < 2^63) (hr : G.right g = false) : VPure Try.prog 19 [vl (vl vint) g] (.tuple [vl vint [], vint 1]) := by
  intro S
  refine vcalls_start (c := bodyOf Try.f19) Try.func19 rfl rfl (by simp [Try.ntmps19]) ?_
  rw [Try.ntmps19]
  intro hwf
  repeat (first | refine vw_seqAt rfl ?_ | refine vw_scopeAt rfl ?_ | refine vw_labelAt rfl ?_ | refine vw_skipAt rfl ?_ | refine vw_exitAt _ rfl rfl ?_ | refine vw_retAt rfl ?_ | (refine vw_condT rfl rfl ?_ ?_; focus (simp [ev, Fr.look]; done)) | (refine vw_condF rfl rfl ?_ ?_; focus (simp [ev, Fr.look]; done)) | refine vw_blockAt _ rfl rfl ?_ | (apply vw_regionRun; (focus rfl); (focus ((conv => lhs; reduce); done)); (focus ((conv => lhs; simp [-List.map_set, set_vnat, set_vnat1, set_vint, set_bool]); done)); refine vseg_done ?_) | (apply vw_drawPlain; (focus rfl); (focus kernel_rfl); (focus ((conv => lhs; reduce); done)); (focus ((conv => lhs; reduce); done)); (focus (kernel_rfl)); (focus ((conv => lhs; simp [-List.map_set, set_vnat, set_vnat1, set_vint, set_bool]); done)); refine vseg_done ?_))
  repeat refine vw_seqAt rfl ?_
  refine vw_regionRun rfl (by conv => lhs; reduce) (by conv => lhs; simp [-List.map_set, set_vnat, set_vnat1, set_vint, set_bool]) ?_
  refine vcall_use rfl (RRight_v g hg hl) ?_
  refine vseg_more (by conv => lhs; simp [-List.map_set, set_vnat, set_vnat1, set_vint, set_bool, hr]) ?_
  refine vseg_done ?_
  repeat (first | refine vw_seqAt rfl ?_ | refine vw_scopeAt rfl ?_ | refine vw_labelAt rfl ?_ | refine vw_skipAt rfl ?_ | refine vw_exitAt _ rfl rfl ?_ | refine vw_retAt rfl ?_ | (refine vw_condT rfl rfl ?_ ?_; focus (simp [ev, Fr.look]; done)) | (refine vw_condF rfl rfl ?_ ?_; focus (simp [ev, Fr.look]; done)) | refine vw_blockAt _ rfl rfl ?_ | (apply vw_regionRun; (focus rfl); (focus ((conv => lhs; reduce); done)); (focus ((conv => lhs; simp [-List.map_set, set_vnat, set_vnat1, set_vint, set_bool]); done)); refine vseg_done ?_) | (apply vw_drawPlain; (focus rfl); (focus kernel_rfl); (focus ((conv => lhs; reduce); done)); (focus ((conv => lhs; reduce); done)); (focus (kernel_rfl)); (focus ((conv => lhs; simp [-List.map_set, set_vnat, set_vnat1, set_vint, set_bool]); done)); refine vseg_done ?_))
  exact done_via (l := []) hwf ((Ghost.tuple [] [vint 1] (Ghost.nils_list _)).toB _) rfl

theorem RNearest_v (g : List (List Nat)) (hg : G.Ok g) (hr : VPure Try.prog 15 [vl (vl vnat) g] (.bool true)) : VPure Try.prog 19 [vl (vl vnat) g] (.tuple [vl vint (G.rNear g), vint 0]) := by
  intro S
  refine vcalls_start (c := bodyOf Try.f19) Try.func19 rfl rfl (by simp [Try.ntmps19]) ?_
  rw [Try.ntmps19]
  intro hwf
  have hm256 := hg.max
  repeat (first | refine vw_seqAt rfl ?_ | refine vw_scopeAt rfl ?_ | refine vw_labelAt rfl ?_ | refine vw_skipAt rfl ?_ | refine vw_exitAt _ rfl rfl ?_ | refine vw_retAt rfl ?_ | (refine vw_condT rfl rfl ?_ ?_; focus (simp [ev, Fr.look]; done)) | (refine vw_condF rfl rfl ?_ ?_; focus (simp [ev, Fr.look]; done)) | refine vw_blockAt _ rfl rfl ?_ | (apply vw_regionRun; (focus rfl); (focus ((conv => lhs; reduce); done)); (focus ((conv => lhs; simp [-List.map_set, set_vnat, set_vnat1, set_vint, set_bool]); done)); refine vseg_done ?_) | (apply vw_drawPlain; (focus rfl); (focus kernel_rfl); (focus ((conv => lhs; reduce); done)); (focus ((conv => lhs; reduce); done)); (focus (kernel_rfl)); (focus ((conv => lhs; simp [-List.map_set, set_vnat, set_vnat1, set_vint, set_bool]); done)); refine vseg_done ?_))
  repeat refine vw_seqAt rfl ?_
  refine vw_regionRun rfl (by conv => lhs; reduce) (by conv => lhs; simp [-List.map_set, set_vnat, set_vnat1, set_vint, set_bool]) ?_
  refine vcall_use rfl (hr) ?_
  refine vseg_more (by conv => lhs; simp [-List.map_set, set_vnat, set_vnat1, set_vint, set_bool]) ?_
  refine vseg_done ?_
  repeat (first | refine vw_seqAt rfl ?_ | refine vw_scopeAt rfl ?_ | refine vw_labelAt rfl ?_ | refine vw_skipAt rfl ?_ | refine vw_exitAt _ rfl rfl ?_ | refine vw_retAt rfl ?_ | (refine vw_condT rfl rfl ?_ ?_; focus (simp [ev, Fr.look]; done)) | (refine vw_condF rfl rfl ?_ ?_; focus (simp [ev, Fr.look]; done)) | refine vw_blockAt _ rfl rfl ?_ | (apply vw_regionRun; (focus rfl); (focus ((conv => lhs; reduce); done)); (focus ((conv => lhs; simp [-List.map_set, set_vnat, set_vnat1, set_vint, set_bool]); done)); refine vseg_done ?_) | (apply vw_drawPlain; (focus rfl); (focus kernel_rfl); (focus ((conv => lhs; reduce); done)); (focus ((conv => lhs; reduce); done)); (focus (kernel_rfl)); (focus ((conv => lhs; simp [-List.map_set, set_vnat, set_vnat1, set_vint, set_bool]); done)); refine vseg_done ?_))
  repeat refine vw_seqAt rfl ?_
  refine vw_regionRun rfl (by conv => lhs; reduce) (by conv => lhs; simp [-List.map_set, set_vnat, set_vnat1, set_vint, set_bool]) ?_
  refine vcall_use rfl (Table_v g hg) ?_
  refine vseg_more (by conv => lhs; simp [-List.map_set, set_vnat, set_vnat1, set_vint, set_bool]) ?_
  refine vseg_done ?_
  generalize ht : G.table g = t
  have htl : t.length = g.length := by rw [← ht]; simp [G.table]
  have hrl : ∀ a, a < g.length → ∃ r, t[a]? = some r ∧ r.length = g.length := by
    intro a ha
    refine ⟨G.tableRow g a, by rw [← ht]; simp [G.table, ha], G.tableRow_length g a⟩
  obtain ⟨f, hf⟩ : ∃ f : Nat → Int, f = fun b => (G.bestTo t g.length b g.length).1 := ⟨_, rfl⟩
  have hfin : G.rNear g = upTo f g.length := by rw [hf]; simp only [G.rNear, ht, upTo]
  rw [hfin]
  repeat refine vw_seqAt rfl ?_
  refine vw_regionRun rfl (by conv => lhs; reduce) (by conv => lhs; simp [-List.map_set, set_vnat, set_vnat1, set_vint, set_bool]) ?_
  refine vseg_done ?_
  refine vw_void 5 1 rfl (by conv => lhs; simp [Fr.set]) ?_
  repeat (first | refine vw_seqAt rfl ?_ | refine vw_scopeAt rfl ?_ | refine vw_labelAt rfl ?_ | refine vw_skipAt rfl ?_ | refine vw_exitAt _ rfl rfl ?_ | refine vw_retAt rfl ?_ | (refine vw_condT rfl rfl ?_ ?_; focus (simp [ev, Fr.look]; done)) | (refine vw_condF rfl rfl ?_ ?_; focus (simp [ev, Fr.look]; done)) | refine vw_blockAt _ rfl rfl ?_ | (apply vw_regionRun; (focus rfl); (focus ((conv => lhs; reduce); done)); (focus ((conv => lhs; simp [-List.map_set, set_vnat, set_vnat1, set_vint, set_bool]); done)); refine vseg_done ?_) | (apply vw_drawPlain; (focus rfl); (focus kernel_rfl); (focus ((conv => lhs; reduce); done)); (focus ((conv => lhs; reduce); done)); (focus (kernel_rfl)); (focus ((conv => lhs; simp [-List.map_set, set_vnat, set_vnat1, set_vint, set_bool]); done)); refine vseg_done ?_))
  repeat refine vw_seqAt rfl ?_
  refine vw_loopAt [0, 4, 5, 6] rfl (fun c σ S' => ∃ (b : Nat), b ≤ g.length ∧ c = g.length - b ∧ σ = [(0, vl (vl vnat) g), (4, vl (vl V.bool) t), (5, .slice (lid S.nx 0) 0 b), (6, vnat b)] ∧ S' = St S [] [some (1, (upTo f b).map vint)]) g.length ?_ ?_
  · exact ⟨0, by omega, rfl, by simp [Fr.only, Fr.look, vnat], by simp [upTo_zero]⟩
  · rintro c σ T ⟨b, hb, rfl, rfl, rfl⟩
    by_cases hbt : b < g.length
    · have hwb : IntKind.i64.wrap ((b : Int) + 1) = (b : Int) + 1 := wrap_i64 (by omega) (by omega)
      repeat (first | refine vw_seqAt rfl ?_ | refine vw_scopeAt rfl ?_ | refine vw_labelAt rfl ?_ | refine vw_skipAt rfl ?_ | refine vw_exitAt _ rfl rfl ?_ | refine vw_retAt rfl ?_ | (refine vw_condT rfl rfl ?_ ?_; focus (simp [ev, Fr.look]; done)) | (refine vw_condF rfl rfl ?_ ?_; focus (simp [ev, Fr.look]; done)) | refine vw_blockAt _ rfl rfl ?_ | (apply vw_regionRun; (focus rfl); (focus ((conv => lhs; reduce); done)); (focus ((conv => lhs; simp [-List.map_set, set_vnat, set_vnat1, set_vint, set_bool, hbt]); done)); refine vseg_done ?_) | (apply vw_drawPlain; (focus rfl); (focus kernel_rfl); (focus ((conv => lhs; reduce); done)); (focus ((conv => lhs; reduce); done)); (focus (kernel_rfl)); (focus ((conv => lhs; simp [-List.map_set, set_vnat, set_vnat1, set_vint, set_bool, hbt]); done)); refine vseg_done ?_))
      repeat refine vw_seqAt rfl ?_
      refine vw_loopAt [0, 4, 5, 6, 7, 8, 9] rfl (fun c σ S' => ∃ (a : Nat), a ≤ g.length ∧ c = g.length - a ∧ σ = [(0, vl (vl vnat) g), (4, vl (vl V.bool) t), (5, .slice (lid S.nx 0) 0 b), (6, vnat b), (7, vint (G.bestTo t g.length b a).1), (8, vnat (G.bestTo t g.length b a).2), (9, vnat a)] ∧ S' = St S [] [some (1, (upTo f b).map vint)]) g.length ?_ ?_
      · exact ⟨0, by omega, rfl, by simp [Fr.only, Fr.look, vnat, vint, G.bestTo], by simp⟩
      · rintro c σ T ⟨a, ha, rfl, rfl, rfl⟩
        by_cases hat : a < g.length
        · have hwa : IntKind.i64.wrap ((a : Int) + 1) = (a : Int) + 1 := wrap_i64 (by omega) (by omega)
          have hst : ∀ x, x = G.bestTo t g.length b (a + 1) → x = if a ≠ b ∧ G.tabAt t a b = true ∧ (G.bestTo t g.length b a).2 < G.cntTo t a g.length then ((a : Int), G.cntTo t a g.length) else G.bestTo t g.length b a := fun x h => h
          have hst := hst _ rfl
          obtain ⟨r, hr, hrl'⟩ := hrl a hat
          have hta : a < t.length := by omega
          have hra : t[a] = r := by simpa [hta] using hr
          by_cases hab : a = b
          · subst hab
            rw [if_neg (by simp)] at hst
            repeat (first | refine vw_seqAt rfl ?_ | refine vw_scopeAt rfl ?_ | refine vw_labelAt rfl ?_ | refine vw_skipAt rfl ?_ | refine vw_exitAt _ rfl rfl ?_ | refine vw_retAt rfl ?_ | (refine vw_condT rfl rfl ?_ ?_; focus (simp [ev, Fr.look]; done)) | (refine vw_condF rfl rfl ?_ ?_; focus (simp [ev, Fr.look]; done)) | refine vw_blockAt _ rfl rfl ?_ | (apply vw_regionRun; (focus rfl); (focus ((conv => lhs; reduce); done)); (focus ((conv => lhs; simp [-List.map_set, set_vnat, set_vnat1, set_vint, set_bool, hat]); done)); refine vseg_done ?_) | (apply vw_drawPlain; (focus rfl); (focus kernel_rfl); (focus ((conv => lhs; reduce); done)); (focus ((conv => lhs; reduce); done)); (focus (kernel_rfl)); (focus ((conv => lhs; simp [-List.map_set, set_vnat, set_vnat1, set_vint, set_bool, hat]); done)); refine vseg_done ?_))
            show Again _ _ _ _ _ _ _
            exact again ⟨Nat.sub_lt_sub_left hat (Nat.lt_succ_self a), a + 1, hat, rfl, by rw [hst]; simp [Fr.only, Fr.look, vnat, vint]; exact hwa, rfl⟩
          · have hab' : ¬ (a : Int) = (b : Int) := by omega
            by_cases htab : G.tabAt t a b = true
            · have htb : r[b]'(by omega) = true := by
                have : b < r.length := by omega
                simpa [G.tabAt, hta, hra, this] using htab
              have hbr : b < r.length := by omega
              have hab' : ¬ (a : Int) = (b : Int) := by omega
              repeat (first | refine vw_seqAt rfl ?_ | refine vw_scopeAt rfl ?_ | refine vw_labelAt rfl ?_ | refine vw_skipAt rfl ?_ | refine vw_exitAt _ rfl rfl ?_ | refine vw_retAt rfl ?_ | (refine vw_condT rfl rfl ?_ ?_; focus (simp [ev, Fr.look]; done)) | (refine vw_condF rfl rfl ?_ ?_; focus (simp [ev, Fr.look]; done)) | refine vw_blockAt _ rfl rfl ?_ | (apply vw_regionRun; (focus rfl); (focus ((conv => lhs; reduce); done)); (focus ((conv => lhs; simp [-List.map_set, set_vnat, set_vnat1, set_vint, set_bool, hat, hab, hab', hta, hra, hbr, htb]); done)); refine vseg_done ?_) | (apply vw_drawPlain; (focus rfl); (focus kernel_rfl); (focus ((conv => lhs; reduce); done)); (focus ((conv => lhs; reduce); done)); (focus (kernel_rfl)); (focus ((conv => lhs; simp [-List.map_set, set_vnat, set_vnat1, set_vint, set_bool, hat, hab, hab', hta, hra, hbr, htb]); done)); refine vseg_done ?_))
              repeat refine vw_seqAt rfl ?_
              refine vw_loopAt [0, 4, 5, 6, 7, 8, 9, 10, 11] rfl (fun c σ S' => ∃ (k : Nat), k ≤ g.length ∧ c = g.length - k ∧ σ = [(0, vl (vl vnat) g), (4, vl (vl V.bool) t), (5, .slice (lid S.nx 0) 0 b), (6, vnat b), (7, vint (G.bestTo t g.length b a).1), (8, vnat (G.bestTo t g.length b a).2), (9, vnat a), (10, vnat (G.cntTo t a k)), (11, vnat k)] ∧ S' = St S [] [some (1, (upTo f b).map vint)]) g.length ?_ ?_
              · exact ⟨0, by omega, rfl, by simp [Fr.only, Fr.look, vnat, vint, G.cntTo], rfl⟩
              · rintro c σ T ⟨k, hk, rfl, rfl, rfl⟩
                have hcle := G.cntTo_le t a k
                by_cases hkt : k < g.length
                · have hwk : IntKind.i64.wrap ((k : Int) + 1) = (k : Int) + 1 := wrap_i64 (by omega) (by omega)
                  have hwc : IntKind.i64.wrap ((G.cntTo t a k : Int) + 1) = (G.cntTo t a k : Int) + 1 := wrap_i64 (by omega) (by omega)
                  obtain ⟨q, hq, hql⟩ := hrl k hkt
                  have htk : k < t.length := by omega
                  have hqk : t[k] = q := by simpa [htk] using hq
                  have haq : a < q.length := by omega
                  obtain ⟨x, hx⟩ : ∃ x, q[a] = x := ⟨_, rfl⟩
                  have hxt : G.tabAt t k a = x := by simp [G.tabAt, htk, hqk, haq, hx]
                  have hcs : G.cntTo t a (k + 1) = if x = true then G.cntTo t a k + 1 else G.cntTo t a k := by simp only [G.cntTo, hxt]
                  cases x with
                  | true =>
                    repeat (first | refine vw_seqAt rfl ?_ | refine vw_scopeAt rfl ?_ | refine vw_labelAt rfl ?_ | refine vw_skipAt rfl ?_ | refine vw_exitAt _ rfl rfl ?_ | refine vw_retAt rfl ?_ | (refine vw_condT rfl rfl ?_ ?_; focus (simp [ev, Fr.look]; done)) | (refine vw_condF rfl rfl ?_ ?_; focus (simp [ev, Fr.look]; done)) | refine vw_blockAt _ rfl rfl ?_ | (apply vw_regionRun; (focus rfl); (focus ((conv => lhs; reduce); done)); (focus ((conv => lhs; simp [-List.map_set, set_vnat, set_vnat1, set_vint, set_bool, hkt, htk, hqk, haq, hx]); done)); refine vseg_done ?_) | (apply vw_drawPlain; (focus rfl); (focus kernel_rfl); (focus ((conv => lhs; reduce); done)); (focus ((conv => lhs; reduce); done)); (focus (kernel_rfl)); (focus ((conv => lhs; simp [-List.map_set, set_vnat, set_vnat1, set_vint, set_bool, hkt, htk, hqk, haq, hx]); done)); refine vseg_done ?_))
                    show Again _ _ _ _ _ _ _
                    exact again ⟨Nat.sub_lt_sub_left hkt (Nat.lt_succ_self k), k + 1, hkt, rfl, by rw [hcs]; simp [Fr.only, Fr.look, vnat, vint, hwk, hwc], rfl⟩
                  | false =>
                    repeat (first | refine vw_seqAt rfl ?_ | refine vw_scopeAt rfl ?_ | refine vw_labelAt rfl ?_ | refine vw_skipAt rfl ?_ | refine vw_exitAt _ rfl rfl ?_ | refine vw_retAt rfl ?_ | (refine vw_condT rfl rfl ?_ ?_; focus (simp [ev, Fr.look]; done)) | (refine vw_condF rfl rfl ?_ ?_; focus (simp [ev, Fr.look]; done)) | refine vw_blockAt _ rfl rfl ?_ | (apply vw_regionRun; (focus rfl); (focus ((conv => lhs; reduce); done)); (focus ((conv => lhs; simp [-List.map_set, set_vnat, set_vnat1, set_vint, set_bool, hkt, htk, hqk, haq, hx]); done)); refine vseg_done ?_) | (apply vw_drawPlain; (focus rfl); (focus kernel_rfl); (focus ((conv => lhs; reduce); done)); (focus ((conv => lhs; reduce); done)); (focus (kernel_rfl)); (focus ((conv => lhs; simp [-List.map_set, set_vnat, set_vnat1, set_vint, set_bool, hkt, htk, hqk, haq, hx]); done)); refine vseg_done ?_))
                    show Again _ _ _ _ _ _ _
                    exact again ⟨Nat.sub_lt_sub_left hkt (Nat.lt_succ_self k), k + 1, hkt, rfl, by rw [hcs]; simp [Fr.only, Fr.look, vnat, vint, hwk, hwc], rfl⟩
                · have hkg : k = g.length := by omega
                  subst hkg
                  by_cases hgt : (G.bestTo t g.length b a).2 < G.cntTo t a g.length
                  · rw [if_pos ⟨hab, htab, hgt⟩] at hst
                    repeat (first | refine vw_seqAt rfl ?_ | refine vw_scopeAt rfl ?_ | refine vw_labelAt rfl ?_ | refine vw_skipAt rfl ?_ | refine vw_exitAt _ rfl rfl ?_ | refine vw_retAt rfl ?_ | (refine vw_condT rfl rfl ?_ ?_; focus (simp [ev, Fr.look]; done)) | (refine vw_condF rfl rfl ?_ ?_; focus (simp [ev, Fr.look]; done)) | refine vw_blockAt _ rfl rfl ?_ | (apply vw_regionRun; (focus rfl); (focus ((conv => lhs; reduce); done)); (focus ((conv => lhs; simp [-List.map_set, set_vnat, set_vnat1, set_vint, set_bool, hkt, hgt]); done)); refine vseg_done ?_) | (apply vw_drawPlain; (focus rfl); (focus kernel_rfl); (focus ((conv => lhs; reduce); done)); (focus ((conv => lhs; reduce); done)); (focus (kernel_rfl)); (focus ((conv => lhs; simp [-List.map_set, set_vnat, set_vnat1, set_vint, set_bool, hkt, hgt]); done)); refine vseg_done ?_))
                    show Again _ _ _ _ _ _ _
                    exact again ⟨Nat.sub_lt_sub_left hat (Nat.lt_succ_self a), a + 1, hat, rfl, by rw [hst]; simp [Fr.only, Fr.look, vnat, vint, hwa], rfl⟩
                  · rw [if_neg (fun h => hgt h.2.2)] at hst
                    repeat (first | refine vw_seqAt rfl ?_ | refine vw_scopeAt rfl ?_ | refine vw_labelAt rfl ?_ | refine vw_skipAt rfl ?_ | refine vw_exitAt _ rfl rfl ?_ | refine vw_retAt rfl ?_ | (refine vw_condT rfl rfl ?_ ?_; focus (simp [ev, Fr.look]; done)) | (refine vw_condF rfl rfl ?_ ?_; focus (simp [ev, Fr.look]; done)) | refine vw_blockAt _ rfl rfl ?_ | (apply vw_regionRun; (focus rfl); (focus ((conv => lhs; reduce); done)); (focus ((conv => lhs; simp [-List.map_set, set_vnat, set_vnat1, set_vint, set_bool, hkt, hgt]); done)); refine vseg_done ?_) | (apply vw_drawPlain; (focus rfl); (focus kernel_rfl); (focus ((conv => lhs; reduce); done)); (focus ((conv => lhs; reduce); done)); (focus (kernel_rfl)); (focus ((conv => lhs; simp [-List.map_set, set_vnat, set_vnat1, set_vint, set_bool, hkt, hgt]); done)); refine vseg_done ?_))
                    show Again _ _ _ _ _ _ _
                    exact again ⟨Nat.sub_lt_sub_left hat (Nat.lt_succ_self a), a + 1, hat, rfl, by rw [hst]; simp [Fr.only, Fr.look, vnat, vint, hwa], rfl⟩
            · have htb : r[b]'(by omega) = false := by
                have : b < r.length := by omega
                simpa [G.tabAt, hta, hra, this] using htab
              have hbr : b < r.length := by omega
              rw [if_neg (fun h => htab h.2.1)] at hst
              repeat (first | refine vw_seqAt rfl ?_ | refine vw_scopeAt rfl ?_ | refine vw_labelAt rfl ?_ | refine vw_skipAt rfl ?_ | refine vw_exitAt _ rfl rfl ?_ | refine vw_retAt rfl ?_ | (refine vw_condT rfl rfl ?_ ?_; focus (simp [ev, Fr.look]; done)) | (refine vw_condF rfl rfl ?_ ?_; focus (simp [ev, Fr.look]; done)) | refine vw_blockAt _ rfl rfl ?_ | (apply vw_regionRun; (focus rfl); (focus ((conv => lhs; reduce); done)); (focus ((conv => lhs; simp [-List.map_set, set_vnat, set_vnat1, set_vint, set_bool, hat, hab, hab', hta, hra, hbr, htb]); done)); refine vseg_done ?_) | (apply vw_drawPlain; (focus rfl); (focus kernel_rfl); (focus ((conv => lhs; reduce); done)); (focus ((conv => lhs; reduce); done)); (focus (kernel_rfl)); (focus ((conv => lhs; simp [-List.map_set, set_vnat, set_vnat1, set_vint, set_bool, hat, hab, hab', hta, hra, hbr, htb]); done)); refine vseg_done ?_))
              show Again _ _ _ _ _ _ _
              exact again ⟨Nat.sub_lt_sub_left hat (Nat.lt_succ_self a), a + 1, hat, rfl, by rw [hst]; simp [Fr.only, Fr.look, vnat, vint, hwa], rfl⟩
        · have hag : a = g.length := by omega
          subst hag
          have hfb : f b = (G.bestTo t g.length b g.length).1 := by rw [hf]
          have hc8 : (b + 1) * 8 ≤ 140737488355328 := by omega
          have hc1 : b + 1 ≤ 140737488355328 := by omega
          repeat (first | refine vw_seqAt rfl ?_ | refine vw_scopeAt rfl ?_ | refine vw_labelAt rfl ?_ | refine vw_skipAt rfl ?_ | refine vw_exitAt _ rfl rfl ?_ | refine vw_retAt rfl ?_ | (refine vw_condT rfl rfl ?_ ?_; focus (simp [ev, Fr.look]; done)) | (refine vw_condF rfl rfl ?_ ?_; focus (simp [ev, Fr.look]; done)) | refine vw_blockAt _ rfl rfl ?_ | (apply vw_regionRun; (focus rfl); (focus ((conv => lhs; reduce); done)); (focus ((conv => lhs; simp [-List.map_set, set_vnat, set_vnat1, set_vint, set_bool, hat, hc8, hc1]); done)); refine vseg_done ?_) | (apply vw_drawPlain; (focus rfl); (focus kernel_rfl); (focus ((conv => lhs; reduce); done)); (focus ((conv => lhs; reduce); done)); (focus (kernel_rfl)); (focus ((conv => lhs; simp [-List.map_set, set_vnat, set_vnat1, set_vint, set_bool, hat, hc8, hc1]); done)); refine vseg_done ?_))
          refine again_gc [2] (by conv => lhs; simp [Fr.only]) hwf (by decide) (by simp [-List.map_set]) (by conv => lhs; simp [-List.map_set]) (by conv => lhs; simp [-List.map_set]) (by conv => lhs; simp [-List.map_set]) ⟨?_, b + 1, hbt, rfl, by simp [vnat, hwb], by rw [upTo_succ, hfb]; simp [vint]⟩
          omega
    · repeat (first | refine vw_seqAt rfl ?_ | refine vw_scopeAt rfl ?_ | refine vw_labelAt rfl ?_ | refine vw_skipAt rfl ?_ | refine vw_exitAt _ rfl rfl ?_ | refine vw_retAt rfl ?_ | (refine vw_condT rfl rfl ?_ ?_; focus (simp [ev, Fr.look]; done)) | (refine vw_condF rfl rfl ?_ ?_; focus (simp [ev, Fr.look]; done)) | refine vw_blockAt _ rfl rfl ?_ | (apply vw_regionRun; (focus rfl); (focus ((conv => lhs; reduce); done)); (focus ((conv => lhs; simp [-List.map_set, set_vnat, set_vnat1, set_vint, set_bool, hbt]); done)); refine vseg_done ?_) | (apply vw_drawPlain; (focus rfl); (focus kernel_rfl); (focus ((conv => lhs; reduce); done)); (focus ((conv => lhs; reduce); done)); (focus (kernel_rfl)); (focus ((conv => lhs; simp [-List.map_set, set_vnat, set_vnat1, set_vint, set_bool, hbt]); done)); refine vseg_done ?_))
      have hag : b = g.length := by omega
      subst hag
      exact done_via hwf ((Ghost.tuple [] [vint 0] (frz1 (by simp) (by rfl) (all_closed1 vint (fun _ => rfl) _) (by simp [upTo_len]))).toB _) rfl
end Go.Vw
