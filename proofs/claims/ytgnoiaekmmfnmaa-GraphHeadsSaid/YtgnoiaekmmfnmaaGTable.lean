import Derived.Test.YtgnoiaekmmfnmaaVSimp
import Derived.Test.YtgnoiaekmmfnmaaGWithout
set_option linter.unusedVariables false
set_option linter.unusedSimpArgs false
namespace Go.Vw
open Go.Proofs Go.RowKit
set_option maxRecDepth 10000
set_option maxHeartbeats 4000000

/-- The rows as far as they are done, and nils. -/
def tabCells (g : List (List Nat)) (a : Nat) : List V := ((List.range a).map (G.tableRow g)).map (vl V.bool) ++ List.replicate (g.length - a) .nils
theorem tabCells_set {g : List (List Nat)} {a : Nat} (h : a < g.length) (x : V) : (tabCells g a).set a x = ((List.range a).map (G.tableRow g)).map (vl V.bool) ++ x :: List.replicate (g.length - (a + 1)) .nils := by
  have e : g.length - a = (g.length - (a + 1)) + 1 := by omega
  rw [tabCells, e, List.replicate_succ, List.set_append_right _ _ (by simp)]
  simp
theorem tabCells_next {g : List (List Nat)} {a : Nat} (h : a < g.length) : (tabCells g a).set a (vl V.bool (G.tableRow g a)) = tabCells g (a + 1) := by
  rw [tabCells_set h, tabCells, List.range_succ]
  simp
theorem renL_tab (f : Nat → Nat) (g : List (List Nat)) (a : Nat) : V.renL f (tabCells g a) = tabCells g a := by
  simp only [tabCells, renL_append, renL_vl]
  rw [renL_eq, List.map_replicate, ren_nils]
theorem idsL_tab (p : Nat → Bool) (g : List (List Nat)) (a : Nat) : V.idsL p (tabCells g a) = true := by
  simp only [tabCells, idsL_append, idsL_vl, Bool.true_and]
  rw [idsL_eq]; simp [ids_nils]
theorem tabCells_len {g : List (List Nat)} {a : Nat} (h : a ≤ g.length) : (tabCells g a).length = g.length := by simp [tabCells]; omega

/-- A row as far as it is filled. -/
def fill (f : Nat → Bool) (n b : Nat) : List Bool := (List.range b).map f ++ List.replicate (n - b) false
theorem fill_set {f : Nat → Bool} {n b : Nat} (h : b < n) : (fill f n b).set b (f b) = fill f n (b + 1) := by
  have e : n - b = (n - (b + 1)) + 1 := by omega
  rw [fill, e, List.replicate_succ, List.set_append_right _ _ (by simp), fill, List.range_succ]
  simp
theorem fill_len {f : Nat → Bool} {n b : Nat} (h : b ≤ n) : (fill f n b).length = n := by simp [fill]; omega

theorem Table_v (g : List (List Nat)) (hg : G.Ok g) : VPure Try.prog 31 [vl (vl vnat) g] (vl (vl V.bool) (G.table g)) := by
  intro S
  refine vcalls_start (c := bodyOf Try.f31) Try.func31 rfl rfl (by simp [Try.ntmps31]) ?_
  rw [Try.ntmps31]
  intro hwf
  have hm256 := hg.max
  have hb24 : g.length * 24 ≤ 140737488355328 := by omega
  have hb1 : g.length * 1 ≤ 140737488355328 := by omega
  have hb0 : g.length ≤ 140737488355328 := by omega
  generalize hall : G.without g none = all
  have hal : all.length = g.length := by rw [← hall]; exact G.without_length hg none
  repeat (first | refine vw_seqAt rfl ?_ | refine vw_scopeAt rfl ?_ | refine vw_labelAt rfl ?_ | refine vw_skipAt rfl ?_ | refine vw_exitAt _ rfl rfl ?_ | refine vw_retAt rfl ?_ | (refine vw_condT rfl rfl ?_ ?_; focus (simp [ev, Fr.look]; done)) | (refine vw_condF rfl rfl ?_ ?_; focus (simp [ev, Fr.look]; done)) | refine vw_blockAt _ rfl rfl ?_ | (apply vw_regionRun; (focus rfl); (focus ((conv => lhs; reduce); done)); (focus ((conv => lhs; simp [-List.map_set, set_vnat, set_vnat1, set_vint, set_bool]); done)); refine vseg_done ?_) | (apply vw_drawPlain; (focus rfl); (focus kernel_rfl); (focus ((conv => lhs; reduce); done)); (focus ((conv => lhs; reduce); done)); (focus (kernel_rfl)); (focus ((conv => lhs; simp [-List.map_set, set_vnat, set_vnat1, set_vint, set_bool]); done)); refine vseg_done ?_))
  repeat refine vw_seqAt rfl ?_
  refine vw_regionRun rfl (by conv => lhs; reduce) (by conv => lhs; simp [-List.map_set, set_vnat, set_vnat1, set_vint, set_bool]) ?_
  refine vcall_use rfl (hall ▸ Without_v g hg none (by simp)) ?_
  refine vseg_more (by conv => lhs; simp [-List.map_set, set_vnat, set_vnat1, set_vint, set_bool]) ?_
  refine vseg_done ?_
  repeat (first | refine vw_seqAt rfl ?_ | refine vw_scopeAt rfl ?_ | refine vw_labelAt rfl ?_ | refine vw_skipAt rfl ?_ | refine vw_exitAt _ rfl rfl ?_ | refine vw_retAt rfl ?_ | (refine vw_condT rfl rfl ?_ ?_; focus (simp [ev, Fr.look]; done)) | (refine vw_condF rfl rfl ?_ ?_; focus (simp [ev, Fr.look]; done)) | refine vw_blockAt _ rfl rfl ?_ | (apply vw_regionRun; (focus rfl); (focus ((conv => lhs; reduce); done)); (focus ((conv => lhs; simp [-List.map_set, set_vnat, set_vnat1, set_vint, set_bool, hb24, hb0]); done)); refine vseg_done ?_) | (apply vw_drawPlain; (focus rfl); (focus kernel_rfl); (focus ((conv => lhs; reduce); done)); (focus ((conv => lhs; reduce); done)); (focus (kernel_rfl)); (focus ((conv => lhs; simp [-List.map_set, set_vnat, set_vnat1, set_vint, set_bool, hb24, hb0]); done)); refine vseg_done ?_))
  repeat refine vw_seqAt rfl ?_
  refine vw_loopAt [0, 3, 4, 5] rfl (fun c σ S' => ∃ (a : Nat), a ≤ g.length ∧ c = g.length - a ∧ σ = [(0, vl (vl vnat) g), (3, vl V.bool all), (4, .slice (lid S.nx 0) 0 g.length), (5, vnat a)] ∧ S' = St S [] [some (1, tabCells g a)]) g.length ?_ ?_
  · exact ⟨0, by omega, rfl, by simp [Fr.only, Fr.look, vnat], by simp [tabCells]⟩
  · rintro c σ T ⟨a, ha, rfl, rfl, rfl⟩
    by_cases hlt : a < g.length
    · have hw1 : IntKind.i64.wrap ((a : Int) + 1) = (a : Int) + 1 := wrap_i64 (by omega) (by omega)
      have htl := tabCells_len ha
      have haa : a < all.length := by omega
      have hat : a < (tabCells g a).length := by omega
      obtain ⟨b, hb⟩ : ∃ b, all[a] = b := ⟨_, rfl⟩
      have hbd : all.getD a false = b := by simp [haa, hb]
      cases b with
      | false =>
        have hrow : G.tableRow g a = List.replicate g.length false := by simp only [G.tableRow, hall, hbd]; simp
        repeat (first | refine vw_seqAt rfl ?_ | refine vw_scopeAt rfl ?_ | refine vw_labelAt rfl ?_ | refine vw_skipAt rfl ?_ | refine vw_exitAt _ rfl rfl ?_ | refine vw_retAt rfl ?_ | (refine vw_condT rfl rfl ?_ ?_; focus (simp [ev, Fr.look]; done)) | (refine vw_condF rfl rfl ?_ ?_; focus (simp [ev, Fr.look]; done)) | refine vw_blockAt _ rfl rfl ?_ | (apply vw_regionRun; (focus rfl); (focus ((conv => lhs; reduce); done)); (focus ((conv => lhs; simp [-List.map_set, set_vnat, set_vnat1, set_vint, set_bool, hb1, hb0, hlt, hat, haa]); done)); refine vseg_done ?_) | (apply vw_drawPlain; (focus rfl); (focus kernel_rfl); (focus ((conv => lhs; reduce); done)); (focus ((conv => lhs; reduce); done)); (focus (kernel_rfl)); (focus ((conv => lhs; simp [-List.map_set, set_vnat, set_vnat1, set_vint, set_bool, hb1, hb0, hlt, hat, haa]); done)); refine vseg_done ?_))
        refine vw_condT rfl rfl (by simp [ev, Fr.look, hb]) ?_
        repeat refine vw_seqAt rfl ?_
        refine vw_exitAt 1 rfl rfl ?_
        apply vw_reach
        · exact Reach.frzCell (k := 0) (j := 1) (i := a) (n := g.length) (cells' := (List.replicate g.length false).map V.bool) (by omega) (by simp) (by simp) rfl (by simp [hat]) (by simp) (all_closed1 V.bool (fun _ => rfl) _) (by simp)
        have e := tabCells_next hlt
        rw [hrow] at e
        simp only [List.set_cons_succ, List.set_cons_zero, List.set_set]
        rw [show V.list ((List.replicate g.length false).map V.bool) = vl V.bool (List.replicate g.length false) from rfl, e]
        repeat (first | refine vw_seqAt rfl ?_ | refine vw_scopeAt rfl ?_ | refine vw_labelAt rfl ?_ | refine vw_skipAt rfl ?_ | refine vw_exitAt _ rfl rfl ?_ | refine vw_retAt rfl ?_ | (refine vw_condT rfl rfl ?_ ?_; focus (simp [ev, Fr.look]; done)) | (refine vw_condF rfl rfl ?_ ?_; focus (simp [ev, Fr.look]; done)) | refine vw_blockAt _ rfl rfl ?_ | (apply vw_regionRun; (focus rfl); (focus ((conv => lhs; reduce); done)); (focus ((conv => lhs; simp [-List.map_set, set_vnat, set_vnat1, set_vint, set_bool, hw1]); done)); refine vseg_done ?_) | (apply vw_drawPlain; (focus rfl); (focus kernel_rfl); (focus ((conv => lhs; reduce); done)); (focus ((conv => lhs; reduce); done)); (focus (kernel_rfl)); (focus ((conv => lhs; simp [-List.map_set, set_vnat, set_vnat1, set_vint, set_bool, hw1]); done)); refine vseg_done ?_))
        refine again_gc [0] (by conv => lhs; simp [Fr.only]) hwf (by decide) (by simp [-List.map_set, renL_tab, idsL_tab]) (by conv => lhs; simp [-List.map_set, renL_tab, idsL_tab]) (by conv => lhs; simp [-List.map_set, renL_tab, idsL_tab]) (by conv => lhs; simp [-List.map_set, renL_tab, idsL_tab]) ⟨?_, a + 1, hlt, rfl, by simp [vnat], rfl⟩
        omega
      | true =>
        generalize hl : G.without g (some a) = l
        have hll : l.length = g.length := by rw [← hl]; exact G.without_length hg _
        obtain ⟨f, hf⟩ : ∃ f : Nat → Bool, f = fun b => all.getD b false && !(l.getD b false) := ⟨_, rfl⟩
        have hrow : G.tableRow g a = (List.range g.length).map f := by rw [hf]; simp only [G.tableRow, hall, hbd, hl]; simp
        repeat (first | refine vw_seqAt rfl ?_ | refine vw_scopeAt rfl ?_ | refine vw_labelAt rfl ?_ | refine vw_skipAt rfl ?_ | refine vw_exitAt _ rfl rfl ?_ | refine vw_retAt rfl ?_ | (refine vw_condT rfl rfl ?_ ?_; focus (simp [ev, Fr.look]; done)) | (refine vw_condF rfl rfl ?_ ?_; focus (simp [ev, Fr.look]; done)) | refine vw_blockAt _ rfl rfl ?_ | (apply vw_regionRun; (focus rfl); (focus ((conv => lhs; reduce); done)); (focus ((conv => lhs; simp [-List.map_set, set_vnat, set_vnat1, set_vint, set_bool, hb1, hb0, hlt, hat, haa, hb]); done)); refine vseg_done ?_) | (apply vw_drawPlain; (focus rfl); (focus kernel_rfl); (focus ((conv => lhs; reduce); done)); (focus ((conv => lhs; reduce); done)); (focus (kernel_rfl)); (focus ((conv => lhs; simp [-List.map_set, set_vnat, set_vnat1, set_vint, set_bool, hb1, hb0, hlt, hat, haa, hb]); done)); refine vseg_done ?_))
        repeat refine vw_seqAt rfl ?_
        refine vw_regionRun rfl (by conv => lhs; reduce) (by conv => lhs; simp [-List.map_set, set_vnat, set_vnat1, set_vint, set_bool]) ?_
        refine vcall_use rfl (hl ▸ Without_v g hg (some a) (by simpa using hlt)) ?_
        refine vseg_more (by conv => lhs; simp [-List.map_set, set_vnat, set_vnat1, set_vint, set_bool]) ?_
        refine vseg_done ?_
        repeat (first | refine vw_seqAt rfl ?_ | refine vw_scopeAt rfl ?_ | refine vw_labelAt rfl ?_ | refine vw_skipAt rfl ?_ | refine vw_exitAt _ rfl rfl ?_ | refine vw_retAt rfl ?_ | (refine vw_condT rfl rfl ?_ ?_; focus (simp [ev, Fr.look]; done)) | (refine vw_condF rfl rfl ?_ ?_; focus (simp [ev, Fr.look]; done)) | refine vw_blockAt _ rfl rfl ?_ | (apply vw_regionRun; (focus rfl); (focus ((conv => lhs; reduce); done)); (focus ((conv => lhs; simp [-List.map_set, set_vnat, set_vnat1, set_vint, set_bool]); done)); refine vseg_done ?_) | (apply vw_drawPlain; (focus rfl); (focus kernel_rfl); (focus ((conv => lhs; reduce); done)); (focus ((conv => lhs; reduce); done)); (focus (kernel_rfl)); (focus ((conv => lhs; simp [-List.map_set, set_vnat, set_vnat1, set_vint, set_bool]); done)); refine vseg_done ?_))
        repeat refine vw_seqAt rfl ?_
        refine vw_loopAt [0, 3, 4, 5, 6, 7] rfl (fun c σ S' => ∃ (b : Nat), b ≤ g.length ∧ c = g.length - b ∧ σ = [(0, vl (vl vnat) g), (3, vl V.bool all), (4, .slice (lid S.nx 0) 0 g.length), (5, vnat a), (6, vl V.bool l), (7, vnat b)] ∧ S' = St S [] [some (1, (tabCells g a).set a (.slice (lid S.nx 1) 0 g.length)), some (1, (fill f g.length b).map V.bool)]) g.length ?_ ?_
        · exact ⟨0, by omega, rfl, by simp [Fr.only, Fr.look, vnat], by simp [fill]⟩
        · rintro c σ T ⟨b, hbl, rfl, rfl, rfl⟩
          by_cases hbt : b < g.length
          · have hw2 : IntKind.i64.wrap ((b : Int) + 1) = (b : Int) + 1 := wrap_i64 (by omega) (by omega)
            have hba : b < all.length := by omega
            have hbll : b < l.length := by omega
            obtain ⟨x, hx⟩ : ∃ x, all[b] = x := ⟨_, rfl⟩
            have hfl := fill_len (f := f) hbl
            have hbf : b < (fill f g.length b).length := by omega
            have hset := fill_set (f := f) hbt
            have hfb : f b = (x && !l[b]) := by rw [hf]; simp [hba, hbll, hx]
            rw [hfb] at hset
            cases x with
            | true =>
              repeat (first | refine vw_seqAt rfl ?_ | refine vw_scopeAt rfl ?_ | refine vw_labelAt rfl ?_ | refine vw_skipAt rfl ?_ | refine vw_exitAt _ rfl rfl ?_ | refine vw_retAt rfl ?_ | (refine vw_condT rfl rfl ?_ ?_; focus (simp [ev, Fr.look]; done)) | (refine vw_condF rfl rfl ?_ ?_; focus (simp [ev, Fr.look]; done)) | refine vw_blockAt _ rfl rfl ?_ | (apply vw_regionRun; (focus rfl); (focus ((conv => lhs; reduce); done)); (focus ((conv => lhs; simp [-List.map_set, set_vnat, set_vnat1, set_vint, set_bool, hbt]); done)); refine vseg_done ?_) | (apply vw_drawPlain; (focus rfl); (focus kernel_rfl); (focus ((conv => lhs; reduce); done)); (focus ((conv => lhs; reduce); done)); (focus (kernel_rfl)); (focus ((conv => lhs; simp [-List.map_set, set_vnat, set_vnat1, set_vint, set_bool, hbt]); done)); refine vseg_done ?_))
              repeat refine vw_seqAt rfl ?_
              refine vw_drawW (St S [] [some (1, (tabCells g a).set a (.slice (lid S.nx 1) 0 g.length)), none]) (St S [] [some (1, (tabCells g a).set a (.slice (lid S.nx 1) 0 g.length)), some (1, (fill f g.length b).map V.bool)]) [] rfl (by kernel_rfl) (by conv => lhs; reduce) (by conv => lhs; reduce) (by kernel_rfl) (by kernel_rfl) (ok_St (by simp [subU, shpU, subL, shpL])) (by conv => lhs; simp [-List.map_set, set_vnat, set_vnat1, set_vint, set_bool, hlt, hat, hbt, hba, hbll, hx, hbf]) ?_
              refine vseg_write rfl (by conv => lhs; simp [-List.map_set, set_vnat, set_vnat1, set_vint, set_bool, hbt, hbf]) (ok_St (by simp [subU, shpU, subL, shpL])) ?_
              refine vseg_done ?_
              repeat (first | refine vw_seqAt rfl ?_ | refine vw_scopeAt rfl ?_ | refine vw_labelAt rfl ?_ | refine vw_skipAt rfl ?_ | refine vw_exitAt _ rfl rfl ?_ | refine vw_retAt rfl ?_ | (refine vw_condT rfl rfl ?_ ?_; focus (simp [ev, Fr.look]; done)) | (refine vw_condF rfl rfl ?_ ?_; focus (simp [ev, Fr.look]; done)) | refine vw_blockAt _ rfl rfl ?_ | (apply vw_regionRun; (focus rfl); (focus ((conv => lhs; reduce); done)); (focus ((conv => lhs; simp [-List.map_set, set_vnat, set_vnat1, set_vint, set_bool]); done)); refine vseg_done ?_) | (apply vw_drawPlain; (focus rfl); (focus kernel_rfl); (focus ((conv => lhs; reduce); done)); (focus ((conv => lhs; reduce); done)); (focus (kernel_rfl)); (focus ((conv => lhs; simp [-List.map_set, set_vnat, set_vnat1, set_vint, set_bool]); done)); refine vseg_done ?_))
              show Again _ _ _ _ _ _ _
              exact again ⟨Nat.sub_lt_sub_left hbt (Nat.lt_succ_self b), b + 1, hbt, rfl, by simp [Fr.only, Fr.look, vnat]; exact hw2, by rw [← hset]; simp⟩
            | false =>
              repeat (first | refine vw_seqAt rfl ?_ | refine vw_scopeAt rfl ?_ | refine vw_labelAt rfl ?_ | refine vw_skipAt rfl ?_ | refine vw_exitAt _ rfl rfl ?_ | refine vw_retAt rfl ?_ | (refine vw_condT rfl rfl ?_ ?_; focus (simp [ev, Fr.look]; done)) | (refine vw_condF rfl rfl ?_ ?_; focus (simp [ev, Fr.look]; done)) | refine vw_blockAt _ rfl rfl ?_ | (apply vw_regionRun; (focus rfl); (focus ((conv => lhs; reduce); done)); (focus ((conv => lhs; simp [-List.map_set, set_vnat, set_vnat1, set_vint, set_bool, hbt]); done)); refine vseg_done ?_) | (apply vw_drawPlain; (focus rfl); (focus kernel_rfl); (focus ((conv => lhs; reduce); done)); (focus ((conv => lhs; reduce); done)); (focus (kernel_rfl)); (focus ((conv => lhs; simp [-List.map_set, set_vnat, set_vnat1, set_vint, set_bool, hbt]); done)); refine vseg_done ?_))
              repeat refine vw_seqAt rfl ?_
              refine vw_drawW (St S [] [some (1, (tabCells g a).set a (.slice (lid S.nx 1) 0 g.length)), none]) (St S [] [some (1, (tabCells g a).set a (.slice (lid S.nx 1) 0 g.length)), some (1, (fill f g.length b).map V.bool)]) [] rfl (by kernel_rfl) (by conv => lhs; reduce) (by conv => lhs; reduce) (by kernel_rfl) (by kernel_rfl) (ok_St (by simp [subU, shpU, subL, shpL])) (by conv => lhs; simp [-List.map_set, set_vnat, set_vnat1, set_vint, set_bool, hlt, hat, hbt, hba, hbll, hx, hbf]) ?_
              refine vseg_write rfl (by conv => lhs; simp [-List.map_set, set_vnat, set_vnat1, set_vint, set_bool, hbt, hbf]) (ok_St (by simp [subU, shpU, subL, shpL])) ?_
              refine vseg_done ?_
              repeat (first | refine vw_seqAt rfl ?_ | refine vw_scopeAt rfl ?_ | refine vw_labelAt rfl ?_ | refine vw_skipAt rfl ?_ | refine vw_exitAt _ rfl rfl ?_ | refine vw_retAt rfl ?_ | (refine vw_condT rfl rfl ?_ ?_; focus (simp [ev, Fr.look]; done)) | (refine vw_condF rfl rfl ?_ ?_; focus (simp [ev, Fr.look]; done)) | refine vw_blockAt _ rfl rfl ?_ | (apply vw_regionRun; (focus rfl); (focus ((conv => lhs; reduce); done)); (focus ((conv => lhs; simp [-List.map_set, set_vnat, set_vnat1, set_vint, set_bool]); done)); refine vseg_done ?_) | (apply vw_drawPlain; (focus rfl); (focus kernel_rfl); (focus ((conv => lhs; reduce); done)); (focus ((conv => lhs; reduce); done)); (focus (kernel_rfl)); (focus ((conv => lhs; simp [-List.map_set, set_vnat, set_vnat1, set_vint, set_bool]); done)); refine vseg_done ?_))
              show Again _ _ _ _ _ _ _
              exact again ⟨Nat.sub_lt_sub_left hbt (Nat.lt_succ_self b), b + 1, hbt, rfl, by simp [Fr.only, Fr.look, vnat]; exact hw2, by rw [← hset]; simp⟩
          · have hbg : b = g.length := by omega
            subst hbg
            repeat refine vw_seqAt rfl ?_
            refine vw_regionRun rfl (by conv => lhs; reduce) (by conv => lhs; simp [-List.map_set, set_vnat, set_vnat1, set_vint, set_bool, hbt]) ?_
            refine vseg_done ?_
            repeat refine vw_seqAt rfl ?_
            refine vw_condF rfl rfl rfl ?_
            repeat refine vw_seqAt rfl ?_
            refine vw_exitAt 2 rfl rfl ?_
            apply vw_reach
            · exact Reach.frzCell (k := 0) (j := 1) (i := a) (n := g.length) (cells' := (G.tableRow g a).map V.bool) (by omega) (by simp) (by simp) rfl (by simp [hat]) (by rw [hrow]; simp [fill]) (all_closed1 V.bool (fun _ => rfl) _) (by simp [G.tableRow_length])
            have e := tabCells_next hlt
            simp only [List.set_cons_succ, List.set_cons_zero, List.set_set]
            rw [show V.list ((G.tableRow g a).map V.bool) = vl V.bool (G.tableRow g a) from rfl, e]
            repeat (first | refine vw_seqAt rfl ?_ | refine vw_scopeAt rfl ?_ | refine vw_labelAt rfl ?_ | refine vw_skipAt rfl ?_ | refine vw_exitAt _ rfl rfl ?_ | refine vw_retAt rfl ?_ | (refine vw_condT rfl rfl ?_ ?_; focus (simp [ev, Fr.look]; done)) | (refine vw_condF rfl rfl ?_ ?_; focus (simp [ev, Fr.look]; done)) | refine vw_blockAt _ rfl rfl ?_ | (apply vw_regionRun; (focus rfl); (focus ((conv => lhs; reduce); done)); (focus ((conv => lhs; simp [-List.map_set, set_vnat, set_vnat1, set_vint, set_bool, hw1]); done)); refine vseg_done ?_) | (apply vw_drawPlain; (focus rfl); (focus kernel_rfl); (focus ((conv => lhs; reduce); done)); (focus ((conv => lhs; reduce); done)); (focus (kernel_rfl)); (focus ((conv => lhs; simp [-List.map_set, set_vnat, set_vnat1, set_vint, set_bool, hw1]); done)); refine vseg_done ?_))
            refine again_gc [0] (by conv => lhs; simp [Fr.only]) hwf (by decide) (by simp [-List.map_set, renL_tab, idsL_tab]) (by conv => lhs; simp [-List.map_set, renL_tab, idsL_tab]) (by conv => lhs; simp [-List.map_set, renL_tab, idsL_tab]) (by conv => lhs; simp [-List.map_set, renL_tab, idsL_tab]) ⟨?_, a + 1, hlt, rfl, by simp [vnat], rfl⟩
            omega
    · repeat (first | refine vw_seqAt rfl ?_ | refine vw_scopeAt rfl ?_ | refine vw_labelAt rfl ?_ | refine vw_skipAt rfl ?_ | refine vw_exitAt _ rfl rfl ?_ | refine vw_retAt rfl ?_ | (refine vw_condT rfl rfl ?_ ?_; focus (simp [ev, Fr.look]; done)) | (refine vw_condF rfl rfl ?_ ?_; focus (simp [ev, Fr.look]; done)) | refine vw_blockAt _ rfl rfl ?_ | (apply vw_regionRun; (focus rfl); (focus ((conv => lhs; reduce); done)); (focus ((conv => lhs; simp [-List.map_set, set_vnat, set_vnat1, set_vint, set_bool, hlt]); done)); refine vseg_done ?_) | (apply vw_drawPlain; (focus rfl); (focus kernel_rfl); (focus ((conv => lhs; reduce); done)); (focus ((conv => lhs; reduce); done)); (focus (kernel_rfl)); (focus ((conv => lhs; simp [-List.map_set, set_vnat, set_vnat1, set_vint, set_bool, hlt]); done)); refine vseg_done ?_))
      have hag : a = g.length := by omega
      subst hag
      have e : tabCells g g.length = (G.table g).map (vl V.bool) := by simp [tabCells, G.table]
      rw [e]
      exact done_via hwf ((frz1 (by simp) (by rfl) (all_closed1 (vl V.bool) (fun _ => rfl) _) (by simp [G.table])).toB _) rfl
end Go.Vw
