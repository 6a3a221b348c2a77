import Derived.Test.YtmfpoangempgaaaC25
import Derived.Test.YtmfpoangempgaaaC19
import Derived.Test.YtmfpoangempgaaaProg
/-
  Part of the proof (texts SRing2, SRSmall).
-/
set_option linter.unusedVariables false
set_option linter.unusedSimpArgs false
namespace Go.Vw
open Go.Proofs Go.RowKit
set_option maxRecDepth 10000
set_option maxHeartbeats 4000000

theorem renL_repI (f : Nat → Nat) (n : Nat) (k : IntKind) (x : Int) : V.renL f (List.replicate n (V.int k x)) = List.replicate n (V.int k x) := by
  rw [renL_eq]; simp [V.ren]
theorem idsL_repI (p : Nat → Bool) (n : Nat) (k : IntKind) (x : Int) : V.idsL p (List.replicate n (V.int k x)) = true := by
  rw [idsL_eq]; simp [V.ids]
theorem rings_v (f : Ss.Fn) (g : List (List Nat)) (hgl : g.length = f.blocks.length) (hgb : g.length ≤ 4096) (hrow : ∀ r ∈ g, r.length < 2^62 ∧ ∀ k ∈ r, k < g.length) (hcode : ∀ b ∈ f.blocks, b.code.length < 2^63) :
    VPure Try.prog 59 [encFn f, vl (vl vnat) g] (.bool (Ss.rings f.blocks g)) := by
  intro S
  have hg0 : ∀ n, ∀ k ∈ g.getD n [], k < g.length := by
    intro n k hk
    by_cases h : n < g.length
    · rw [List.getD_eq_getElem?_getD, List.getElem?_eq_getElem h] at hk
      exact (hrow _ (List.getElem_mem h)).2 k hk
    · rw [List.getD_eq_getElem?_getD, List.getElem?_eq_none (by omega)] at hk
      simp at hk
  obtain ⟨q, hq⟩ := Ss.ringM_ends (tick := f.blocks.map Ss.tickB) (fuel := g.length + 1) hg0 (by omega) (List.range g.length) (List.replicate g.length 0) (by simp) (by simp)
  have hX : Ss.rings f.blocks g = q := by simp [Ss.rings, hq]
  rw [hX]
  have cw := rings1_v f g hgl (by omega) hrow hcode
  obtain ⟨⟨fi, fo⟩, ts, bs⟩ := f
  simp only at hq cw
  have hb8 : g.length * 8 ≤ 140737488355328 := by omega
  have hb0 : g.length ≤ 140737488355328 := by omega
  refine vcalls_start (c := bodyOf Try.f59) Try.func59 rfl rfl (by simp [Try.ntmps59]) ?_
  rw [Try.ntmps59]
  intro hwf
  repeat refine vw_seqAt rfl ?_
  refine vw_regionRun rfl (by conv => lhs; reduce) (by conv => lhs; simp [-List.map_set, set_vnat, set_vnat1, set_vint, set_bool]) ?_
  refine vseg_done ?_
  refine vw_ghost' 2 rfl ((refSt (k := 0) (by simp) (by rfl) (by rfl) (by simp))) (by conv => lhs; simp [Fr.set]) ?_
  simp only [List.set_cons_succ, List.set_cons_zero]
  refine vw_ghost' 3 rfl ((boxSt (k := 1) (by simp) (by rfl) (by rfl))) (by conv => lhs; simp [Fr.set]) ?_
  simp only [List.set_cons_succ, List.set_cons_zero]
  repeat (first | refine vw_seqAt rfl ?_ | refine vw_scopeAt rfl ?_ | refine vw_labelAt rfl ?_ | refine vw_skipAt rfl ?_ | refine vw_exitAt _ rfl rfl ?_ | refine vw_retAt rfl ?_ | (refine vw_condT rfl rfl ?_ ?_; focus (simp [ev, Fr.look]; done)) | (refine vw_condF rfl rfl ?_ ?_; focus (simp [ev, Fr.look]; done)) | refine vw_blockAt _ rfl rfl ?_ | (apply vw_regionRun; (focus rfl); (focus ((conv => lhs; reduce); done)); (focus ((conv => lhs; simp [-List.map_set, set_vnat, set_vnat1, set_vint, set_bool, hb8, hb0]); done)); refine vseg_done ?_) | (apply vw_drawPlain; (focus rfl); (focus kernel_rfl); (focus ((conv => lhs; reduce); done)); (focus ((conv => lhs; reduce); done)); (focus (kernel_rfl)); (focus ((conv => lhs; simp [-List.map_set, set_vnat, set_vnat1, set_vint, set_bool, hb8, hb0]); done)); refine vseg_done ?_))
  refine vw_only' [5, 6, 13, 14] (by conv => lhs; simp [Fr.only, Fr.look]) ?_
  refine vw_gc [2, 3, 4] hwf (by decide) (by simp [-List.map_set, idsL_repI, renL_repI]) (by conv => lhs; simp [-List.map_set, idsL_repI, renL_repI]) (by conv => lhs; simp [-List.map_set, idsL_repI, renL_repI]) (by conv => lhs; simp [-List.map_set, idsL_repI, renL_repI]) ?_
  repeat refine vw_seqAt rfl ?_
  refine vw_loopAt [5, 6, 13, 14] rfl (fun c σ S' => ∃ (k : Nat) (st : List Nat), k ≤ g.length ∧ c = g.length - k ∧ st.length = g.length ∧ Ss.ringM (bs.map Ss.tickB) g (g.length + 1) ((List.range g.length).drop k) st = some q ∧ σ = [(5, .ptr (lid S.nx 1) 0), (6, .ptr (lid S.nx 2) 0), (13, vnat g.length), (14, vnat k)] ∧ S' = St S [] [some (1, st.map vnat), some (1, [.slice (lid S.nx 0) 0 g.length]), some (1, [.func 74 [.ref (.agg [vl vint fi, vl vint fo, vl vint ts, vl encBlock bs]), .ptr (lid S.nx 1) 0, .ref (vl (vl vnat) g), .ptr (lid S.nx 2) 0]])]) g.length ?_ ?_
  · exact ⟨0, List.replicate g.length 0, by omega, rfl, by simp, hq, by simp [Fr.only], by simp [vnat]⟩
  · rintro c σ T ⟨k, st, hk, rfl, hsl, hm, rfl, rfl⟩
    by_cases hkt : k < g.length
    · have hw := wrapNat hkt (by omega)
      rw [List.drop_eq_getElem_cons (by simpa using hkt), List.getElem_range, Ss.ringM] at hm
      have hks : k < st.length := by omega
      obtain ⟨x, hx⟩ : ∃ x, st[k] = x := ⟨_, rfl⟩
      have hgd : st.getD k 0 = x := by simp [hks, hx]
      rw [hgd] at hm
      by_cases x0 : x = 0
      · rw [if_pos x0] at hm
        have x0' : (x : Int) = 0 := by omega
        obtain ⟨⟨b, s⟩, hwk⟩ : ∃ p, Ss.ringW (bs.map Ss.tickB) g (g.length + 1) k st = some p := by
          cases hz : Ss.ringW (bs.map Ss.tickB) g (g.length + 1) k st with
          | none => rw [hz] at hm; cases hm
          | some p => exact ⟨p, rfl⟩
        rw [hwk] at hm
        have hs2 := Ss.ringW_len _ _ _ _ _ hwk
        repeat (first | refine vw_seqAt rfl ?_ | refine vw_scopeAt rfl ?_ | refine vw_labelAt rfl ?_ | refine vw_skipAt rfl ?_ | refine vw_exitAt _ rfl rfl ?_ | refine vw_retAt rfl ?_ | (refine vw_condT rfl rfl ?_ ?_; focus (simp [ev, Fr.look]; done)) | (refine vw_condF rfl rfl ?_ ?_; focus (simp [ev, Fr.look]; done)) | refine vw_blockAt _ rfl rfl ?_ | (apply vw_regionRun; (focus rfl); (focus ((conv => lhs; reduce); done)); (focus ((conv => lhs; simp [-List.map_set, set_vnat, set_vnat1, set_vint, set_bool, hkt, hks, hx, x0, x0']); done)); refine vseg_done ?_) | (apply vw_drawPlain; (focus rfl); (focus kernel_rfl); (focus ((conv => lhs; reduce); done)); (focus ((conv => lhs; reduce); done)); (focus (kernel_rfl)); (focus ((conv => lhs; simp [-List.map_set, set_vnat, set_vnat1, set_vint, set_bool, hkt, hks, hx, x0, x0']); done)); refine vseg_done ?_))
        repeat refine vw_seqAt rfl ?_
        refine vw_regionRun rfl (by conv => lhs; reduce) (by conv => lhs; simp [-List.map_set, set_vnat, set_vnat1, set_vint, set_bool, hkt, hks, hx, x0, x0']) ?_
        refine vcallv_any rfl rfl rfl (cw (g.length + 1) k st b s _ (lid S.nx 1) (lid S.nx 0) (lid S.nx 2) hkt hsl (by simp) (by simp) (by simp) (by simp [lid]) (by simp [lid]) hwk) ?_
        rintro X S2 ⟨rfl, rfl⟩
        rw [St_upd (by simp)]
        simp only [List.set_cons_succ, List.set_cons_zero]
        by_cases hb : b = true
        · rw [hb] at hm
          simp only [Option.some.injEq] at hm
          refine vseg_more (by conv => lhs; simp [-List.map_set, set_vnat, set_vnat1, set_vint, set_bool, hb]) ?_
          refine vseg_done ?_
          repeat (first | refine vw_seqAt rfl ?_ | refine vw_scopeAt rfl ?_ | refine vw_labelAt rfl ?_ | refine vw_skipAt rfl ?_ | refine vw_exitAt _ rfl rfl ?_ | refine vw_retAt rfl ?_ | (refine vw_condT rfl rfl ?_ ?_; focus (simp [ev, Fr.look]; done)) | (refine vw_condF rfl rfl ?_ ?_; focus (simp [ev, Fr.look]; done)) | refine vw_blockAt _ rfl rfl ?_ | (apply vw_regionRun; (focus rfl); (focus ((conv => lhs; reduce); done)); (focus ((conv => lhs; simp [-List.map_set, set_vnat, set_vnat1, set_vint, set_bool]); done)); refine vseg_done ?_) | (apply vw_drawPlain; (focus rfl); (focus kernel_rfl); (focus ((conv => lhs; reduce); done)); (focus ((conv => lhs; reduce); done)); (focus (kernel_rfl)); (focus ((conv => lhs; simp [-List.map_set, set_vnat, set_vnat1, set_vint, set_bool]); done)); refine vseg_done ?_))
          exact done_pure hwf (by simp [← hm]) rfl
        · have hb' : b = false := by simpa using hb
          rw [hb'] at hm
          simp only at hm
          refine vseg_more (by conv => lhs; simp [-List.map_set, set_vnat, set_vnat1, set_vint, set_bool, hb']) ?_
          refine vseg_done ?_
          repeat (first | refine vw_seqAt rfl ?_ | refine vw_scopeAt rfl ?_ | refine vw_labelAt rfl ?_ | refine vw_skipAt rfl ?_ | refine vw_exitAt _ rfl rfl ?_ | refine vw_retAt rfl ?_ | (refine vw_condT rfl rfl ?_ ?_; focus (simp [ev, Fr.look]; done)) | (refine vw_condF rfl rfl ?_ ?_; focus (simp [ev, Fr.look]; done)) | refine vw_blockAt _ rfl rfl ?_ | (apply vw_regionRun; (focus rfl); (focus ((conv => lhs; reduce); done)); (focus ((conv => lhs; simp [-List.map_set, set_vnat, set_vnat1, set_vint, set_bool]); done)); refine vseg_done ?_) | (apply vw_drawPlain; (focus rfl); (focus kernel_rfl); (focus ((conv => lhs; reduce); done)); (focus ((conv => lhs; reduce); done)); (focus (kernel_rfl)); (focus ((conv => lhs; simp [-List.map_set, set_vnat, set_vnat1, set_vint, set_bool]); done)); refine vseg_done ?_))
          show Again _ _ _ _ _ _ _
          exact again ⟨Nat.sub_lt_sub_left hkt (Nat.lt_succ_self k), k + 1, s, hkt, rfl, by omega, hm, by simp [Fr.only, hw], rfl⟩
      · rw [if_neg x0] at hm
        have x0' : ¬ (x : Int) = 0 := by omega
        repeat (first | refine vw_seqAt rfl ?_ | refine vw_scopeAt rfl ?_ | refine vw_labelAt rfl ?_ | refine vw_skipAt rfl ?_ | refine vw_exitAt _ rfl rfl ?_ | refine vw_retAt rfl ?_ | (refine vw_condT rfl rfl ?_ ?_; focus (simp [ev, Fr.look]; done)) | (refine vw_condF rfl rfl ?_ ?_; focus (simp [ev, Fr.look]; done)) | refine vw_blockAt _ rfl rfl ?_ | (apply vw_regionRun; (focus rfl); (focus ((conv => lhs; reduce); done)); (focus ((conv => lhs; simp [-List.map_set, set_vnat, set_vnat1, set_vint, set_bool, hkt, hks, hx, x0, x0']); done)); refine vseg_done ?_) | (apply vw_drawPlain; (focus rfl); (focus kernel_rfl); (focus ((conv => lhs; reduce); done)); (focus ((conv => lhs; reduce); done)); (focus (kernel_rfl)); (focus ((conv => lhs; simp [-List.map_set, set_vnat, set_vnat1, set_vint, set_bool, hkt, hks, hx, x0, x0']); done)); refine vseg_done ?_))
        show Again _ _ _ _ _ _ _
        exact again ⟨Nat.sub_lt_sub_left hkt (Nat.lt_succ_self k), k + 1, st, hkt, rfl, hsl, hm, by simp [Fr.only, hw], rfl⟩
    · have e1 : (List.range g.length).drop k = [] := by rw [List.drop_eq_nil_iff]; simp; omega
      rw [e1, Ss.ringM] at hm
      cases hm
      repeat (first | refine vw_seqAt rfl ?_ | refine vw_scopeAt rfl ?_ | refine vw_labelAt rfl ?_ | refine vw_skipAt rfl ?_ | refine vw_exitAt _ rfl rfl ?_ | refine vw_retAt rfl ?_ | (refine vw_condT rfl rfl ?_ ?_; focus (simp [ev, Fr.look]; done)) | (refine vw_condF rfl rfl ?_ ?_; focus (simp [ev, Fr.look]; done)) | refine vw_blockAt _ rfl rfl ?_ | (apply vw_regionRun; (focus rfl); (focus ((conv => lhs; reduce); done)); (focus ((conv => lhs; simp [-List.map_set, set_vnat, set_vnat1, set_vint, set_bool, hkt]); done)); refine vseg_done ?_) | (apply vw_drawPlain; (focus rfl); (focus kernel_rfl); (focus ((conv => lhs; reduce); done)); (focus ((conv => lhs; reduce); done)); (focus (kernel_rfl)); (focus ((conv => lhs; simp [-List.map_set, set_vnat, set_vnat1, set_vint, set_bool, hkt]); done)); refine vseg_done ?_))
      exact done_pure hwf rfl rfl
end Go.Vw

namespace Go.Vw
open Go.Proofs Go.RowKit
set_option maxRecDepth 10000
set_option maxHeartbeats 8000000

theorem gt4 (n : Nat) : decide ((4096 : Int) < (n : Int)) = !decide (n ≤ 4096) := by
  by_cases h : n ≤ 4096
  · simp [h]; omega
  · simp [h]; omega

theorem RSmall_v (f : Ss.Fn) (hf : f.Fits) : VPure Try.prog 9 [encFn f] (.bool f.small) := by
  intro S
  obtain ⟨⟨fi, fo⟩, ts, bs⟩ := f
  obtain ⟨_, _, hbl0, hbf⟩ := hf
  simp only at hbl0 hbf
  have hbl : bs.length < 2^63 := by omega
  refine vcalls_start (c := bodyOf Try.f9) Try.func9 rfl rfl (by simp [Try.ntmps9]) ?_
  rw [Try.ntmps9]
  intro hwf
  by_cases h1 : (4096 : Int) < (ts.length : Int)
  · repeat (first | refine vw_seqAt rfl ?_ | refine vw_scopeAt rfl ?_ | refine vw_labelAt rfl ?_ | refine vw_skipAt rfl ?_ | refine vw_exitAt _ rfl rfl ?_ | refine vw_retAt rfl ?_ | (refine vw_condT rfl rfl ?_ ?_; focus (simp [ev, Fr.look]; done)) | (refine vw_condF rfl rfl ?_ ?_; focus (simp [ev, Fr.look]; done)) | refine vw_blockAt _ rfl rfl ?_ | (apply vw_regionRun; (focus rfl); (focus ((conv => lhs; reduce); done)); (focus ((conv => lhs; simp [-List.map_set, set_vnat, set_vnat1, set_vint, set_bool, h1]); done)); refine vseg_done ?_) | (apply vw_drawPlain; (focus rfl); (focus kernel_rfl); (focus ((conv => lhs; reduce); done)); (focus ((conv => lhs; reduce); done)); (focus (kernel_rfl)); (focus ((conv => lhs; simp [-List.map_set, set_vnat, set_vnat1, set_vint, set_bool, h1]); done)); refine vseg_done ?_))
    exact done_pure hwf (by simp [Ss.Fn.small, Ss.Fn.heads]; omega) rfl
  by_cases h2 : (4096 : Int) < (bs.length : Int)
  · repeat (first | refine vw_seqAt rfl ?_ | refine vw_scopeAt rfl ?_ | refine vw_labelAt rfl ?_ | refine vw_skipAt rfl ?_ | refine vw_exitAt _ rfl rfl ?_ | refine vw_retAt rfl ?_ | (refine vw_condT rfl rfl ?_ ?_; focus (simp [ev, Fr.look]; done)) | (refine vw_condF rfl rfl ?_ ?_; focus (simp [ev, Fr.look]; done)) | refine vw_blockAt _ rfl rfl ?_ | (apply vw_regionRun; (focus rfl); (focus ((conv => lhs; reduce); done)); (focus ((conv => lhs; simp [-List.map_set, set_vnat, set_vnat1, set_vint, set_bool, h1, h2]); done)); refine vseg_done ?_) | (apply vw_drawPlain; (focus rfl); (focus kernel_rfl); (focus ((conv => lhs; reduce); done)); (focus ((conv => lhs; reduce); done)); (focus (kernel_rfl)); (focus ((conv => lhs; simp [-List.map_set, set_vnat, set_vnat1, set_vint, set_bool, h1, h2]); done)); refine vseg_done ?_))
    exact done_pure hwf (by simp [Ss.Fn.small, Ss.Fn.heads]; omega) rfl
  by_cases h3 : (4096 : Int) < (fi.length : Int)
  · repeat (first | refine vw_seqAt rfl ?_ | refine vw_scopeAt rfl ?_ | refine vw_labelAt rfl ?_ | refine vw_skipAt rfl ?_ | refine vw_exitAt _ rfl rfl ?_ | refine vw_retAt rfl ?_ | (refine vw_condT rfl rfl ?_ ?_; focus (simp [ev, Fr.look]; done)) | (refine vw_condF rfl rfl ?_ ?_; focus (simp [ev, Fr.look]; done)) | refine vw_blockAt _ rfl rfl ?_ | (apply vw_regionRun; (focus rfl); (focus ((conv => lhs; reduce); done)); (focus ((conv => lhs; simp [-List.map_set, set_vnat, set_vnat1, set_vint, set_bool, h1, h2, h3]); done)); refine vseg_done ?_) | (apply vw_drawPlain; (focus rfl); (focus kernel_rfl); (focus ((conv => lhs; reduce); done)); (focus ((conv => lhs; reduce); done)); (focus (kernel_rfl)); (focus ((conv => lhs; simp [-List.map_set, set_vnat, set_vnat1, set_vint, set_bool, h1, h2, h3]); done)); refine vseg_done ?_))
    exact done_pure hwf (by simp [Ss.Fn.small, Ss.Fn.heads]; omega) rfl
  by_cases h4 : (4096 : Int) < (fo.length : Int)
  · repeat (first | refine vw_seqAt rfl ?_ | refine vw_scopeAt rfl ?_ | refine vw_labelAt rfl ?_ | refine vw_skipAt rfl ?_ | refine vw_exitAt _ rfl rfl ?_ | refine vw_retAt rfl ?_ | (refine vw_condT rfl rfl ?_ ?_; focus (simp [ev, Fr.look]; done)) | (refine vw_condF rfl rfl ?_ ?_; focus (simp [ev, Fr.look]; done)) | refine vw_blockAt _ rfl rfl ?_ | (apply vw_regionRun; (focus rfl); (focus ((conv => lhs; reduce); done)); (focus ((conv => lhs; simp [-List.map_set, set_vnat, set_vnat1, set_vint, set_bool, h1, h2, h3, h4]); done)); refine vseg_done ?_) | (apply vw_drawPlain; (focus rfl); (focus kernel_rfl); (focus ((conv => lhs; reduce); done)); (focus ((conv => lhs; reduce); done)); (focus (kernel_rfl)); (focus ((conv => lhs; simp [-List.map_set, set_vnat, set_vnat1, set_vint, set_bool, h1, h2, h3, h4]); done)); refine vseg_done ?_))
    exact done_pure hwf (by simp [Ss.Fn.small, Ss.Fn.heads]; omega) rfl
  have hh : Ss.Fn.small ⟨⟨fi, fo⟩, ts, bs⟩ = Ss.smallFrom 0 bs := by
    have : Ss.Fn.heads ⟨⟨fi, fo⟩, ts, bs⟩ = true := by simp [Ss.Fn.heads]; omega
    simp [Ss.Fn.small, this]
  rw [hh]
  repeat (first | refine vw_seqAt rfl ?_ | refine vw_scopeAt rfl ?_ | refine vw_labelAt rfl ?_ | refine vw_skipAt rfl ?_ | refine vw_exitAt _ rfl rfl ?_ | refine vw_retAt rfl ?_ | (refine vw_condT rfl rfl ?_ ?_; focus (simp [ev, Fr.look]; done)) | (refine vw_condF rfl rfl ?_ ?_; focus (simp [ev, Fr.look]; done)) | refine vw_blockAt _ rfl rfl ?_ | (apply vw_regionRun; (focus rfl); (focus ((conv => lhs; reduce); done)); (focus ((conv => lhs; simp [-List.map_set, set_vnat, set_vnat1, set_vint, set_bool, h1, h2, h3, h4]); done)); refine vseg_done ?_) | (apply vw_drawPlain; (focus rfl); (focus kernel_rfl); (focus ((conv => lhs; reduce); done)); (focus ((conv => lhs; reduce); done)); (focus (kernel_rfl)); (focus ((conv => lhs; simp [-List.map_set, set_vnat, set_vnat1, set_vint, set_bool, h1, h2, h3, h4]); done)); refine vseg_done ?_))
  repeat refine vw_seqAt rfl ?_
  refine vw_loopAt [1, 3, 4] rfl (fun c σ S' => ∃ (k n : Nat), k ≤ bs.length ∧ n ≤ 4096 ∧ c = bs.length - k ∧ Ss.smallFrom n (bs.drop k) = Ss.smallFrom 0 bs ∧ σ = [(1, .ptr (lid S.nx 0) 0), (3, vnat n), (4, vnat k)] ∧ S' = St S [] [some (4, [vl vint fi, vl vint fo, vl vint ts, vl encBlock bs])]) bs.length ?_ ?_
  · exact ⟨0, 0, by omega, by omega, rfl, rfl, by simp [Fr.only], rfl⟩
  · rintro c σ T ⟨k, n, hk, hn, rfl, hd, rfl, rfl⟩
    by_cases hkt : k < bs.length
    · have hw := wrapNat hkt hbl
      have hbk := hbf _ (List.getElem_mem hkt)
      have hst := Ss.drop_small (n := n) hkt
      obtain ⟨⟨ps, code, ⟨tk, ta, to, az⟩⟩, hb⟩ : ∃ b, bs[k] = b := ⟨_, rfl⟩
      rw [hb] at hst hbk
      obtain ⟨_, ⟨hcl0, _⟩, _, _, ⟨htl0, _⟩, _⟩ := hbk
      simp only at hcl0 htl0
      have hcl : code.length < 2^63 := by omega
      have htl : to.length < 2^63 := by omega
      have hwn : IntKind.i64.wrap ((n : Int) + (code.length : Int)) = (n : Int) + (code.length : Int) := wrap_i64 (by omega) (by omega)
      have hS : Ss.Block.small ⟨ps, code, ⟨tk, ta, to, az⟩⟩ = (decide (ps.length ≤ 4096) && decide (to.length ≤ 4096) && decide (az.length ≤ 4096) && code.all Ss.Ins.small && to.all Ss.Edge.small) := rfl
      by_cases g1 : (4096 : Int) < (n : Int) + (code.length : Int)
      · have e : Ss.smallFrom n (bs.drop k) = false := by rw [hst]; simp; omega
        rw [← hd, e]
        repeat (first | refine vw_seqAt rfl ?_ | refine vw_scopeAt rfl ?_ | refine vw_labelAt rfl ?_ | refine vw_skipAt rfl ?_ | refine vw_exitAt _ rfl rfl ?_ | refine vw_retAt rfl ?_ | (refine vw_condT rfl rfl ?_ ?_; focus (simp [ev, Fr.look]; done)) | (refine vw_condF rfl rfl ?_ ?_; focus (simp [ev, Fr.look]; done)) | refine vw_blockAt _ rfl rfl ?_ | (apply vw_regionRun; (focus rfl); (focus ((conv => lhs; reduce); done)); (focus ((conv => lhs; simp [-List.map_set, set_vnat, set_vnat1, set_vint, set_bool, hkt, hb, hwn, g1]); done)); refine vseg_done ?_) | (apply vw_drawPlain; (focus rfl); (focus kernel_rfl); (focus ((conv => lhs; reduce); done)); (focus ((conv => lhs; reduce); done)); (focus (kernel_rfl)); (focus ((conv => lhs; simp [-List.map_set, set_vnat, set_vnat1, set_vint, set_bool, hkt, hb, hwn, g1]); done)); refine vseg_done ?_))
        exact done_pure hwf rfl rfl
      by_cases g2 : (4096 : Int) < (ps.length : Int)
      · have e : Ss.smallFrom n (bs.drop k) = false := by rw [hst, hS]; simp; omega
        rw [← hd, e]
        repeat (first | refine vw_seqAt rfl ?_ | refine vw_scopeAt rfl ?_ | refine vw_labelAt rfl ?_ | refine vw_skipAt rfl ?_ | refine vw_exitAt _ rfl rfl ?_ | refine vw_retAt rfl ?_ | (refine vw_condT rfl rfl ?_ ?_; focus (simp [ev, Fr.look]; done)) | (refine vw_condF rfl rfl ?_ ?_; focus (simp [ev, Fr.look]; done)) | refine vw_blockAt _ rfl rfl ?_ | (apply vw_regionRun; (focus rfl); (focus ((conv => lhs; reduce); done)); (focus ((conv => lhs; simp [-List.map_set, set_vnat, set_vnat1, set_vint, set_bool, hkt, hb, hwn, g1, g2]); done)); refine vseg_done ?_) | (apply vw_drawPlain; (focus rfl); (focus kernel_rfl); (focus ((conv => lhs; reduce); done)); (focus ((conv => lhs; reduce); done)); (focus (kernel_rfl)); (focus ((conv => lhs; simp [-List.map_set, set_vnat, set_vnat1, set_vint, set_bool, hkt, hb, hwn, g1, g2]); done)); refine vseg_done ?_))
        exact done_pure hwf rfl rfl
      by_cases g3 : (4096 : Int) < (to.length : Int)
      · have e : Ss.smallFrom n (bs.drop k) = false := by rw [hst, hS]; simp; omega
        rw [← hd, e]
        repeat (first | refine vw_seqAt rfl ?_ | refine vw_scopeAt rfl ?_ | refine vw_labelAt rfl ?_ | refine vw_skipAt rfl ?_ | refine vw_exitAt _ rfl rfl ?_ | refine vw_retAt rfl ?_ | (refine vw_condT rfl rfl ?_ ?_; focus (simp [ev, Fr.look]; done)) | (refine vw_condF rfl rfl ?_ ?_; focus (simp [ev, Fr.look]; done)) | refine vw_blockAt _ rfl rfl ?_ | (apply vw_regionRun; (focus rfl); (focus ((conv => lhs; reduce); done)); (focus ((conv => lhs; simp [-List.map_set, set_vnat, set_vnat1, set_vint, set_bool, hkt, hb, hwn, g1, g2, g3]); done)); refine vseg_done ?_) | (apply vw_drawPlain; (focus rfl); (focus kernel_rfl); (focus ((conv => lhs; reduce); done)); (focus ((conv => lhs; reduce); done)); (focus (kernel_rfl)); (focus ((conv => lhs; simp [-List.map_set, set_vnat, set_vnat1, set_vint, set_bool, hkt, hb, hwn, g1, g2, g3]); done)); refine vseg_done ?_))
        exact done_pure hwf rfl rfl
      by_cases g4 : (4096 : Int) < (az.length : Int)
      · have e : Ss.smallFrom n (bs.drop k) = false := by rw [hst, hS]; simp; omega
        rw [← hd, e]
        repeat (first | refine vw_seqAt rfl ?_ | refine vw_scopeAt rfl ?_ | refine vw_labelAt rfl ?_ | refine vw_skipAt rfl ?_ | refine vw_exitAt _ rfl rfl ?_ | refine vw_retAt rfl ?_ | (refine vw_condT rfl rfl ?_ ?_; focus (simp [ev, Fr.look]; done)) | (refine vw_condF rfl rfl ?_ ?_; focus (simp [ev, Fr.look]; done)) | refine vw_blockAt _ rfl rfl ?_ | (apply vw_regionRun; (focus rfl); (focus ((conv => lhs; reduce); done)); (focus ((conv => lhs; simp [-List.map_set, set_vnat, set_vnat1, set_vint, set_bool, hkt, hb, hwn, g1, g2, g3, g4]); done)); refine vseg_done ?_) | (apply vw_drawPlain; (focus rfl); (focus kernel_rfl); (focus ((conv => lhs; reduce); done)); (focus ((conv => lhs; reduce); done)); (focus (kernel_rfl)); (focus ((conv => lhs; simp [-List.map_set, set_vnat, set_vnat1, set_vint, set_bool, hkt, hb, hwn, g1, g2, g3, g4]); done)); refine vseg_done ?_))
        exact done_pure hwf rfl rfl
      rw [show decide (n + code.length ≤ 4096) = true by simp; omega, hS, show decide (ps.length ≤ 4096) = true by simp; omega, show decide (to.length ≤ 4096) = true by simp; omega, show decide (az.length ≤ 4096) = true by simp; omega, Bool.true_and, Bool.true_and, Bool.true_and, Bool.true_and] at hst
      repeat (first | refine vw_seqAt rfl ?_ | refine vw_scopeAt rfl ?_ | refine vw_labelAt rfl ?_ | refine vw_skipAt rfl ?_ | refine vw_exitAt _ rfl rfl ?_ | refine vw_retAt rfl ?_ | (refine vw_condT rfl rfl ?_ ?_; focus (simp [ev, Fr.look]; done)) | (refine vw_condF rfl rfl ?_ ?_; focus (simp [ev, Fr.look]; done)) | refine vw_blockAt _ rfl rfl ?_ | (apply vw_regionRun; (focus rfl); (focus ((conv => lhs; reduce); done)); (focus ((conv => lhs; simp [-List.map_set, set_vnat, set_vnat1, set_vint, set_bool, hkt, hb, hwn, g1, g2, g3, g4]); done)); refine vseg_done ?_) | (apply vw_drawPlain; (focus rfl); (focus kernel_rfl); (focus ((conv => lhs; reduce); done)); (focus ((conv => lhs; reduce); done)); (focus (kernel_rfl)); (focus ((conv => lhs; simp [-List.map_set, set_vnat, set_vnat1, set_vint, set_bool, hkt, hb, hwn, g1, g2, g3, g4]); done)); refine vseg_done ?_))
      repeat refine vw_seqAt rfl ?_
      refine vw_loopAt [1, 3, 4, 5, 6] rfl (fun c σ S' => ∃ (j : Nat), j ≤ code.length ∧ c = code.length - j ∧ (code.drop j).all Ss.Ins.small = code.all Ss.Ins.small ∧ σ = [(1, .ptr (lid S.nx 0) 0), (3, vnat (n + code.length)), (4, vnat k), (5, .ptr (lid S.nx 1) 0), (6, vnat j)] ∧ S' = St S [] [some (4, [vl vint fi, vl vint fo, vl vint ts, vl encBlock bs]), some (6, [vl vint ps, vl encIns code, vint tk, vint ta, vl encEdge to, vl vint az])]) code.length ?_ ?_
      · exact ⟨0, by omega, rfl, rfl, by simp [Fr.only], rfl⟩
      · rintro c σ T ⟨j, hj, rfl, hdj, rfl, rfl⟩
        by_cases hjt : j < code.length
        · have hwj := wrapNat hjt hcl
          have hstj := Ss.drop_all Ss.Ins.small hjt
          obtain ⟨⟨io, iN, ia, iu⟩, hx⟩ : ∃ b, code[j] = b := ⟨_, rfl⟩
          rw [hx] at hstj
          have hX : Ss.Ins.small ⟨io, iN, ia, iu⟩ = (decide (ia.length ≤ 4096) && decide (iu.length ≤ 4096)) := rfl
          by_cases q1 : (4096 : Int) < (ia.length : Int)
          · have e : code.all Ss.Ins.small = false := by rw [← hdj, hstj, hX]; simp; omega
            rw [← hd, hst, e]
            repeat (first | refine vw_seqAt rfl ?_ | refine vw_scopeAt rfl ?_ | refine vw_labelAt rfl ?_ | refine vw_skipAt rfl ?_ | refine vw_exitAt _ rfl rfl ?_ | refine vw_retAt rfl ?_ | (refine vw_condT rfl rfl ?_ ?_; focus (simp [ev, Fr.look]; done)) | (refine vw_condF rfl rfl ?_ ?_; focus (simp [ev, Fr.look]; done)) | refine vw_blockAt _ rfl rfl ?_ | (apply vw_regionRun; (focus rfl); (focus ((conv => lhs; reduce); done)); (focus ((conv => lhs; simp [-List.map_set, set_vnat, set_vnat1, set_vint, set_bool, hjt, hx, q1]); done)); refine vseg_done ?_) | (apply vw_drawPlain; (focus rfl); (focus kernel_rfl); (focus ((conv => lhs; reduce); done)); (focus ((conv => lhs; reduce); done)); (focus (kernel_rfl)); (focus ((conv => lhs; simp [-List.map_set, set_vnat, set_vnat1, set_vint, set_bool, hjt, hx, q1]); done)); refine vseg_done ?_))
            exact done_pure hwf rfl rfl
          by_cases q2 : (4096 : Int) < (iu.length : Int)
          · have e : code.all Ss.Ins.small = false := by rw [← hdj, hstj, hX]; simp; omega
            rw [← hd, hst, e]
            repeat (first | refine vw_seqAt rfl ?_ | refine vw_scopeAt rfl ?_ | refine vw_labelAt rfl ?_ | refine vw_skipAt rfl ?_ | refine vw_exitAt _ rfl rfl ?_ | refine vw_retAt rfl ?_ | (refine vw_condT rfl rfl ?_ ?_; focus (simp [ev, Fr.look]; done)) | (refine vw_condF rfl rfl ?_ ?_; focus (simp [ev, Fr.look]; done)) | refine vw_blockAt _ rfl rfl ?_ | (apply vw_regionRun; (focus rfl); (focus ((conv => lhs; reduce); done)); (focus ((conv => lhs; simp [-List.map_set, set_vnat, set_vnat1, set_vint, set_bool, hjt, hx, q1, q2]); done)); refine vseg_done ?_) | (apply vw_drawPlain; (focus rfl); (focus kernel_rfl); (focus ((conv => lhs; reduce); done)); (focus ((conv => lhs; reduce); done)); (focus (kernel_rfl)); (focus ((conv => lhs; simp [-List.map_set, set_vnat, set_vnat1, set_vint, set_bool, hjt, hx, q1, q2]); done)); refine vseg_done ?_))
            exact done_pure hwf rfl rfl
          rw [hX, show decide (ia.length ≤ 4096) = true by simp; omega, show decide (iu.length ≤ 4096) = true by simp; omega, Bool.true_and, Bool.true_and] at hstj
          repeat (first | refine vw_seqAt rfl ?_ | refine vw_scopeAt rfl ?_ | refine vw_labelAt rfl ?_ | refine vw_skipAt rfl ?_ | refine vw_exitAt _ rfl rfl ?_ | refine vw_retAt rfl ?_ | (refine vw_condT rfl rfl ?_ ?_; focus (simp [ev, Fr.look]; done)) | (refine vw_condF rfl rfl ?_ ?_; focus (simp [ev, Fr.look]; done)) | refine vw_blockAt _ rfl rfl ?_ | (apply vw_regionRun; (focus rfl); (focus ((conv => lhs; reduce); done)); (focus ((conv => lhs; simp [-List.map_set, set_vnat, set_vnat1, set_vint, set_bool, hjt, hx, q1, q2]); done)); refine vseg_done ?_) | (apply vw_drawPlain; (focus rfl); (focus kernel_rfl); (focus ((conv => lhs; reduce); done)); (focus ((conv => lhs; reduce); done)); (focus (kernel_rfl)); (focus ((conv => lhs; simp [-List.map_set, set_vnat, set_vnat1, set_vint, set_bool, hjt, hx, q1, q2]); done)); refine vseg_done ?_))
          show Again _ _ _ _ _ _ _
          exact again ⟨Nat.sub_lt_sub_left hjt (Nat.lt_succ_self j), j + 1, hjt, rfl, by rw [← hdj, hstj], by simp [Fr.only, hwj], rfl⟩
        · rw [Ss.drop_all_end _ hjt] at hdj
          rw [← hdj, Bool.true_and] at hst
          repeat (first | refine vw_seqAt rfl ?_ | refine vw_scopeAt rfl ?_ | refine vw_labelAt rfl ?_ | refine vw_skipAt rfl ?_ | refine vw_exitAt _ rfl rfl ?_ | refine vw_retAt rfl ?_ | (refine vw_condT rfl rfl ?_ ?_; focus (simp [ev, Fr.look]; done)) | (refine vw_condF rfl rfl ?_ ?_; focus (simp [ev, Fr.look]; done)) | refine vw_blockAt _ rfl rfl ?_ | (apply vw_regionRun; (focus rfl); (focus ((conv => lhs; reduce); done)); (focus ((conv => lhs; simp [-List.map_set, set_vnat, set_vnat1, set_vint, set_bool, hjt]); done)); refine vseg_done ?_) | (apply vw_drawPlain; (focus rfl); (focus kernel_rfl); (focus ((conv => lhs; reduce); done)); (focus ((conv => lhs; reduce); done)); (focus (kernel_rfl)); (focus ((conv => lhs; simp [-List.map_set, set_vnat, set_vnat1, set_vint, set_bool, hjt]); done)); refine vseg_done ?_))
          repeat refine vw_seqAt rfl ?_
          refine vw_loopAt [1, 3, 4, 5, 7] rfl (fun c σ S' => ∃ (j : Nat), j ≤ to.length ∧ c = to.length - j ∧ (to.drop j).all Ss.Edge.small = to.all Ss.Edge.small ∧ σ = [(1, .ptr (lid S.nx 0) 0), (3, vnat (n + code.length)), (4, vnat k), (5, .ptr (lid S.nx 1) 0), (7, vnat j)] ∧ S' = St S [] [some (4, [vl vint fi, vl vint fo, vl vint ts, vl encBlock bs]), some (6, [vl vint ps, vl encIns code, vint tk, vint ta, vl encEdge to, vl vint az])]) to.length ?_ ?_
          · exact ⟨0, by omega, rfl, rfl, by simp [Fr.only], rfl⟩
          · rintro c σ T ⟨j, hj, rfl, hdj, rfl, rfl⟩
            by_cases hjt : j < to.length
            · have hwj := wrapNat hjt htl
              have hstj := Ss.drop_all Ss.Edge.small hjt
              obtain ⟨⟨io, ia⟩, hx⟩ : ∃ b, to[j] = b := ⟨_, rfl⟩
              rw [hx] at hstj
              have hX : Ss.Edge.small ⟨io, ia⟩ = decide (ia.length ≤ 4096) := rfl
              by_cases q1 : (4096 : Int) < (ia.length : Int)
              · have e : to.all Ss.Edge.small = false := by rw [← hdj, hstj, hX]; simp; omega
                rw [← hd, hst, e]
                repeat (first | refine vw_seqAt rfl ?_ | refine vw_scopeAt rfl ?_ | refine vw_labelAt rfl ?_ | refine vw_skipAt rfl ?_ | refine vw_exitAt _ rfl rfl ?_ | refine vw_retAt rfl ?_ | (refine vw_condT rfl rfl ?_ ?_; focus (simp [ev, Fr.look]; done)) | (refine vw_condF rfl rfl ?_ ?_; focus (simp [ev, Fr.look]; done)) | refine vw_blockAt _ rfl rfl ?_ | (apply vw_regionRun; (focus rfl); (focus ((conv => lhs; reduce); done)); (focus ((conv => lhs; simp [-List.map_set, set_vnat, set_vnat1, set_vint, set_bool, hjt, hx, q1]); done)); refine vseg_done ?_) | (apply vw_drawPlain; (focus rfl); (focus kernel_rfl); (focus ((conv => lhs; reduce); done)); (focus ((conv => lhs; reduce); done)); (focus (kernel_rfl)); (focus ((conv => lhs; simp [-List.map_set, set_vnat, set_vnat1, set_vint, set_bool, hjt, hx, q1]); done)); refine vseg_done ?_))
                exact done_pure hwf rfl rfl
              rw [hX, show decide (ia.length ≤ 4096) = true by simp; omega, Bool.true_and] at hstj
              repeat (first | refine vw_seqAt rfl ?_ | refine vw_scopeAt rfl ?_ | refine vw_labelAt rfl ?_ | refine vw_skipAt rfl ?_ | refine vw_exitAt _ rfl rfl ?_ | refine vw_retAt rfl ?_ | (refine vw_condT rfl rfl ?_ ?_; focus (simp [ev, Fr.look]; done)) | (refine vw_condF rfl rfl ?_ ?_; focus (simp [ev, Fr.look]; done)) | refine vw_blockAt _ rfl rfl ?_ | (apply vw_regionRun; (focus rfl); (focus ((conv => lhs; reduce); done)); (focus ((conv => lhs; simp [-List.map_set, set_vnat, set_vnat1, set_vint, set_bool, hjt, hx, q1]); done)); refine vseg_done ?_) | (apply vw_drawPlain; (focus rfl); (focus kernel_rfl); (focus ((conv => lhs; reduce); done)); (focus ((conv => lhs; reduce); done)); (focus (kernel_rfl)); (focus ((conv => lhs; simp [-List.map_set, set_vnat, set_vnat1, set_vint, set_bool, hjt, hx, q1]); done)); refine vseg_done ?_))
              show Again _ _ _ _ _ _ _
              exact again ⟨Nat.sub_lt_sub_left hjt (Nat.lt_succ_self j), j + 1, hjt, rfl, by rw [← hdj, hstj], by simp [Fr.only, hwj], rfl⟩
            · rw [Ss.drop_all_end _ hjt] at hdj
              rw [← hdj, Bool.true_and] at hst
              repeat (first | refine vw_seqAt rfl ?_ | refine vw_scopeAt rfl ?_ | refine vw_labelAt rfl ?_ | refine vw_skipAt rfl ?_ | refine vw_exitAt _ rfl rfl ?_ | refine vw_retAt rfl ?_ | (refine vw_condT rfl rfl ?_ ?_; focus (simp [ev, Fr.look]; done)) | (refine vw_condF rfl rfl ?_ ?_; focus (simp [ev, Fr.look]; done)) | refine vw_blockAt _ rfl rfl ?_ | (apply vw_regionRun; (focus rfl); (focus ((conv => lhs; reduce); done)); (focus ((conv => lhs; simp [-List.map_set, set_vnat, set_vnat1, set_vint, set_bool, hjt, hw]); done)); refine vseg_done ?_) | (apply vw_drawPlain; (focus rfl); (focus kernel_rfl); (focus ((conv => lhs; reduce); done)); (focus ((conv => lhs; reduce); done)); (focus (kernel_rfl)); (focus ((conv => lhs; simp [-List.map_set, set_vnat, set_vnat1, set_vint, set_bool, hjt, hw]); done)); refine vseg_done ?_))
              refine again_gc [0] (by conv => lhs; simp [Fr.only]) hwf (by decide) (by simp [-List.map_set]) (by conv => lhs; simp [-List.map_set]) (by conv => lhs; simp [-List.map_set]) (by conv => lhs; simp [-List.map_set]) ⟨?_, k + 1, n + code.length, hkt, by omega, rfl, by rw [← hd, hst], by simp, rfl⟩
              omega
    · rw [Ss.drop_small_end hkt] at hd
      rw [← hd]
      repeat (first | refine vw_seqAt rfl ?_ | refine vw_scopeAt rfl ?_ | refine vw_labelAt rfl ?_ | refine vw_skipAt rfl ?_ | refine vw_exitAt _ rfl rfl ?_ | refine vw_retAt rfl ?_ | (refine vw_condT rfl rfl ?_ ?_; focus (simp [ev, Fr.look]; done)) | (refine vw_condF rfl rfl ?_ ?_; focus (simp [ev, Fr.look]; done)) | refine vw_blockAt _ rfl rfl ?_ | (apply vw_regionRun; (focus rfl); (focus ((conv => lhs; reduce); done)); (focus ((conv => lhs; simp [-List.map_set, set_vnat, set_vnat1, set_vint, set_bool, hkt]); done)); refine vseg_done ?_) | (apply vw_drawPlain; (focus rfl); (focus kernel_rfl); (focus ((conv => lhs; reduce); done)); (focus ((conv => lhs; reduce); done)); (focus (kernel_rfl)); (focus ((conv => lhs; simp [-List.map_set, set_vnat, set_vnat1, set_vint, set_bool, hkt]); done)); refine vseg_done ?_))
      exact done_pure hwf rfl rfl
end Go.Vw
