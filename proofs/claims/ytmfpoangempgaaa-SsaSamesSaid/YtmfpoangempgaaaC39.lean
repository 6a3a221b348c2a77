import Derived.Test.YtmfpoangempgaaaC38
import Derived.Test.YtmfpoangempgaaaC21
import Derived.Test.YtmfpoangempgaaaC37
/-
  Part of the proof (texts SRSame2, SLSames).
-/
set_option linter.unusedVariables false
set_option linter.unusedSimpArgs false
namespace Go.Vw
open Go.Proofs Go.RowKit
set_option maxRecDepth 10000
set_option maxHeartbeats 4000000

theorem RSame_v (f g : Ss.Fn) (hf : f.Fits) (hg : g.Fits) : VPure Try.prog 8 [encFn f, encFn g] (.bool (f.small && g.small && decide (f = g))) := by
  intro S
  have cf := RSmall_v f hf
  have cg := RSmall_v g hg
  obtain ⟨⟨⟨f1, _⟩, ⟨f2, _⟩⟩, ⟨f3, _⟩, ⟨f4, f5⟩⟩ := hf
  generalize f.small = sf at *
  generalize g.small = sg at *
  obtain ⟨⟨a1, a2⟩, a3, a4⟩ := f
  obtain ⟨⟨b1, b2⟩, b3, b4⟩ := g
  simp only at f1 f2 f3 f4 f5
  simp only [Ss.Fn.mk.injEq]
  have cf' : VPure Try.prog 9 [.agg [vl vint a1, vl vint a2, vl vint a3, vl encBlock a4]] (.bool sf) := cf
  have cg' : VPure Try.prog 9 [.agg [vl vint b1, vl vint b2, vl vint b3, vl encBlock b4]] (.bool sg) := cg
  have cs : VPure Try.prog 20 [.agg [vl vint a1, vl vint a2], .agg [vl vint b1, vl vint b2]] (.bool (decide ((⟨a1, a2⟩ : Ss.Sig) = ⟨b1, b2⟩))) := SameSig_v ⟨a1, a2⟩ ⟨b1, b2⟩ (Nat.lt_of_le_of_lt f1 (by decide)) (Nat.lt_of_le_of_lt f2 (by decide))
  have g3 : a3.length < 2^63 := by omega
  have g4 : a4.length < 2^63 := by omega
  generalize hX : (sf && sg && decide ((⟨a1, a2⟩ : Ss.Sig) = ⟨b1, b2⟩ ∧ a3 = b3 ∧ a4 = b4)) = X
  generalize hse : decide ((⟨a1, a2⟩ : Ss.Sig) = ⟨b1, b2⟩) = se at cs
  refine vcalls_start (c := bodyOf Try.f8) Try.func8 rfl rfl (by simp [Try.ntmps8]) ?_
  rw [Try.ntmps8]
  intro hwf
  repeat (first | refine vw_seqAt rfl ?_ | refine vw_scopeAt rfl ?_ | refine vw_labelAt rfl ?_ | refine vw_skipAt rfl ?_ | refine vw_exitAt _ rfl rfl ?_ | refine vw_retAt rfl ?_ | (refine vw_condT rfl rfl ?_ ?_; focus (simp [ev, Fr.look]; done)) | (refine vw_condF rfl rfl ?_ ?_; focus (simp [ev, Fr.look]; done)) | refine vw_blockAt _ rfl rfl ?_ | (apply vw_regionRun; (focus rfl); (focus ((conv => lhs; reduce); done)); (focus ((conv => lhs; simp [-List.map_set, set_vnat, set_vnat1, set_vint, set_bool]); done)); refine vseg_done ?_) | (apply vw_drawPlain; (focus rfl); (focus kernel_rfl); (focus ((conv => lhs; reduce); done)); (focus ((conv => lhs; reduce); done)); (focus (kernel_rfl)); (focus ((conv => lhs; simp [-List.map_set, set_vnat, set_vnat1, set_vint, set_bool]); done)); refine vseg_done ?_))
  repeat refine vw_seqAt rfl ?_
  refine vw_regionRun rfl (by conv => lhs; reduce) (by conv => lhs; simp [-List.map_set, set_vnat, set_vnat1, set_vint, set_bool]) ?_
  refine vcall_useH (cf') (by rfl) ?_
  by_cases hsf : sf = true
  case neg =>
    have hsf' : sf = false := by simpa using hsf
    refine vseg_more (by conv => lhs; simp [-List.map_set, set_vnat, set_vnat1, set_vint, set_bool, hsf']) ?_
    refine vseg_done ?_
    repeat (first | refine vw_seqAt rfl ?_ | refine vw_scopeAt rfl ?_ | refine vw_labelAt rfl ?_ | refine vw_skipAt rfl ?_ | refine vw_exitAt _ rfl rfl ?_ | refine vw_retAt rfl ?_ | (refine vw_condT rfl rfl ?_ ?_; focus (simp [ev, Fr.look]; done)) | (refine vw_condF rfl rfl ?_ ?_; focus (simp [ev, Fr.look]; done)) | refine vw_blockAt _ rfl rfl ?_ | (apply vw_regionRun; (focus rfl); (focus ((conv => lhs; reduce); done)); (focus ((conv => lhs; simp [-List.map_set, set_vnat, set_vnat1, set_vint, set_bool]); done)); refine vseg_done ?_) | (apply vw_drawPlain; (focus rfl); (focus kernel_rfl); (focus ((conv => lhs; reduce); done)); (focus ((conv => lhs; reduce); done)); (focus (kernel_rfl)); (focus ((conv => lhs; simp [-List.map_set, set_vnat, set_vnat1, set_vint, set_bool]); done)); refine vseg_done ?_))
    exact done_pure hwf (by simp [← hX, hsf']) rfl
  refine vseg_more (by conv => lhs; simp [-List.map_set, set_vnat, set_vnat1, set_vint, set_bool, hsf]) ?_
  refine vcall_useH (cg') (by rfl) ?_
  by_cases hsg : sg = true
  case neg =>
    have hsg' : sg = false := by simpa using hsg
    refine vseg_more (by conv => lhs; simp [-List.map_set, set_vnat, set_vnat1, set_vint, set_bool, hsg']) ?_
    refine vseg_done ?_
    repeat (first | refine vw_seqAt rfl ?_ | refine vw_scopeAt rfl ?_ | refine vw_labelAt rfl ?_ | refine vw_skipAt rfl ?_ | refine vw_exitAt _ rfl rfl ?_ | refine vw_retAt rfl ?_ | (refine vw_condT rfl rfl ?_ ?_; focus (simp [ev, Fr.look]; done)) | (refine vw_condF rfl rfl ?_ ?_; focus (simp [ev, Fr.look]; done)) | refine vw_blockAt _ rfl rfl ?_ | (apply vw_regionRun; (focus rfl); (focus ((conv => lhs; reduce); done)); (focus ((conv => lhs; simp [-List.map_set, set_vnat, set_vnat1, set_vint, set_bool]); done)); refine vseg_done ?_) | (apply vw_drawPlain; (focus rfl); (focus kernel_rfl); (focus ((conv => lhs; reduce); done)); (focus ((conv => lhs; reduce); done)); (focus (kernel_rfl)); (focus ((conv => lhs; simp [-List.map_set, set_vnat, set_vnat1, set_vint, set_bool]); done)); refine vseg_done ?_))
    exact done_pure hwf (by simp [← hX, hsf, hsg']) rfl
  refine vseg_more (by conv => lhs; simp [-List.map_set, set_vnat, set_vnat1, set_vint, set_bool, hsg]) ?_
  refine vcall_useH (cs) (by rfl) ?_
  by_cases hs : se = true
  case neg =>
    have hs' : se = false := by simpa using hs
    have hne : ¬ ((⟨a1, a2⟩ : Ss.Sig) = ⟨b1, b2⟩) := by rw [hs'] at hse; simpa using hse
    have hX' : X = false := by rw [← hX]; simp only [decide_eq_false (fun h : _ ∧ _ ∧ _ => hne h.1)]; simp
    refine vseg_more (by conv => lhs; simp [-List.map_set, set_vnat, set_vnat1, set_vint, set_bool, hs']) ?_
    refine vseg_done ?_
    repeat (first | refine vw_seqAt rfl ?_ | refine vw_scopeAt rfl ?_ | refine vw_labelAt rfl ?_ | refine vw_skipAt rfl ?_ | refine vw_exitAt _ rfl rfl ?_ | refine vw_retAt rfl ?_ | (refine vw_condT rfl rfl ?_ ?_; focus (simp [ev, Fr.look]; done)) | (refine vw_condF rfl rfl ?_ ?_; focus (simp [ev, Fr.look]; done)) | refine vw_blockAt _ rfl rfl ?_ | (apply vw_regionRun; (focus rfl); (focus ((conv => lhs; reduce); done)); (focus ((conv => lhs; simp [-List.map_set, set_vnat, set_vnat1, set_vint, set_bool]); done)); refine vseg_done ?_) | (apply vw_drawPlain; (focus rfl); (focus kernel_rfl); (focus ((conv => lhs; reduce); done)); (focus ((conv => lhs; reduce); done)); (focus (kernel_rfl)); (focus ((conv => lhs; simp [-List.map_set, set_vnat, set_vnat1, set_vint, set_bool]); done)); refine vseg_done ?_))
    exact done_pure hwf (by simp [hX']) rfl
  have hse' : (⟨a1, a2⟩ : Ss.Sig) = ⟨b1, b2⟩ := by rw [hs] at hse; simpa using hse
  refine vseg_more (by conv => lhs; simp [-List.map_set, set_vnat, set_vnat1, set_vint, set_bool, hs]) ?_
  refine vcall_useH (WInts_v a3 b3 g3) (by rfl) ?_
  by_cases h3 : a3 = b3
  case neg =>
    have hX' : X = false := by rw [← hX]; simp only [decide_eq_false (fun h : _ ∧ _ ∧ _ => h3 h.2.1)]; simp
    refine vseg_more (by conv => lhs; simp [-List.map_set, set_vnat, set_vnat1, set_vint, set_bool, h3]) ?_
    refine vseg_done ?_
    repeat (first | refine vw_seqAt rfl ?_ | refine vw_scopeAt rfl ?_ | refine vw_labelAt rfl ?_ | refine vw_skipAt rfl ?_ | refine vw_exitAt _ rfl rfl ?_ | refine vw_retAt rfl ?_ | (refine vw_condT rfl rfl ?_ ?_; focus (simp [ev, Fr.look]; done)) | (refine vw_condF rfl rfl ?_ ?_; focus (simp [ev, Fr.look]; done)) | refine vw_blockAt _ rfl rfl ?_ | (apply vw_regionRun; (focus rfl); (focus ((conv => lhs; reduce); done)); (focus ((conv => lhs; simp [-List.map_set, set_vnat, set_vnat1, set_vint, set_bool]); done)); refine vseg_done ?_) | (apply vw_drawPlain; (focus rfl); (focus kernel_rfl); (focus ((conv => lhs; reduce); done)); (focus ((conv => lhs; reduce); done)); (focus (kernel_rfl)); (focus ((conv => lhs; simp [-List.map_set, set_vnat, set_vnat1, set_vint, set_bool]); done)); refine vseg_done ?_))
    exact done_pure hwf (by simp [hX']) rfl
  by_cases hlm : a4.length = b4.length
  case neg =>
    have hlm' : ¬ (a4.length : Int) = (b4.length : Int) := by omega
    have hne : ¬ a4 = b4 := by rintro rfl; exact hlm rfl
    have hX' : X = false := by rw [← hX]; simp only [decide_eq_false (fun h : _ ∧ _ ∧ _ => hne h.2.2)]; simp
    refine vseg_more (by conv => lhs; simp [-List.map_set, set_vnat, set_vnat1, set_vint, set_bool, h3, hlm, hlm']) ?_
    refine vseg_done ?_
    repeat (first | refine vw_seqAt rfl ?_ | refine vw_scopeAt rfl ?_ | refine vw_labelAt rfl ?_ | refine vw_skipAt rfl ?_ | refine vw_exitAt _ rfl rfl ?_ | refine vw_retAt rfl ?_ | (refine vw_condT rfl rfl ?_ ?_; focus (simp [ev, Fr.look]; done)) | (refine vw_condF rfl rfl ?_ ?_; focus (simp [ev, Fr.look]; done)) | refine vw_blockAt _ rfl rfl ?_ | (apply vw_regionRun; (focus rfl); (focus ((conv => lhs; reduce); done)); (focus ((conv => lhs; simp [-List.map_set, set_vnat, set_vnat1, set_vint, set_bool]); done)); refine vseg_done ?_) | (apply vw_drawPlain; (focus rfl); (focus kernel_rfl); (focus ((conv => lhs; reduce); done)); (focus ((conv => lhs; reduce); done)); (focus (kernel_rfl)); (focus ((conv => lhs; simp [-List.map_set, set_vnat, set_vnat1, set_vint, set_bool]); done)); refine vseg_done ?_))
    exact done_pure hwf (by simp [hX']) rfl
  have hlm' : (a4.length : Int) = (b4.length : Int) := by omega
  have hXe : X = eqF (fun x y => decide (x = y)) a4 b4 := by
    rw [← hX, eqF_dec, hsf, hsg]
    by_cases h4 : a4 = b4
    · simp [h3, h4, hse']
    · simp [h4]
  generalize hp : (fun x y : Ss.Block => decide (x = y)) = p at hXe
  refine vseg_more (by conv => lhs; simp [-List.map_set, set_vnat, set_vnat1, set_vint, set_bool, h3, hlm, hlm']) ?_
  refine vseg_done ?_
  repeat (first | refine vw_seqAt rfl ?_ | refine vw_scopeAt rfl ?_ | refine vw_labelAt rfl ?_ | refine vw_skipAt rfl ?_ | refine vw_exitAt _ rfl rfl ?_ | refine vw_retAt rfl ?_ | (refine vw_condT rfl rfl ?_ ?_; focus (simp [ev, Fr.look]; done)) | (refine vw_condF rfl rfl ?_ ?_; focus (simp [ev, Fr.look]; done)) | refine vw_blockAt _ rfl rfl ?_ | (apply vw_regionRun; (focus rfl); (focus ((conv => lhs; reduce); done)); (focus ((conv => lhs; simp [-List.map_set, set_vnat, set_vnat1, set_vint, set_bool]); done)); refine vseg_done ?_) | (apply vw_drawPlain; (focus rfl); (focus kernel_rfl); (focus ((conv => lhs; reduce); done)); (focus ((conv => lhs; reduce); done)); (focus (kernel_rfl)); (focus ((conv => lhs; simp [-List.map_set, set_vnat, set_vnat1, set_vint, set_bool]); done)); refine vseg_done ?_))
  repeat refine vw_seqAt rfl ?_
  refine vw_loopAt [2, 3, 5] rfl (fun c σ S' => ∃ (k : Nat), k ≤ a4.length ∧ c = a4.length - k ∧ eqF p (a4.drop k) (b4.drop k) = X ∧ σ = [(2, .ptr (lid S.nx 0) 0), (3, .ptr (lid S.nx 1) 0), (5, vnat k)] ∧ S' = St S [] [some (4, [vl vint a1, vl vint a2, vl vint b3, vl encBlock a4]), some (4, [vl vint b1, vl vint b2, vl vint b3, vl encBlock b4])]) a4.length ?_ ?_
  · exact ⟨0, by omega, rfl, by rw [hXe]; rfl, by simp [Fr.only], by simp [h3]⟩
  · rintro c σ T ⟨k, hk, rfl, hd, rfl, rfl⟩
    by_cases hkt : k < a4.length
    · have hkm : k < b4.length := by omega
      have hw := wrapNat hkt g4
      have hst := eqF_one (p := p) hkt hkm
      have hbf := f5 _ (List.getElem_mem hkt)
      obtain ⟨⟨x1, x2, x3⟩, hx⟩ : ∃ x, a4[k] = x := ⟨_, rfl⟩
      obtain ⟨⟨y1, y2, y3⟩, hy⟩ : ∃ y, b4[k] = y := ⟨_, rfl⟩
      rw [hx] at hbf
      have ct := sameTerm_v x3 y3 hbf.2.2
      obtain ⟨⟨q1, _⟩, ⟨q2, q3⟩, _⟩ := hbf
      simp only at q1 q2 q3
      rw [hx, hy] at hst
      have hpp : p ⟨x1, x2, x3⟩ ⟨y1, y2, y3⟩ = decide (x1 = y1 ∧ x2 = y2 ∧ x3 = y3) := by rw [← hp]; simp
      have r1 : x1.length < 2^63 := by omega
      have r2 : x2.length < 2^63 := by omega
      obtain ⟨x3, x4, x5, x6⟩ := x3
      obtain ⟨y3, y4, y5, y6⟩ := y3
      generalize hT : decide ((⟨x3, x4, x5, x6⟩ : Ss.Term) = ⟨y3, y4, y5, y6⟩) = te at ct
      have ct' : VPure Try.prog 22 [.agg [.int .i64 x3, .int .i64 x4, vl encEdge x5, vl vint x6], .agg [.int .i64 y3, .int .i64 y4, vl encEdge y5, vl vint y6]] (.bool te) := ct
      have bad : ¬ (x1 = y1 ∧ x2 = y2 ∧ (⟨x3, x4, x5, x6⟩ : Ss.Term) = ⟨y3, y4, y5, y6⟩) → X = false := by
        intro hn
        rw [← hd, hst, hpp, decide_eq_false hn]; rfl
      repeat (first | refine vw_seqAt rfl ?_ | refine vw_scopeAt rfl ?_ | refine vw_labelAt rfl ?_ | refine vw_skipAt rfl ?_ | refine vw_exitAt _ rfl rfl ?_ | refine vw_retAt rfl ?_ | (refine vw_condT rfl rfl ?_ ?_; focus (simp [ev, Fr.look]; done)) | (refine vw_condF rfl rfl ?_ ?_; focus (simp [ev, Fr.look]; done)) | refine vw_blockAt _ rfl rfl ?_ | (apply vw_regionRun; (focus rfl); (focus ((conv => lhs; reduce); done)); (focus ((conv => lhs; simp [-List.map_set, set_vnat, set_vnat1, set_vint, set_bool, hkt, hkm, hx, hy]); done)); refine vseg_done ?_) | (apply vw_drawPlain; (focus rfl); (focus kernel_rfl); (focus ((conv => lhs; reduce); done)); (focus ((conv => lhs; reduce); done)); (focus (kernel_rfl)); (focus ((conv => lhs; simp [-List.map_set, set_vnat, set_vnat1, set_vint, set_bool, hkt, hkm, hx, hy]); done)); refine vseg_done ?_))
      repeat refine vw_seqAt rfl ?_
      refine vw_drawTwo (σm := ?sm) (Sm := ?Sm) (ZZ.mk _ (St S [] [some (4, [vl vint a1, vl vint a2, vl vint b3, vl encBlock a4]), some (4, [vl vint b1, vl vint b2, vl vint b3, vl encBlock b4])]) (St S [] [some (4, [vl vint a1, vl vint a2, vl vint b3, vl encBlock a4]), some (4, [vl vint b1, vl vint b2, vl vint b3, vl encBlock b4])]) []) 10 11 [0, 1, 2, 3, 4, 5, 6, 7, 8, 9, 10, 11, 12, 13] [0, 1, 2, 3, 4, 5, 6, 7, 8, 9, 11, 10, 12, 13] rfl (by kernel_rfl) (by conv => lhs; reduce) (by kernel_rfl) (by decide) (by kernel_rfl) (by kernel_rfl) (by kernel_rfl) (by kernel_rfl) (by kernel_rfl) (by kernel_rfl) rfl (ok_St (by simp [subU, shpU, subL, shpL])) (Store.sub_refl _) (by conv => lhs; reduce) (by conv => lhs; reduce) ?H1 ?H2 ?H3
      case H1 =>
        refine vseg_more (by conv => lhs; simp [-List.map_set, set_vnat, set_vnat1, set_vint, set_bool, hkt, hkm, hx, hy]) ?_
        refine vseg_write rfl (by conv => lhs; simp [-List.map_set, set_vnat, set_vnat1, set_vint, set_bool]) (ok_St (by simp [subU, shpU, subL, shpL])) ?_
        refine vseg_write rfl (by conv => lhs; simp [-List.map_set, set_vnat, set_vnat1, set_vint, set_bool]) (ok_St (by simp [subU, shpU, subL, shpL])) ?_
        refine vseg_write rfl (by conv => lhs; simp [-List.map_set, set_vnat, set_vnat1, set_vint, set_bool]) (ok_St (by simp [subU, shpU, subL, shpL])) ?_
        refine vseg_write rfl (by conv => lhs; simp [-List.map_set, set_vnat, set_vnat1, set_vint, set_bool]) (ok_St (by simp [subU, shpU, subL, shpL])) ?_
        refine vseg_done ?_
        refine reach_only [2, 3, 5, 6, 7] (Eq.trans (b := ?_) ?_ rfl)
        rotate_left
        conv => lhs; simp [Fr.only, Fr.look]
      case H2 =>
        refine vseg_more (by conv => lhs; simp [-List.map_set, set_vnat, set_vnat1, set_vint, set_bool, hkt, hkm, hx, hy]) ?_
        refine vseg_write rfl (by conv => lhs; simp [-List.map_set, set_vnat, set_vnat1, set_vint, set_bool]) (ok_St (by simp [subU, shpU, subL, shpL])) ?_
        refine vseg_write rfl (by conv => lhs; simp [-List.map_set, set_vnat, set_vnat1, set_vint, set_bool]) (ok_St (by simp [subU, shpU, subL, shpL])) ?_
        refine vseg_write rfl (by conv => lhs; simp [-List.map_set, set_vnat, set_vnat1, set_vint, set_bool]) (ok_St (by simp [subU, shpU, subL, shpL])) ?_
        refine vseg_write rfl (by conv => lhs; simp [-List.map_set, set_vnat, set_vnat1, set_vint, set_bool]) (ok_St (by simp [subU, shpU, subL, shpL])) ?_
        refine vseg_done ?_
        exact reach_swap [2, 3, 5, 6, 7] [0, 1, 3, 2] (by conv => lhs; simp [Fr.only, Fr.look]) hwf (by decide) (by simp [-List.map_set]) (by conv => lhs; simp [-List.map_set]) (by conv => lhs; simp [-List.map_set]) (by conv => lhs; simp [-List.map_set])
      repeat (first | refine vw_seqAt rfl ?_ | refine vw_scopeAt rfl ?_ | refine vw_labelAt rfl ?_ | refine vw_skipAt rfl ?_ | refine vw_exitAt _ rfl rfl ?_ | refine vw_retAt rfl ?_ | (refine vw_condT rfl rfl ?_ ?_; focus (simp [ev, Fr.look]; done)) | (refine vw_condF rfl rfl ?_ ?_; focus (simp [ev, Fr.look]; done)) | refine vw_blockAt _ rfl rfl ?_ | (apply vw_regionRun; (focus rfl); (focus ((conv => lhs; reduce); done)); (focus ((conv => lhs; simp [-List.map_set, set_vnat, set_vnat1, set_vint, set_bool]); done)); refine vseg_done ?_) | (apply vw_drawPlain; (focus rfl); (focus kernel_rfl); (focus ((conv => lhs; reduce); done)); (focus ((conv => lhs; reduce); done)); (focus (kernel_rfl)); (focus ((conv => lhs; simp [-List.map_set, set_vnat, set_vnat1, set_vint, set_bool]); done)); refine vseg_done ?_))
      repeat refine vw_seqAt rfl ?_
      refine vw_regionRun rfl (by conv => lhs; reduce) (by conv => lhs; simp [-List.map_set, set_vnat, set_vnat1, set_vint, set_bool]) ?_
      refine vcall_useH (WInts_v x1 y1 r1) (by rfl) ?_
      by_cases e1 : x1 = y1
      case neg =>
        refine vseg_more (by conv => lhs; simp [-List.map_set, set_vnat, set_vnat1, set_vint, set_bool, e1]) ?_
        refine vseg_done ?_
        repeat (first | refine vw_seqAt rfl ?_ | refine vw_scopeAt rfl ?_ | refine vw_labelAt rfl ?_ | refine vw_skipAt rfl ?_ | refine vw_exitAt _ rfl rfl ?_ | refine vw_retAt rfl ?_ | (refine vw_condT rfl rfl ?_ ?_; focus (simp [ev, Fr.look]; done)) | (refine vw_condF rfl rfl ?_ ?_; focus (simp [ev, Fr.look]; done)) | refine vw_blockAt _ rfl rfl ?_ | (apply vw_regionRun; (focus rfl); (focus ((conv => lhs; reduce); done)); (focus ((conv => lhs; simp [-List.map_set, set_vnat, set_vnat1, set_vint, set_bool]); done)); refine vseg_done ?_) | (apply vw_drawPlain; (focus rfl); (focus kernel_rfl); (focus ((conv => lhs; reduce); done)); (focus ((conv => lhs; reduce); done)); (focus (kernel_rfl)); (focus ((conv => lhs; simp [-List.map_set, set_vnat, set_vnat1, set_vint, set_bool]); done)); refine vseg_done ?_))
        exact done_pure hwf (by have hb := bad (fun h => e1 h.1); simp [hb]) rfl
      by_cases e2 : x2.length = y2.length
      case neg =>
        have e2' : ¬ (x2.length : Int) = (y2.length : Int) := by omega
        refine vseg_more (by conv => lhs; simp [-List.map_set, set_vnat, set_vnat1, set_vint, set_bool, e1, e2, e2']) ?_
        refine vseg_done ?_
        repeat (first | refine vw_seqAt rfl ?_ | refine vw_scopeAt rfl ?_ | refine vw_labelAt rfl ?_ | refine vw_skipAt rfl ?_ | refine vw_exitAt _ rfl rfl ?_ | refine vw_retAt rfl ?_ | (refine vw_condT rfl rfl ?_ ?_; focus (simp [ev, Fr.look]; done)) | (refine vw_condF rfl rfl ?_ ?_; focus (simp [ev, Fr.look]; done)) | refine vw_blockAt _ rfl rfl ?_ | (apply vw_regionRun; (focus rfl); (focus ((conv => lhs; reduce); done)); (focus ((conv => lhs; simp [-List.map_set, set_vnat, set_vnat1, set_vint, set_bool]); done)); refine vseg_done ?_) | (apply vw_drawPlain; (focus rfl); (focus kernel_rfl); (focus ((conv => lhs; reduce); done)); (focus ((conv => lhs; reduce); done)); (focus (kernel_rfl)); (focus ((conv => lhs; simp [-List.map_set, set_vnat, set_vnat1, set_vint, set_bool]); done)); refine vseg_done ?_))
        exact done_pure hwf (by have hb := bad (fun h => e2 (by rw [h.2.1])); simp [hb]) rfl
      have e2' : (x2.length : Int) = (y2.length : Int) := by omega
      refine vseg_more (by conv => lhs; simp [-List.map_set, set_vnat, set_vnat1, set_vint, set_bool, e1, e2, e2']) ?_
      refine vcall_useH (ct') (by rfl) ?_
      by_cases hte : te = true
      case neg =>
        have hte' : te = false := by simpa using hte
        refine vseg_more (by conv => lhs; simp [-List.map_set, set_vnat, set_vnat1, set_vint, set_bool, hte']) ?_
        refine vseg_done ?_
        repeat (first | refine vw_seqAt rfl ?_ | refine vw_scopeAt rfl ?_ | refine vw_labelAt rfl ?_ | refine vw_skipAt rfl ?_ | refine vw_exitAt _ rfl rfl ?_ | refine vw_retAt rfl ?_ | (refine vw_condT rfl rfl ?_ ?_; focus (simp [ev, Fr.look]; done)) | (refine vw_condF rfl rfl ?_ ?_; focus (simp [ev, Fr.look]; done)) | refine vw_blockAt _ rfl rfl ?_ | (apply vw_regionRun; (focus rfl); (focus ((conv => lhs; reduce); done)); (focus ((conv => lhs; simp [-List.map_set, set_vnat, set_vnat1, set_vint, set_bool]); done)); refine vseg_done ?_) | (apply vw_drawPlain; (focus rfl); (focus kernel_rfl); (focus ((conv => lhs; reduce); done)); (focus ((conv => lhs; reduce); done)); (focus (kernel_rfl)); (focus ((conv => lhs; simp [-List.map_set, set_vnat, set_vnat1, set_vint, set_bool]); done)); refine vseg_done ?_))
        exact done_pure hwf (by have hb := bad (fun h => by rw [hte'] at hT; simp only [decide_eq_false_iff_not] at hT; exact hT h.2.2); simp [hb]) rfl
      have hTe : (⟨x3, x4, x5, x6⟩ : Ss.Term) = ⟨y3, y4, y5, y6⟩ := by rw [hte] at hT; simpa using hT
      refine vseg_more (by conv => lhs; simp [-List.map_set, set_vnat, set_vnat1, set_vint, set_bool, hte]) ?_
      refine vseg_done ?_
      repeat (first | refine vw_seqAt rfl ?_ | refine vw_scopeAt rfl ?_ | refine vw_labelAt rfl ?_ | refine vw_skipAt rfl ?_ | refine vw_exitAt _ rfl rfl ?_ | refine vw_retAt rfl ?_ | (refine vw_condT rfl rfl ?_ ?_; focus (simp [ev, Fr.look]; done)) | (refine vw_condF rfl rfl ?_ ?_; focus (simp [ev, Fr.look]; done)) | refine vw_blockAt _ rfl rfl ?_ | (apply vw_regionRun; (focus rfl); (focus ((conv => lhs; reduce); done)); (focus ((conv => lhs; simp [-List.map_set, set_vnat, set_vnat1, set_vint, set_bool]); done)); refine vseg_done ?_) | (apply vw_drawPlain; (focus rfl); (focus kernel_rfl); (focus ((conv => lhs; reduce); done)); (focus ((conv => lhs; reduce); done)); (focus (kernel_rfl)); (focus ((conv => lhs; simp [-List.map_set, set_vnat, set_vnat1, set_vint, set_bool]); done)); refine vseg_done ?_))
      have hce : p ⟨x1, x2, ⟨x3, x4, x5, x6⟩⟩ ⟨y1, y2, ⟨y3, y4, y5, y6⟩⟩ = eqF (fun x y => decide (x = y)) x2 y2 := by
        rw [hpp, eqF_dec]
        by_cases h4 : x2 = y2
        · simp only [e1, h4, hTe, and_self]
        · simp [h4]
      generalize hq : (fun x y : Ss.Ins => decide (x = y)) = q at hce
      repeat refine vw_seqAt rfl ?_
      refine vw_loopAt [2, 3, 5, 6, 7, 8] rfl (fun c σ S' => ∃ (j : Nat), j ≤ x2.length ∧ c = x2.length - j ∧ eqF q (x2.drop j) (y2.drop j) = eqF q x2 y2 ∧ σ = [(2, .ptr (lid S.nx 0) 0), (3, .ptr (lid S.nx 1) 0), (5, vnat k), (6, .ptr (lid S.nx 2) 0), (7, .ptr (lid S.nx 3) 0), (8, vnat j)] ∧ S' = St S [] [some (4, [vl vint a1, vl vint a2, vl vint b3, vl encBlock a4]), some (4, [vl vint b1, vl vint b2, vl vint b3, vl encBlock b4]), some (6, [vl vint x1, vl encIns x2, .int .i64 x3, .int .i64 x4, vl encEdge x5, vl vint x6]), some (6, [vl vint y1, vl encIns y2, .int .i64 y3, .int .i64 y4, vl encEdge y5, vl vint y6])]) x2.length ?_ ?_
      · exact ⟨0, by omega, rfl, rfl, by simp [Fr.only], by simp [e1]⟩
      · rintro c σ T ⟨j, hj, rfl, hdj, rfl, rfl⟩
        by_cases hjt : j < x2.length
        · have hjm : j < y2.length := by omega
          have hwj := wrapNat hjt r2
          have hsj := eqF_one (p := q) hjt hjm
          have hif := q3 _ (List.getElem_mem hjt)
          obtain ⟨⟨u1, u2, u3, u4⟩, hu⟩ : ∃ x, x2[j] = x := ⟨_, rfl⟩
          obtain ⟨⟨v1, v2, v3, v4⟩, hv⟩ : ∃ x, y2[j] = x := ⟨_, rfl⟩
          rw [hu] at hif
          have ci := SameIns_v ⟨u1, u2, u3, u4⟩ ⟨v1, v2, v3, v4⟩ (Nat.lt_of_le_of_lt hif.2.2.1.1 (by decide)) (Nat.lt_of_le_of_lt hif.2.2.2.1 (by decide))
          rw [hu, hv, show q ⟨u1, u2, u3, u4⟩ ⟨v1, v2, v3, v4⟩ = decide ((⟨u1, u2, u3, u4⟩ : Ss.Ins) = ⟨v1, v2, v3, v4⟩) by rw [← hq]] at hsj
          generalize decide ((⟨u1, u2, u3, u4⟩ : Ss.Ins) = ⟨v1, v2, v3, v4⟩) = ie at hsj ci
          have ci' : VPure Try.prog 23 [.agg [.int .i64 u1, .int .u64 u2, vl vint u3, vl vint u4], .agg [.int .i64 v1, .int .u64 v2, vl vint v3, vl vint v4]] (.bool ie) := ci
          repeat (first | refine vw_seqAt rfl ?_ | refine vw_scopeAt rfl ?_ | refine vw_labelAt rfl ?_ | refine vw_skipAt rfl ?_ | refine vw_exitAt _ rfl rfl ?_ | refine vw_retAt rfl ?_ | (refine vw_condT rfl rfl ?_ ?_; focus (simp [ev, Fr.look]; done)) | (refine vw_condF rfl rfl ?_ ?_; focus (simp [ev, Fr.look]; done)) | refine vw_blockAt _ rfl rfl ?_ | (apply vw_regionRun; (focus rfl); (focus ((conv => lhs; reduce); done)); (focus ((conv => lhs; simp [-List.map_set, set_vnat, set_vnat1, set_vint, set_bool, hjt, hjm, hu, hv]); done)); refine vseg_done ?_) | (apply vw_drawPlain; (focus rfl); (focus kernel_rfl); (focus ((conv => lhs; reduce); done)); (focus ((conv => lhs; reduce); done)); (focus (kernel_rfl)); (focus ((conv => lhs; simp [-List.map_set, set_vnat, set_vnat1, set_vint, set_bool, hjt, hjm, hu, hv]); done)); refine vseg_done ?_))
          repeat refine vw_seqAt rfl ?_
          refine vw_drawPlain rfl (by kernel_rfl) (by conv => lhs; reduce) (by conv => lhs; reduce) (by kernel_rfl) (by conv => lhs; simp [-List.map_set, set_vnat, set_vnat1, set_vint, set_bool, hjt, hjm, hu, hv]) ?_
          refine vcall_useH (ci') (by rfl) ?_
          by_cases hie : ie = true
          · refine vseg_more (by conv => lhs; simp [-List.map_set, set_vnat, set_vnat1, set_vint, set_bool, hie]) ?_
            refine vseg_done ?_
            repeat (first | refine vw_seqAt rfl ?_ | refine vw_scopeAt rfl ?_ | refine vw_labelAt rfl ?_ | refine vw_skipAt rfl ?_ | refine vw_exitAt _ rfl rfl ?_ | refine vw_retAt rfl ?_ | (refine vw_condT rfl rfl ?_ ?_; focus (simp [ev, Fr.look]; done)) | (refine vw_condF rfl rfl ?_ ?_; focus (simp [ev, Fr.look]; done)) | refine vw_blockAt _ rfl rfl ?_ | (apply vw_regionRun; (focus rfl); (focus ((conv => lhs; reduce); done)); (focus ((conv => lhs; simp [-List.map_set, set_vnat, set_vnat1, set_vint, set_bool]); done)); refine vseg_done ?_) | (apply vw_drawPlain; (focus rfl); (focus kernel_rfl); (focus ((conv => lhs; reduce); done)); (focus ((conv => lhs; reduce); done)); (focus (kernel_rfl)); (focus ((conv => lhs; simp [-List.map_set, set_vnat, set_vnat1, set_vint, set_bool]); done)); refine vseg_done ?_))
            show Again _ _ _ _ _ _ _
            exact again ⟨Nat.sub_lt_sub_left hjt (Nat.lt_succ_self j), j + 1, hjt, rfl, by rw [← hdj, hsj, hie]; rfl, by simp [Fr.only, hwj], rfl⟩
          · have hie' : ie = false := by simpa using hie
            refine vseg_more (by conv => lhs; simp [-List.map_set, set_vnat, set_vnat1, set_vint, set_bool, hie']) ?_
            refine vseg_done ?_
            repeat (first | refine vw_seqAt rfl ?_ | refine vw_scopeAt rfl ?_ | refine vw_labelAt rfl ?_ | refine vw_skipAt rfl ?_ | refine vw_exitAt _ rfl rfl ?_ | refine vw_retAt rfl ?_ | (refine vw_condT rfl rfl ?_ ?_; focus (simp [ev, Fr.look]; done)) | (refine vw_condF rfl rfl ?_ ?_; focus (simp [ev, Fr.look]; done)) | refine vw_blockAt _ rfl rfl ?_ | (apply vw_regionRun; (focus rfl); (focus ((conv => lhs; reduce); done)); (focus ((conv => lhs; simp [-List.map_set, set_vnat, set_vnat1, set_vint, set_bool]); done)); refine vseg_done ?_) | (apply vw_drawPlain; (focus rfl); (focus kernel_rfl); (focus ((conv => lhs; reduce); done)); (focus ((conv => lhs; reduce); done)); (focus (kernel_rfl)); (focus ((conv => lhs; simp [-List.map_set, set_vnat, set_vnat1, set_vint, set_bool]); done)); refine vseg_done ?_))
            exact done_pure hwf (by rw [← hd, hst, hce, ← hdj, hsj, hie']; rfl) rfl
        · rw [eqF_end hjt e2] at hdj
          have hjm : ¬ j < y2.length := by omega
          repeat (first | refine vw_seqAt rfl ?_ | refine vw_scopeAt rfl ?_ | refine vw_labelAt rfl ?_ | refine vw_skipAt rfl ?_ | refine vw_exitAt _ rfl rfl ?_ | refine vw_retAt rfl ?_ | (refine vw_condT rfl rfl ?_ ?_; focus (simp [ev, Fr.look]; done)) | (refine vw_condF rfl rfl ?_ ?_; focus (simp [ev, Fr.look]; done)) | refine vw_blockAt _ rfl rfl ?_ | (apply vw_regionRun; (focus rfl); (focus ((conv => lhs; reduce); done)); (focus ((conv => lhs; simp [-List.map_set, set_vnat, set_vnat1, set_vint, set_bool, hjt, hjm]); done)); refine vseg_done ?_) | (apply vw_drawPlain; (focus rfl); (focus kernel_rfl); (focus ((conv => lhs; reduce); done)); (focus ((conv => lhs; reduce); done)); (focus (kernel_rfl)); (focus ((conv => lhs; simp [-List.map_set, set_vnat, set_vnat1, set_vint, set_bool, hjt, hjm]); done)); refine vseg_done ?_))
          refine again_gc [0, 1] (by conv => lhs; simp [Fr.only]) hwf (by decide) (by simp [-List.map_set]) (by conv => lhs; simp [-List.map_set]) (by conv => lhs; simp [-List.map_set]) (by conv => lhs; simp [-List.map_set]) ⟨?_, k + 1, hkt, rfl, by rw [← hd, hst, hce, ← hdj]; rfl, by simp [hw], rfl⟩
          omega
    · rw [eqF_end hkt hlm] at hd
      have hkm : ¬ k < b4.length := by omega
      repeat (first | refine vw_seqAt rfl ?_ | refine vw_scopeAt rfl ?_ | refine vw_labelAt rfl ?_ | refine vw_skipAt rfl ?_ | refine vw_exitAt _ rfl rfl ?_ | refine vw_retAt rfl ?_ | (refine vw_condT rfl rfl ?_ ?_; focus (simp [ev, Fr.look]; done)) | (refine vw_condF rfl rfl ?_ ?_; focus (simp [ev, Fr.look]; done)) | refine vw_blockAt _ rfl rfl ?_ | (apply vw_regionRun; (focus rfl); (focus ((conv => lhs; reduce); done)); (focus ((conv => lhs; simp [-List.map_set, set_vnat, set_vnat1, set_vint, set_bool, hkt, hkm]); done)); refine vseg_done ?_) | (apply vw_drawPlain; (focus rfl); (focus kernel_rfl); (focus ((conv => lhs; reduce); done)); (focus ((conv => lhs; reduce); done)); (focus (kernel_rfl)); (focus ((conv => lhs; simp [-List.map_set, set_vnat, set_vnat1, set_vint, set_bool, hkt, hkm]); done)); refine vseg_done ?_))
      exact done_pure hwf (by simp [← hd]) rfl
end Go.Vw

namespace Go.Vw
open Go.Proofs Go.RowKit
set_option maxRecDepth 10000
set_option maxHeartbeats 8000000

theorem Sames_v (f g : Ss.Fn) (hf : f.Fits) (hg : g.Fits) : VPure Try.prog 3 [encFn f, encFn g] (.bool true) := by
  intro S
  have c1 := Same_v f g hf hg
  have c2 : VPure Try.prog 8 [encFn f, encFn g] (.bool (sameFn f g)) := RSame_v f g hf hg
  have c3 := Same_v f f hf hf
  have e3 : sameFn f f = f.small := by simp [sameFn]
  rw [e3] at c3
  have c4 := RSmall_v f hf
  generalize sameFn f g = a at *
  generalize f.small = b at *
  obtain ⟨⟨f1, f2⟩, f3, f4⟩ := f
  obtain ⟨⟨g1, g2⟩, g3, g4⟩ := g
  have d1 : VPure Try.prog 7 [.agg [vl vint f1, vl vint f2, vl vint f3, vl encBlock f4], .agg [vl vint g1, vl vint g2, vl vint g3, vl encBlock g4]] (.bool a) := c1
  have d2 : VPure Try.prog 8 [.agg [vl vint f1, vl vint f2, vl vint f3, vl encBlock f4], .agg [vl vint g1, vl vint g2, vl vint g3, vl encBlock g4]] (.bool a) := c2
  have d3 : VPure Try.prog 7 [.agg [vl vint f1, vl vint f2, vl vint f3, vl encBlock f4], .agg [vl vint f1, vl vint f2, vl vint f3, vl encBlock f4]] (.bool b) := c3
  have d4 : VPure Try.prog 9 [.agg [vl vint f1, vl vint f2, vl vint f3, vl encBlock f4]] (.bool b) := c4
  refine vcalls_start (c := bodyOf Try.f3) Try.func3 rfl rfl (by simp [Try.ntmps3]) ?_
  rw [Try.ntmps3]
  intro hwf
  repeat (first | refine vw_seqAt rfl ?_ | refine vw_scopeAt rfl ?_ | refine vw_labelAt rfl ?_ | refine vw_skipAt rfl ?_ | refine vw_exitAt _ rfl rfl ?_ | refine vw_retAt rfl ?_ | (refine vw_condT rfl rfl ?_ ?_; focus (simp [ev, Fr.look]; done)) | (refine vw_condF rfl rfl ?_ ?_; focus (simp [ev, Fr.look]; done)) | refine vw_blockAt _ rfl rfl ?_ | (apply vw_regionRun; (focus rfl); (focus ((conv => lhs; reduce); done)); (focus ((conv => lhs; simp [-List.map_set, set_vnat, set_vnat1, set_vint, set_bool]); done)); refine vseg_done ?_) | (apply vw_drawPlain; (focus rfl); (focus kernel_rfl); (focus ((conv => lhs; reduce); done)); (focus ((conv => lhs; reduce); done)); (focus (kernel_rfl)); (focus ((conv => lhs; simp [-List.map_set, set_vnat, set_vnat1, set_vint, set_bool]); done)); refine vseg_done ?_))
  repeat refine vw_seqAt rfl ?_
  refine vw_drawPlain rfl (by kernel_rfl) (by conv => lhs; reduce) (by conv => lhs; reduce) (by kernel_rfl) (by conv => lhs; simp [-List.map_set, set_vnat, set_vnat1, set_vint, set_bool]) ?_
  refine vcall_useH (d1) (by rfl) ?_
  refine vseg_more (by conv => lhs; simp [-List.map_set, set_vnat, set_vnat1, set_vint, set_bool]) ?_
  refine vcall_useH (d2) (by rfl) ?_
  refine vseg_more (by conv => lhs; simp [-List.map_set, set_vnat, set_vnat1, set_vint, set_bool]) ?_
  refine vcall_useH (d3) (by rfl) ?_
  refine vseg_more (by conv => lhs; simp [-List.map_set, set_vnat, set_vnat1, set_vint, set_bool]) ?_
  refine vcall_useH (d4) (by rfl) ?_
  refine vseg_more (by conv => lhs; simp [-List.map_set, set_vnat, set_vnat1, set_vint, set_bool]) ?_
  refine vcall_useH (Alive8_v) (by rfl) ?_
  refine vseg_more (by conv => lhs; simp [-List.map_set, set_vnat, set_vnat1, set_vint, set_bool]) ?_
  refine vseg_done ?_
  repeat (first | refine vw_seqAt rfl ?_ | refine vw_scopeAt rfl ?_ | refine vw_labelAt rfl ?_ | refine vw_skipAt rfl ?_ | refine vw_exitAt _ rfl rfl ?_ | refine vw_retAt rfl ?_ | (refine vw_condT rfl rfl ?_ ?_; focus (simp [ev, Fr.look]; done)) | (refine vw_condF rfl rfl ?_ ?_; focus (simp [ev, Fr.look]; done)) | refine vw_blockAt _ rfl rfl ?_ | (apply vw_regionRun; (focus rfl); (focus ((conv => lhs; reduce); done)); (focus ((conv => lhs; simp [-List.map_set, set_vnat, set_vnat1, set_vint, set_bool]); done)); refine vseg_done ?_) | (apply vw_drawPlain; (focus rfl); (focus kernel_rfl); (focus ((conv => lhs; reduce); done)); (focus ((conv => lhs; reduce); done)); (focus (kernel_rfl)); (focus ((conv => lhs; simp [-List.map_set, set_vnat, set_vnat1, set_vint, set_bool]); done)); refine vseg_done ?_))
  exact done_pure hwf (by simp) rfl
end Go.Vw
