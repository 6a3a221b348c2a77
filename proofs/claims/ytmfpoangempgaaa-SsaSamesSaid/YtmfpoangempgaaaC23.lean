import Derived.Test.YtmfpoangempgaaaC20
import Derived.Test.YtmfpoangempgaaaProg
/-
  Part of the proof (texts SEqF).
-/
set_option linter.unusedVariables false
set_option linter.unusedSimpArgs false
namespace Go.Vw
open Go.Proofs Go.RowKit
set_option maxRecDepth 10000
set_option maxHeartbeats 4000000

theorem EqFB_v (l m : List (Ss.Block)) (p : Ss.Block → Ss.Block → Bool) (fid : FuncId) (hc : callable Try.prog fid = true) (hl : l.length < 2^63) (h : l.length = m.length → ∀ (k : Nat) (h1 : k < l.length) (h2 : k < m.length), VPure Try.prog fid ([encBlock l[k], encBlock m[k]]) (.bool (p l[k] m[k]))) :
    VPure Try.prog 18 [vl (encBlock) l, vl (encBlock) m, .func fid []] (.bool (eqF p l m)) := by
  intro S
  by_cases hlm : l.length = m.length
  · have hlm' : (l.length : Int) = (m.length : Int) := by omega
    have h := h hlm
    refine vcalls_start (c := bodyOf Try.f18) Try.func18 rfl rfl (by simp [Try.ntmps18]) ?_
    rw [Try.ntmps18]
    intro hwf
    repeat (first | refine vw_seqAt rfl ?_ | refine vw_scopeAt rfl ?_ | refine vw_labelAt rfl ?_ | refine vw_skipAt rfl ?_ | refine vw_exitAt _ rfl rfl ?_ | refine vw_retAt rfl ?_ | (refine vw_condT rfl rfl ?_ ?_; focus (simp [ev, Fr.look]; done)) | (refine vw_condF rfl rfl ?_ ?_; focus (simp [ev, Fr.look]; done)) | refine vw_blockAt _ rfl rfl ?_ | (apply vw_regionRun; (focus rfl); (focus ((conv => lhs; reduce); done)); (focus ((conv => lhs; simp [-List.map_set, set_vnat, set_vnat1, set_vint, set_bool, hlm, hlm']); done)); refine vseg_done ?_) | (apply vw_drawPlain; (focus rfl); (focus kernel_rfl); (focus ((conv => lhs; reduce); done)); (focus ((conv => lhs; reduce); done)); (focus (kernel_rfl)); (focus ((conv => lhs; simp [-List.map_set, set_vnat, set_vnat1, set_vint, set_bool, hlm, hlm']); done)); refine vseg_done ?_))
    repeat refine vw_seqAt rfl ?_
    refine vw_loopAt [1, 2, 15, 16, 17] rfl (fun c σ S' => ∃ (k : Nat), k ≤ l.length ∧ c = l.length - k ∧ eqF p (l.drop k) (m.drop k) = eqF p l m ∧ σ = [(1, vl (encBlock) m), (2, .func fid []), (15, vl (encBlock) l), (16, vnat m.length), (17, vnat k)] ∧ S' = St S [] []) l.length ?_ ?_
    · exact ⟨0, by omega, rfl, rfl, by simp [Fr.only, hlm], rfl⟩
    · rintro c σ T ⟨k, hk, rfl, hd, rfl, rfl⟩
      by_cases hkt : k < l.length
      · have hkm : k < m.length := by omega
        have hw := wrapNat hkt hl
        have hst : eqF p (l.drop k) (m.drop k) = (p l[k] m[k] && eqF p (l.drop (k + 1)) (m.drop (k + 1))) := by rw [List.drop_eq_getElem_cons hkt, List.drop_eq_getElem_cons hkm, eqF]
        have hh := h k hkt hkm
        obtain ⟨x, hx⟩ : ∃ x, l[k] = x := ⟨_, rfl⟩
        obtain ⟨y, hy⟩ : ∃ y, m[k] = y := ⟨_, rfl⟩
        rw [hx, hy] at hst hh
        repeat (first | refine vw_seqAt rfl ?_ | refine vw_scopeAt rfl ?_ | refine vw_labelAt rfl ?_ | refine vw_skipAt rfl ?_ | refine vw_exitAt _ rfl rfl ?_ | refine vw_retAt rfl ?_ | (refine vw_condT rfl rfl ?_ ?_; focus (simp [ev, Fr.look]; done)) | (refine vw_condF rfl rfl ?_ ?_; focus (simp [ev, Fr.look]; done)) | refine vw_blockAt _ rfl rfl ?_ | (apply vw_regionRun; (focus rfl); (focus ((conv => lhs; reduce); done)); (focus ((conv => lhs; simp [-List.map_set, set_vnat, set_vnat1, set_vint, set_bool, hkt, hkm, hx, hy]); done)); refine vseg_done ?_) | (apply vw_drawPlain; (focus rfl); (focus kernel_rfl); (focus ((conv => lhs; reduce); done)); (focus ((conv => lhs; reduce); done)); (focus (kernel_rfl)); (focus ((conv => lhs; simp [-List.map_set, set_vnat, set_vnat1, set_vint, set_bool, hkt, hkm, hx, hy]); done)); refine vseg_done ?_))
        repeat refine vw_seqAt rfl ?_
        refine vw_regionRun rfl (by conv => lhs; reduce) (by conv => lhs; simp [-List.map_set, set_vnat, set_vnat1, set_vint, set_bool, hkt, hkm, hx, hy]) ?_
        refine vcallv_use rfl hc rfl hh ?_
        refine vseg_more (by conv => lhs; simp [-List.map_set, set_vnat, set_vnat1, set_vint, set_bool]) ?_
        refine vseg_done ?_
        cases hp : p x y with
        | false =>
          rw [hp] at hst
          repeat (first | refine vw_seqAt rfl ?_ | refine vw_scopeAt rfl ?_ | refine vw_labelAt rfl ?_ | refine vw_skipAt rfl ?_ | refine vw_exitAt _ rfl rfl ?_ | refine vw_retAt rfl ?_ | (refine vw_condT rfl rfl ?_ ?_; focus (simp [ev, Fr.look]; done)) | (refine vw_condF rfl rfl ?_ ?_; focus (simp [ev, Fr.look]; done)) | refine vw_blockAt _ rfl rfl ?_ | (apply vw_regionRun; (focus rfl); (focus ((conv => lhs; reduce); done)); (focus ((conv => lhs; simp [-List.map_set, set_vnat, set_vnat1, set_vint, set_bool, hp]); done)); refine vseg_done ?_) | (apply vw_drawPlain; (focus rfl); (focus kernel_rfl); (focus ((conv => lhs; reduce); done)); (focus ((conv => lhs; reduce); done)); (focus (kernel_rfl)); (focus ((conv => lhs; simp [-List.map_set, set_vnat, set_vnat1, set_vint, set_bool, hp]); done)); refine vseg_done ?_))
          exact done_pure hwf (by rw [← hd, hst]; rfl) rfl
        | true =>
          rw [hp] at hst
          repeat (first | refine vw_seqAt rfl ?_ | refine vw_scopeAt rfl ?_ | refine vw_labelAt rfl ?_ | refine vw_skipAt rfl ?_ | refine vw_exitAt _ rfl rfl ?_ | refine vw_retAt rfl ?_ | (refine vw_condT rfl rfl ?_ ?_; focus (simp [ev, Fr.look]; done)) | (refine vw_condF rfl rfl ?_ ?_; focus (simp [ev, Fr.look]; done)) | refine vw_blockAt _ rfl rfl ?_ | (apply vw_regionRun; (focus rfl); (focus ((conv => lhs; reduce); done)); (focus ((conv => lhs; simp [-List.map_set, set_vnat, set_vnat1, set_vint, set_bool, hp]); done)); refine vseg_done ?_) | (apply vw_drawPlain; (focus rfl); (focus kernel_rfl); (focus ((conv => lhs; reduce); done)); (focus ((conv => lhs; reduce); done)); (focus (kernel_rfl)); (focus ((conv => lhs; simp [-List.map_set, set_vnat, set_vnat1, set_vint, set_bool, hp]); done)); refine vseg_done ?_))
          refine again_gc [] (by conv => lhs; simp [Fr.only]) hwf (by decide) (by simp [-List.map_set]) (by conv => lhs; simp [-List.map_set]) (by conv => lhs; simp [-List.map_set]) (by conv => lhs; simp [-List.map_set]) ⟨?_, k + 1, hkt, rfl, by rw [← hd, hst]; rfl, by simp [hw], rfl⟩
          omega
      · have e : l.drop k = [] := by rw [List.drop_eq_nil_iff]; omega
        have e' : m.drop k = [] := by rw [List.drop_eq_nil_iff]; omega
        rw [e, e'] at hd
        have hkm : ¬ k < m.length := by omega
        repeat (first | refine vw_seqAt rfl ?_ | refine vw_scopeAt rfl ?_ | refine vw_labelAt rfl ?_ | refine vw_skipAt rfl ?_ | refine vw_exitAt _ rfl rfl ?_ | refine vw_retAt rfl ?_ | (refine vw_condT rfl rfl ?_ ?_; focus (simp [ev, Fr.look]; done)) | (refine vw_condF rfl rfl ?_ ?_; focus (simp [ev, Fr.look]; done)) | refine vw_blockAt _ rfl rfl ?_ | (apply vw_regionRun; (focus rfl); (focus ((conv => lhs; reduce); done)); (focus ((conv => lhs; simp [-List.map_set, set_vnat, set_vnat1, set_vint, set_bool, hkt, hkm]); done)); refine vseg_done ?_) | (apply vw_drawPlain; (focus rfl); (focus kernel_rfl); (focus ((conv => lhs; reduce); done)); (focus ((conv => lhs; reduce); done)); (focus (kernel_rfl)); (focus ((conv => lhs; simp [-List.map_set, set_vnat, set_vnat1, set_vint, set_bool, hkt, hkm]); done)); refine vseg_done ?_))
        exact done_pure hwf (by rw [← hd]; rfl) rfl
  · have hlm' : ¬ (l.length : Int) = (m.length : Int) := by omega
    have e : eqF p l m = false := eqF_len hlm
    rw [e]
    refine vcalls_start (c := bodyOf Try.f18) Try.func18 rfl rfl (by simp [Try.ntmps18]) ?_
    rw [Try.ntmps18]
    intro hwf
    repeat (first | refine vw_seqAt rfl ?_ | refine vw_scopeAt rfl ?_ | refine vw_labelAt rfl ?_ | refine vw_skipAt rfl ?_ | refine vw_exitAt _ rfl rfl ?_ | refine vw_retAt rfl ?_ | (refine vw_condT rfl rfl ?_ ?_; focus (simp [ev, Fr.look]; done)) | (refine vw_condF rfl rfl ?_ ?_; focus (simp [ev, Fr.look]; done)) | refine vw_blockAt _ rfl rfl ?_ | (apply vw_regionRun; (focus rfl); (focus ((conv => lhs; reduce); done)); (focus ((conv => lhs; simp [-List.map_set, set_vnat, set_vnat1, set_vint, set_bool, hlm, hlm']); done)); refine vseg_done ?_) | (apply vw_drawPlain; (focus rfl); (focus kernel_rfl); (focus ((conv => lhs; reduce); done)); (focus ((conv => lhs; reduce); done)); (focus (kernel_rfl)); (focus ((conv => lhs; simp [-List.map_set, set_vnat, set_vnat1, set_vint, set_bool, hlm, hlm']); done)); refine vseg_done ?_))
    exact done_pure hwf rfl rfl

theorem EqFN_v (l m : List (Ss.Ins)) (p : Ss.Ins → Ss.Ins → Bool) (fid : FuncId) (hc : callable Try.prog fid = true) (hl : l.length < 2^63) (h : l.length = m.length → ∀ (k : Nat) (h1 : k < l.length) (h2 : k < m.length), VPure Try.prog fid ([encIns l[k], encIns m[k]]) (.bool (p l[k] m[k]))) :
    VPure Try.prog 45 [vl (encIns) l, vl (encIns) m, .func fid []] (.bool (eqF p l m)) := by
  intro S
  by_cases hlm : l.length = m.length
  · have hlm' : (l.length : Int) = (m.length : Int) := by omega
    have h := h hlm
    refine vcalls_start (c := bodyOf Try.f45) Try.func45 rfl rfl (by simp [Try.ntmps45]) ?_
    rw [Try.ntmps45]
    intro hwf
    repeat (first | refine vw_seqAt rfl ?_ | refine vw_scopeAt rfl ?_ | refine vw_labelAt rfl ?_ | refine vw_skipAt rfl ?_ | refine vw_exitAt _ rfl rfl ?_ | refine vw_retAt rfl ?_ | (refine vw_condT rfl rfl ?_ ?_; focus (simp [ev, Fr.look]; done)) | (refine vw_condF rfl rfl ?_ ?_; focus (simp [ev, Fr.look]; done)) | refine vw_blockAt _ rfl rfl ?_ | (apply vw_regionRun; (focus rfl); (focus ((conv => lhs; reduce); done)); (focus ((conv => lhs; simp [-List.map_set, set_vnat, set_vnat1, set_vint, set_bool, hlm, hlm']); done)); refine vseg_done ?_) | (apply vw_drawPlain; (focus rfl); (focus kernel_rfl); (focus ((conv => lhs; reduce); done)); (focus ((conv => lhs; reduce); done)); (focus (kernel_rfl)); (focus ((conv => lhs; simp [-List.map_set, set_vnat, set_vnat1, set_vint, set_bool, hlm, hlm']); done)); refine vseg_done ?_))
    repeat refine vw_seqAt rfl ?_
    refine vw_loopAt [1, 2, 15, 16, 17] rfl (fun c σ S' => ∃ (k : Nat), k ≤ l.length ∧ c = l.length - k ∧ eqF p (l.drop k) (m.drop k) = eqF p l m ∧ σ = [(1, vl (encIns) m), (2, .func fid []), (15, vl (encIns) l), (16, vnat m.length), (17, vnat k)] ∧ S' = St S [] []) l.length ?_ ?_
    · exact ⟨0, by omega, rfl, rfl, by simp [Fr.only, hlm], rfl⟩
    · rintro c σ T ⟨k, hk, rfl, hd, rfl, rfl⟩
      by_cases hkt : k < l.length
      · have hkm : k < m.length := by omega
        have hw := wrapNat hkt hl
        have hst : eqF p (l.drop k) (m.drop k) = (p l[k] m[k] && eqF p (l.drop (k + 1)) (m.drop (k + 1))) := by rw [List.drop_eq_getElem_cons hkt, List.drop_eq_getElem_cons hkm, eqF]
        have hh := h k hkt hkm
        obtain ⟨x, hx⟩ : ∃ x, l[k] = x := ⟨_, rfl⟩
        obtain ⟨y, hy⟩ : ∃ y, m[k] = y := ⟨_, rfl⟩
        rw [hx, hy] at hst hh
        repeat (first | refine vw_seqAt rfl ?_ | refine vw_scopeAt rfl ?_ | refine vw_labelAt rfl ?_ | refine vw_skipAt rfl ?_ | refine vw_exitAt _ rfl rfl ?_ | refine vw_retAt rfl ?_ | (refine vw_condT rfl rfl ?_ ?_; focus (simp [ev, Fr.look]; done)) | (refine vw_condF rfl rfl ?_ ?_; focus (simp [ev, Fr.look]; done)) | refine vw_blockAt _ rfl rfl ?_ | (apply vw_regionRun; (focus rfl); (focus ((conv => lhs; reduce); done)); (focus ((conv => lhs; simp [-List.map_set, set_vnat, set_vnat1, set_vint, set_bool, hkt, hkm, hx, hy]); done)); refine vseg_done ?_) | (apply vw_drawPlain; (focus rfl); (focus kernel_rfl); (focus ((conv => lhs; reduce); done)); (focus ((conv => lhs; reduce); done)); (focus (kernel_rfl)); (focus ((conv => lhs; simp [-List.map_set, set_vnat, set_vnat1, set_vint, set_bool, hkt, hkm, hx, hy]); done)); refine vseg_done ?_))
        repeat refine vw_seqAt rfl ?_
        refine vw_regionRun rfl (by conv => lhs; reduce) (by conv => lhs; simp [-List.map_set, set_vnat, set_vnat1, set_vint, set_bool, hkt, hkm, hx, hy]) ?_
        refine vcallv_use rfl hc rfl hh ?_
        refine vseg_more (by conv => lhs; simp [-List.map_set, set_vnat, set_vnat1, set_vint, set_bool]) ?_
        refine vseg_done ?_
        cases hp : p x y with
        | false =>
          rw [hp] at hst
          repeat (first | refine vw_seqAt rfl ?_ | refine vw_scopeAt rfl ?_ | refine vw_labelAt rfl ?_ | refine vw_skipAt rfl ?_ | refine vw_exitAt _ rfl rfl ?_ | refine vw_retAt rfl ?_ | (refine vw_condT rfl rfl ?_ ?_; focus (simp [ev, Fr.look]; done)) | (refine vw_condF rfl rfl ?_ ?_; focus (simp [ev, Fr.look]; done)) | refine vw_blockAt _ rfl rfl ?_ | (apply vw_regionRun; (focus rfl); (focus ((conv => lhs; reduce); done)); (focus ((conv => lhs; simp [-List.map_set, set_vnat, set_vnat1, set_vint, set_bool, hp]); done)); refine vseg_done ?_) | (apply vw_drawPlain; (focus rfl); (focus kernel_rfl); (focus ((conv => lhs; reduce); done)); (focus ((conv => lhs; reduce); done)); (focus (kernel_rfl)); (focus ((conv => lhs; simp [-List.map_set, set_vnat, set_vnat1, set_vint, set_bool, hp]); done)); refine vseg_done ?_))
          exact done_pure hwf (by rw [← hd, hst]; rfl) rfl
        | true =>
          rw [hp] at hst
          repeat (first | refine vw_seqAt rfl ?_ | refine vw_scopeAt rfl ?_ | refine vw_labelAt rfl ?_ | refine vw_skipAt rfl ?_ | refine vw_exitAt _ rfl rfl ?_ | refine vw_retAt rfl ?_ | (refine vw_condT rfl rfl ?_ ?_; focus (simp [ev, Fr.look]; done)) | (refine vw_condF rfl rfl ?_ ?_; focus (simp [ev, Fr.look]; done)) | refine vw_blockAt _ rfl rfl ?_ | (apply vw_regionRun; (focus rfl); (focus ((conv => lhs; reduce); done)); (focus ((conv => lhs; simp [-List.map_set, set_vnat, set_vnat1, set_vint, set_bool, hp]); done)); refine vseg_done ?_) | (apply vw_drawPlain; (focus rfl); (focus kernel_rfl); (focus ((conv => lhs; reduce); done)); (focus ((conv => lhs; reduce); done)); (focus (kernel_rfl)); (focus ((conv => lhs; simp [-List.map_set, set_vnat, set_vnat1, set_vint, set_bool, hp]); done)); refine vseg_done ?_))
          refine again_gc [] (by conv => lhs; simp [Fr.only]) hwf (by decide) (by simp [-List.map_set]) (by conv => lhs; simp [-List.map_set]) (by conv => lhs; simp [-List.map_set]) (by conv => lhs; simp [-List.map_set]) ⟨?_, k + 1, hkt, rfl, by rw [← hd, hst]; rfl, by simp [hw], rfl⟩
          omega
      · have e : l.drop k = [] := by rw [List.drop_eq_nil_iff]; omega
        have e' : m.drop k = [] := by rw [List.drop_eq_nil_iff]; omega
        rw [e, e'] at hd
        have hkm : ¬ k < m.length := by omega
        repeat (first | refine vw_seqAt rfl ?_ | refine vw_scopeAt rfl ?_ | refine vw_labelAt rfl ?_ | refine vw_skipAt rfl ?_ | refine vw_exitAt _ rfl rfl ?_ | refine vw_retAt rfl ?_ | (refine vw_condT rfl rfl ?_ ?_; focus (simp [ev, Fr.look]; done)) | (refine vw_condF rfl rfl ?_ ?_; focus (simp [ev, Fr.look]; done)) | refine vw_blockAt _ rfl rfl ?_ | (apply vw_regionRun; (focus rfl); (focus ((conv => lhs; reduce); done)); (focus ((conv => lhs; simp [-List.map_set, set_vnat, set_vnat1, set_vint, set_bool, hkt, hkm]); done)); refine vseg_done ?_) | (apply vw_drawPlain; (focus rfl); (focus kernel_rfl); (focus ((conv => lhs; reduce); done)); (focus ((conv => lhs; reduce); done)); (focus (kernel_rfl)); (focus ((conv => lhs; simp [-List.map_set, set_vnat, set_vnat1, set_vint, set_bool, hkt, hkm]); done)); refine vseg_done ?_))
        exact done_pure hwf (by rw [← hd]; rfl) rfl
  · have hlm' : ¬ (l.length : Int) = (m.length : Int) := by omega
    have e : eqF p l m = false := eqF_len hlm
    rw [e]
    refine vcalls_start (c := bodyOf Try.f45) Try.func45 rfl rfl (by simp [Try.ntmps45]) ?_
    rw [Try.ntmps45]
    intro hwf
    repeat (first | refine vw_seqAt rfl ?_ | refine vw_scopeAt rfl ?_ | refine vw_labelAt rfl ?_ | refine vw_skipAt rfl ?_ | refine vw_exitAt _ rfl rfl ?_ | refine vw_retAt rfl ?_ | (refine vw_condT rfl rfl ?_ ?_; focus (simp [ev, Fr.look]; done)) | (refine vw_condF rfl rfl ?_ ?_; focus (simp [ev, Fr.look]; done)) | refine vw_blockAt _ rfl rfl ?_ | (apply vw_regionRun; (focus rfl); (focus ((conv => lhs; reduce); done)); (focus ((conv => lhs; simp [-List.map_set, set_vnat, set_vnat1, set_vint, set_bool, hlm, hlm']); done)); refine vseg_done ?_) | (apply vw_drawPlain; (focus rfl); (focus kernel_rfl); (focus ((conv => lhs; reduce); done)); (focus ((conv => lhs; reduce); done)); (focus (kernel_rfl)); (focus ((conv => lhs; simp [-List.map_set, set_vnat, set_vnat1, set_vint, set_bool, hlm, hlm']); done)); refine vseg_done ?_))
    exact done_pure hwf rfl rfl

theorem EqFE_v (l m : List (Ss.Edge)) (p : Ss.Edge → Ss.Edge → Bool) (fid : FuncId) (hc : callable Try.prog fid = true) (hl : l.length < 2^63) (h : l.length = m.length → ∀ (k : Nat) (h1 : k < l.length) (h2 : k < m.length), VPure Try.prog fid ([encEdge l[k], encEdge m[k]]) (.bool (p l[k] m[k]))) :
    VPure Try.prog 47 [vl (encEdge) l, vl (encEdge) m, .func fid []] (.bool (eqF p l m)) := by
  intro S
  by_cases hlm : l.length = m.length
  · have hlm' : (l.length : Int) = (m.length : Int) := by omega
    have h := h hlm
    refine vcalls_start (c := bodyOf Try.f47) Try.func47 rfl rfl (by simp [Try.ntmps47]) ?_
    rw [Try.ntmps47]
    intro hwf
    repeat (first | refine vw_seqAt rfl ?_ | refine vw_scopeAt rfl ?_ | refine vw_labelAt rfl ?_ | refine vw_skipAt rfl ?_ | refine vw_exitAt _ rfl rfl ?_ | refine vw_retAt rfl ?_ | (refine vw_condT rfl rfl ?_ ?_; focus (simp [ev, Fr.look]; done)) | (refine vw_condF rfl rfl ?_ ?_; focus (simp [ev, Fr.look]; done)) | refine vw_blockAt _ rfl rfl ?_ | (apply vw_regionRun; (focus rfl); (focus ((conv => lhs; reduce); done)); (focus ((conv => lhs; simp [-List.map_set, set_vnat, set_vnat1, set_vint, set_bool, hlm, hlm']); done)); refine vseg_done ?_) | (apply vw_drawPlain; (focus rfl); (focus kernel_rfl); (focus ((conv => lhs; reduce); done)); (focus ((conv => lhs; reduce); done)); (focus (kernel_rfl)); (focus ((conv => lhs; simp [-List.map_set, set_vnat, set_vnat1, set_vint, set_bool, hlm, hlm']); done)); refine vseg_done ?_))
    repeat refine vw_seqAt rfl ?_
    refine vw_loopAt [1, 2, 15, 16, 17] rfl (fun c σ S' => ∃ (k : Nat), k ≤ l.length ∧ c = l.length - k ∧ eqF p (l.drop k) (m.drop k) = eqF p l m ∧ σ = [(1, vl (encEdge) m), (2, .func fid []), (15, vl (encEdge) l), (16, vnat m.length), (17, vnat k)] ∧ S' = St S [] []) l.length ?_ ?_
    · exact ⟨0, by omega, rfl, rfl, by simp [Fr.only, hlm], rfl⟩
    · rintro c σ T ⟨k, hk, rfl, hd, rfl, rfl⟩
      by_cases hkt : k < l.length
      · have hkm : k < m.length := by omega
        have hw := wrapNat hkt hl
        have hst : eqF p (l.drop k) (m.drop k) = (p l[k] m[k] && eqF p (l.drop (k + 1)) (m.drop (k + 1))) := by rw [List.drop_eq_getElem_cons hkt, List.drop_eq_getElem_cons hkm, eqF]
        have hh := h k hkt hkm
        obtain ⟨x, hx⟩ : ∃ x, l[k] = x := ⟨_, rfl⟩
        obtain ⟨y, hy⟩ : ∃ y, m[k] = y := ⟨_, rfl⟩
        rw [hx, hy] at hst hh
        repeat (first | refine vw_seqAt rfl ?_ | refine vw_scopeAt rfl ?_ | refine vw_labelAt rfl ?_ | refine vw_skipAt rfl ?_ | refine vw_exitAt _ rfl rfl ?_ | refine vw_retAt rfl ?_ | (refine vw_condT rfl rfl ?_ ?_; focus (simp [ev, Fr.look]; done)) | (refine vw_condF rfl rfl ?_ ?_; focus (simp [ev, Fr.look]; done)) | refine vw_blockAt _ rfl rfl ?_ | (apply vw_regionRun; (focus rfl); (focus ((conv => lhs; reduce); done)); (focus ((conv => lhs; simp [-List.map_set, set_vnat, set_vnat1, set_vint, set_bool, hkt, hkm, hx, hy]); done)); refine vseg_done ?_) | (apply vw_drawPlain; (focus rfl); (focus kernel_rfl); (focus ((conv => lhs; reduce); done)); (focus ((conv => lhs; reduce); done)); (focus (kernel_rfl)); (focus ((conv => lhs; simp [-List.map_set, set_vnat, set_vnat1, set_vint, set_bool, hkt, hkm, hx, hy]); done)); refine vseg_done ?_))
        repeat refine vw_seqAt rfl ?_
        refine vw_regionRun rfl (by conv => lhs; reduce) (by conv => lhs; simp [-List.map_set, set_vnat, set_vnat1, set_vint, set_bool, hkt, hkm, hx, hy]) ?_
        refine vcallv_use rfl hc rfl hh ?_
        refine vseg_more (by conv => lhs; simp [-List.map_set, set_vnat, set_vnat1, set_vint, set_bool]) ?_
        refine vseg_done ?_
        cases hp : p x y with
        | false =>
          rw [hp] at hst
          repeat (first | refine vw_seqAt rfl ?_ | refine vw_scopeAt rfl ?_ | refine vw_labelAt rfl ?_ | refine vw_skipAt rfl ?_ | refine vw_exitAt _ rfl rfl ?_ | refine vw_retAt rfl ?_ | (refine vw_condT rfl rfl ?_ ?_; focus (simp [ev, Fr.look]; done)) | (refine vw_condF rfl rfl ?_ ?_; focus (simp [ev, Fr.look]; done)) | refine vw_blockAt _ rfl rfl ?_ | (apply vw_regionRun; (focus rfl); (focus ((conv => lhs; reduce); done)); (focus ((conv => lhs; simp [-List.map_set, set_vnat, set_vnat1, set_vint, set_bool, hp]); done)); refine vseg_done ?_) | (apply vw_drawPlain; (focus rfl); (focus kernel_rfl); (focus ((conv => lhs; reduce); done)); (focus ((conv => lhs; reduce); done)); (focus (kernel_rfl)); (focus ((conv => lhs; simp [-List.map_set, set_vnat, set_vnat1, set_vint, set_bool, hp]); done)); refine vseg_done ?_))
          exact done_pure hwf (by rw [← hd, hst]; rfl) rfl
        | true =>
          rw [hp] at hst
          repeat (first | refine vw_seqAt rfl ?_ | refine vw_scopeAt rfl ?_ | refine vw_labelAt rfl ?_ | refine vw_skipAt rfl ?_ | refine vw_exitAt _ rfl rfl ?_ | refine vw_retAt rfl ?_ | (refine vw_condT rfl rfl ?_ ?_; focus (simp [ev, Fr.look]; done)) | (refine vw_condF rfl rfl ?_ ?_; focus (simp [ev, Fr.look]; done)) | refine vw_blockAt _ rfl rfl ?_ | (apply vw_regionRun; (focus rfl); (focus ((conv => lhs; reduce); done)); (focus ((conv => lhs; simp [-List.map_set, set_vnat, set_vnat1, set_vint, set_bool, hp]); done)); refine vseg_done ?_) | (apply vw_drawPlain; (focus rfl); (focus kernel_rfl); (focus ((conv => lhs; reduce); done)); (focus ((conv => lhs; reduce); done)); (focus (kernel_rfl)); (focus ((conv => lhs; simp [-List.map_set, set_vnat, set_vnat1, set_vint, set_bool, hp]); done)); refine vseg_done ?_))
          refine again_gc [] (by conv => lhs; simp [Fr.only]) hwf (by decide) (by simp [-List.map_set]) (by conv => lhs; simp [-List.map_set]) (by conv => lhs; simp [-List.map_set]) (by conv => lhs; simp [-List.map_set]) ⟨?_, k + 1, hkt, rfl, by rw [← hd, hst]; rfl, by simp [hw], rfl⟩
          omega
      · have e : l.drop k = [] := by rw [List.drop_eq_nil_iff]; omega
        have e' : m.drop k = [] := by rw [List.drop_eq_nil_iff]; omega
        rw [e, e'] at hd
        have hkm : ¬ k < m.length := by omega
        repeat (first | refine vw_seqAt rfl ?_ | refine vw_scopeAt rfl ?_ | refine vw_labelAt rfl ?_ | refine vw_skipAt rfl ?_ | refine vw_exitAt _ rfl rfl ?_ | refine vw_retAt rfl ?_ | (refine vw_condT rfl rfl ?_ ?_; focus (simp [ev, Fr.look]; done)) | (refine vw_condF rfl rfl ?_ ?_; focus (simp [ev, Fr.look]; done)) | refine vw_blockAt _ rfl rfl ?_ | (apply vw_regionRun; (focus rfl); (focus ((conv => lhs; reduce); done)); (focus ((conv => lhs; simp [-List.map_set, set_vnat, set_vnat1, set_vint, set_bool, hkt, hkm]); done)); refine vseg_done ?_) | (apply vw_drawPlain; (focus rfl); (focus kernel_rfl); (focus ((conv => lhs; reduce); done)); (focus ((conv => lhs; reduce); done)); (focus (kernel_rfl)); (focus ((conv => lhs; simp [-List.map_set, set_vnat, set_vnat1, set_vint, set_bool, hkt, hkm]); done)); refine vseg_done ?_))
        exact done_pure hwf (by rw [← hd]; rfl) rfl
  · have hlm' : ¬ (l.length : Int) = (m.length : Int) := by omega
    have e : eqF p l m = false := eqF_len hlm
    rw [e]
    refine vcalls_start (c := bodyOf Try.f47) Try.func47 rfl rfl (by simp [Try.ntmps47]) ?_
    rw [Try.ntmps47]
    intro hwf
    repeat (first | refine vw_seqAt rfl ?_ | refine vw_scopeAt rfl ?_ | refine vw_labelAt rfl ?_ | refine vw_skipAt rfl ?_ | refine vw_exitAt _ rfl rfl ?_ | refine vw_retAt rfl ?_ | (refine vw_condT rfl rfl ?_ ?_; focus (simp [ev, Fr.look]; done)) | (refine vw_condF rfl rfl ?_ ?_; focus (simp [ev, Fr.look]; done)) | refine vw_blockAt _ rfl rfl ?_ | (apply vw_regionRun; (focus rfl); (focus ((conv => lhs; reduce); done)); (focus ((conv => lhs; simp [-List.map_set, set_vnat, set_vnat1, set_vint, set_bool, hlm, hlm']); done)); refine vseg_done ?_) | (apply vw_drawPlain; (focus rfl); (focus kernel_rfl); (focus ((conv => lhs; reduce); done)); (focus ((conv => lhs; reduce); done)); (focus (kernel_rfl)); (focus ((conv => lhs; simp [-List.map_set, set_vnat, set_vnat1, set_vint, set_bool, hlm, hlm']); done)); refine vseg_done ?_))
    exact done_pure hwf rfl rfl

theorem EqFI_v (l m : List (Int)) (p : Int → Int → Bool) (fid : FuncId) (caps : List V) (hc : callable Try.prog fid = true) (hl : l.length < 2^63) (h : l.length = m.length → ∀ (k : Nat) (h1 : k < l.length) (h2 : k < m.length), VPure Try.prog fid ([vint l[k], vint m[k]] ++ caps) (.bool (p l[k] m[k]))) :
    VPure Try.prog 82 [vl (vint) l, vl (vint) m, .func fid caps] (.bool (eqF p l m)) := by
  intro S
  by_cases hlm : l.length = m.length
  · have hlm' : (l.length : Int) = (m.length : Int) := by omega
    have h := h hlm
    refine vcalls_start (c := bodyOf Try.f82) Try.func82 rfl rfl (by simp [Try.ntmps82]) ?_
    rw [Try.ntmps82]
    intro hwf
    repeat (first | refine vw_seqAt rfl ?_ | refine vw_scopeAt rfl ?_ | refine vw_labelAt rfl ?_ | refine vw_skipAt rfl ?_ | refine vw_exitAt _ rfl rfl ?_ | refine vw_retAt rfl ?_ | (refine vw_condT rfl rfl ?_ ?_; focus (simp [ev, Fr.look]; done)) | (refine vw_condF rfl rfl ?_ ?_; focus (simp [ev, Fr.look]; done)) | refine vw_blockAt _ rfl rfl ?_ | (apply vw_regionRun; (focus rfl); (focus ((conv => lhs; reduce); done)); (focus ((conv => lhs; simp [-List.map_set, set_vnat, set_vnat1, set_vint, set_bool, hlm, hlm']); done)); refine vseg_done ?_) | (apply vw_drawPlain; (focus rfl); (focus kernel_rfl); (focus ((conv => lhs; reduce); done)); (focus ((conv => lhs; reduce); done)); (focus (kernel_rfl)); (focus ((conv => lhs; simp [-List.map_set, set_vnat, set_vnat1, set_vint, set_bool, hlm, hlm']); done)); refine vseg_done ?_))
    repeat refine vw_seqAt rfl ?_
    refine vw_loopAt [1, 2, 15, 16, 17] rfl (fun c σ S' => ∃ (k : Nat), k ≤ l.length ∧ c = l.length - k ∧ eqF p (l.drop k) (m.drop k) = eqF p l m ∧ σ = [(1, vl (vint) m), (2, .func fid caps), (15, vl (vint) l), (16, vnat m.length), (17, vnat k)] ∧ S' = St S [] []) l.length ?_ ?_
    · exact ⟨0, by omega, rfl, rfl, by simp [Fr.only, hlm], rfl⟩
    · rintro c σ T ⟨k, hk, rfl, hd, rfl, rfl⟩
      by_cases hkt : k < l.length
      · have hkm : k < m.length := by omega
        have hw := wrapNat hkt hl
        have hst : eqF p (l.drop k) (m.drop k) = (p l[k] m[k] && eqF p (l.drop (k + 1)) (m.drop (k + 1))) := by rw [List.drop_eq_getElem_cons hkt, List.drop_eq_getElem_cons hkm, eqF]
        have hh := h k hkt hkm
        obtain ⟨x, hx⟩ : ∃ x, l[k] = x := ⟨_, rfl⟩
        obtain ⟨y, hy⟩ : ∃ y, m[k] = y := ⟨_, rfl⟩
        rw [hx, hy] at hst hh
        repeat (first | refine vw_seqAt rfl ?_ | refine vw_scopeAt rfl ?_ | refine vw_labelAt rfl ?_ | refine vw_skipAt rfl ?_ | refine vw_exitAt _ rfl rfl ?_ | refine vw_retAt rfl ?_ | (refine vw_condT rfl rfl ?_ ?_; focus (simp [ev, Fr.look]; done)) | (refine vw_condF rfl rfl ?_ ?_; focus (simp [ev, Fr.look]; done)) | refine vw_blockAt _ rfl rfl ?_ | (apply vw_regionRun; (focus rfl); (focus ((conv => lhs; reduce); done)); (focus ((conv => lhs; simp [-List.map_set, set_vnat, set_vnat1, set_vint, set_bool, hkt, hkm, hx, hy]); done)); refine vseg_done ?_) | (apply vw_drawPlain; (focus rfl); (focus kernel_rfl); (focus ((conv => lhs; reduce); done)); (focus ((conv => lhs; reduce); done)); (focus (kernel_rfl)); (focus ((conv => lhs; simp [-List.map_set, set_vnat, set_vnat1, set_vint, set_bool, hkt, hkm, hx, hy]); done)); refine vseg_done ?_))
        repeat refine vw_seqAt rfl ?_
        refine vw_regionRun rfl (by conv => lhs; reduce) (by conv => lhs; simp [-List.map_set, set_vnat, set_vnat1, set_vint, set_bool, hkt, hkm, hx, hy]) ?_
        refine vcallv_use rfl hc rfl hh ?_
        refine vseg_more (by conv => lhs; simp [-List.map_set, set_vnat, set_vnat1, set_vint, set_bool]) ?_
        refine vseg_done ?_
        cases hp : p x y with
        | false =>
          rw [hp] at hst
          repeat (first | refine vw_seqAt rfl ?_ | refine vw_scopeAt rfl ?_ | refine vw_labelAt rfl ?_ | refine vw_skipAt rfl ?_ | refine vw_exitAt _ rfl rfl ?_ | refine vw_retAt rfl ?_ | (refine vw_condT rfl rfl ?_ ?_; focus (simp [ev, Fr.look]; done)) | (refine vw_condF rfl rfl ?_ ?_; focus (simp [ev, Fr.look]; done)) | refine vw_blockAt _ rfl rfl ?_ | (apply vw_regionRun; (focus rfl); (focus ((conv => lhs; reduce); done)); (focus ((conv => lhs; simp [-List.map_set, set_vnat, set_vnat1, set_vint, set_bool, hp]); done)); refine vseg_done ?_) | (apply vw_drawPlain; (focus rfl); (focus kernel_rfl); (focus ((conv => lhs; reduce); done)); (focus ((conv => lhs; reduce); done)); (focus (kernel_rfl)); (focus ((conv => lhs; simp [-List.map_set, set_vnat, set_vnat1, set_vint, set_bool, hp]); done)); refine vseg_done ?_))
          exact done_pure hwf (by rw [← hd, hst]; rfl) rfl
        | true =>
          rw [hp] at hst
          repeat (first | refine vw_seqAt rfl ?_ | refine vw_scopeAt rfl ?_ | refine vw_labelAt rfl ?_ | refine vw_skipAt rfl ?_ | refine vw_exitAt _ rfl rfl ?_ | refine vw_retAt rfl ?_ | (refine vw_condT rfl rfl ?_ ?_; focus (simp [ev, Fr.look]; done)) | (refine vw_condF rfl rfl ?_ ?_; focus (simp [ev, Fr.look]; done)) | refine vw_blockAt _ rfl rfl ?_ | (apply vw_regionRun; (focus rfl); (focus ((conv => lhs; reduce); done)); (focus ((conv => lhs; simp [-List.map_set, set_vnat, set_vnat1, set_vint, set_bool, hp]); done)); refine vseg_done ?_) | (apply vw_drawPlain; (focus rfl); (focus kernel_rfl); (focus ((conv => lhs; reduce); done)); (focus ((conv => lhs; reduce); done)); (focus (kernel_rfl)); (focus ((conv => lhs; simp [-List.map_set, set_vnat, set_vnat1, set_vint, set_bool, hp]); done)); refine vseg_done ?_))
          show Again _ _ _ _ _ _ _
          exact again ⟨Nat.sub_lt_sub_left hkt (Nat.lt_succ_self k), k + 1, hkt, rfl, by rw [← hd, hst]; rfl, by simp [Fr.only, hw], rfl⟩
      · have e : l.drop k = [] := by rw [List.drop_eq_nil_iff]; omega
        have e' : m.drop k = [] := by rw [List.drop_eq_nil_iff]; omega
        rw [e, e'] at hd
        have hkm : ¬ k < m.length := by omega
        repeat (first | refine vw_seqAt rfl ?_ | refine vw_scopeAt rfl ?_ | refine vw_labelAt rfl ?_ | refine vw_skipAt rfl ?_ | refine vw_exitAt _ rfl rfl ?_ | refine vw_retAt rfl ?_ | (refine vw_condT rfl rfl ?_ ?_; focus (simp [ev, Fr.look]; done)) | (refine vw_condF rfl rfl ?_ ?_; focus (simp [ev, Fr.look]; done)) | refine vw_blockAt _ rfl rfl ?_ | (apply vw_regionRun; (focus rfl); (focus ((conv => lhs; reduce); done)); (focus ((conv => lhs; simp [-List.map_set, set_vnat, set_vnat1, set_vint, set_bool, hkt, hkm]); done)); refine vseg_done ?_) | (apply vw_drawPlain; (focus rfl); (focus kernel_rfl); (focus ((conv => lhs; reduce); done)); (focus ((conv => lhs; reduce); done)); (focus (kernel_rfl)); (focus ((conv => lhs; simp [-List.map_set, set_vnat, set_vnat1, set_vint, set_bool, hkt, hkm]); done)); refine vseg_done ?_))
        exact done_pure hwf (by rw [← hd]; rfl) rfl
  · have hlm' : ¬ (l.length : Int) = (m.length : Int) := by omega
    have e : eqF p l m = false := eqF_len hlm
    rw [e]
    refine vcalls_start (c := bodyOf Try.f82) Try.func82 rfl rfl (by simp [Try.ntmps82]) ?_
    rw [Try.ntmps82]
    intro hwf
    repeat (first | refine vw_seqAt rfl ?_ | refine vw_scopeAt rfl ?_ | refine vw_labelAt rfl ?_ | refine vw_skipAt rfl ?_ | refine vw_exitAt _ rfl rfl ?_ | refine vw_retAt rfl ?_ | (refine vw_condT rfl rfl ?_ ?_; focus (simp [ev, Fr.look]; done)) | (refine vw_condF rfl rfl ?_ ?_; focus (simp [ev, Fr.look]; done)) | refine vw_blockAt _ rfl rfl ?_ | (apply vw_regionRun; (focus rfl); (focus ((conv => lhs; reduce); done)); (focus ((conv => lhs; simp [-List.map_set, set_vnat, set_vnat1, set_vint, set_bool, hlm, hlm']); done)); refine vseg_done ?_) | (apply vw_drawPlain; (focus rfl); (focus kernel_rfl); (focus ((conv => lhs; reduce); done)); (focus ((conv => lhs; reduce); done)); (focus (kernel_rfl)); (focus ((conv => lhs; simp [-List.map_set, set_vnat, set_vnat1, set_vint, set_bool, hlm, hlm']); done)); refine vseg_done ?_))
    exact done_pure hwf rfl rfl

end Go.Vw
