import Derived.Test.YtmfpoangempgaaaC13
import Derived.Test.YtmfpoangempgaaaProg
/-
  Part of the proof (texts SIdx).
-/
set_option linter.unusedVariables false
set_option linter.unusedSimpArgs false
namespace Go.Vw
open Go.Proofs Go.RowKit
set_option maxRecDepth 10000
set_option maxHeartbeats 4000000

/-- The first place where a test holds, from a number on; -1: none. -/
def findI {α : Type} (p : α → Bool) : List α → Nat → Int
  | [], _ => -1
  | x :: xs, k => if p x then (k : Int) else findI p xs (k + 1)
theorem findI_any {α : Type} (p : α → Bool) : ∀ (l : List α) (k : Nat), decide (0 ≤ findI p l k) = l.any p
  | [], k => by simp [findI]
  | x :: xs, k => by
      cases h : p x
      · simp [findI, h, findI_any p xs (k + 1)]
      · simp [findI, h]

/-- The same lists, by a test of elements. -/
def eqF {α : Type} (p : α → α → Bool) : List α → List α → Bool
  | [], [] => true
  | x :: xs, y :: ys => p x y && eqF p xs ys
  | _, _ => false
theorem eqF_len {α : Type} {p : α → α → Bool} : ∀ {l m : List α}, ¬ l.length = m.length → eqF p l m = false
  | [], [], h => absurd rfl h
  | [], _ :: _, _ => rfl
  | _ :: _, [], _ => rfl
  | x :: xs, y :: ys, h => by rw [eqF, eqF_len (l := xs) (m := ys) (by simpa using h)]; simp
theorem eqF_eq {α : Type} [DecidableEq α] {p : α → α → Bool} (hp : ∀ x y, p x y = decide (x = y)) : ∀ (l m : List α), eqF p l m = decide (l = m)
  | [], [] => by simp [eqF]
  | [], _ :: _ => by simp [eqF]
  | _ :: _, [] => by simp [eqF]
  | x :: xs, y :: ys => by rw [eqF, hp, eqF_eq hp xs ys]; simp

theorem IndexL_v (l : List (List Int)) (p : List Int → Bool) (fid : FuncId) (caps : List V) (hc : callable Try.prog fid = true) (hl : l.length < 2^63) (h : ∀ x ∈ l, VPure Try.prog fid ([vl vint x] ++ caps) (.bool (p x))) :
    VPure Try.prog 85 [vl (vl vint) l, .func fid caps] (vint (findI p l 0)) := by
  intro S
  refine vcalls_start (c := bodyOf Try.f85) Try.func85 rfl rfl (by simp [Try.ntmps85]) ?_
  rw [Try.ntmps85]
  intro hwf
  repeat (first | refine vw_seqAt rfl ?_ | refine vw_scopeAt rfl ?_ | refine vw_labelAt rfl ?_ | refine vw_skipAt rfl ?_ | refine vw_exitAt _ rfl rfl ?_ | refine vw_retAt rfl ?_ | (refine vw_condT rfl rfl ?_ ?_; focus (simp [ev, Fr.look]; done)) | (refine vw_condF rfl rfl ?_ ?_; focus (simp [ev, Fr.look]; done)) | refine vw_blockAt _ rfl rfl ?_ | (apply vw_regionRun; (focus rfl); (focus ((conv => lhs; reduce); done)); (focus ((conv => lhs; simp [-List.map_set, set_vnat, set_vnat1, set_vint, set_bool]); done)); refine vseg_done ?_) | (apply vw_drawPlain; (focus rfl); (focus kernel_rfl); (focus ((conv => lhs; reduce); done)); (focus ((conv => lhs; reduce); done)); (focus (kernel_rfl)); (focus ((conv => lhs; simp [-List.map_set, set_vnat, set_vnat1, set_vint, set_bool]); done)); refine vseg_done ?_))
  repeat refine vw_seqAt rfl ?_
  refine vw_loopAt [0, 1, 7, 8] rfl (fun c σ S' => ∃ (k : Nat), k ≤ l.length ∧ c = l.length - k ∧ findI p (l.drop k) k = findI p l 0 ∧ σ = [(0, vl (vl vint) l), (1, .func fid caps), (7, vnat l.length), (8, vnat k)] ∧ S' = St S [] []) l.length ?_ ?_
  · exact ⟨0, by omega, rfl, rfl, by simp [Fr.only], rfl⟩
  · rintro c σ T ⟨k, hk, rfl, hd, rfl, rfl⟩
    by_cases hkt : k < l.length
    · have hst : findI p (l.drop k) k = if p l[k] then (k : Int) else findI p (l.drop (k + 1)) (k + 1) := by rw [List.drop_eq_getElem_cons hkt, findI]
      have hw := wrapNat hkt hl
      repeat (first | refine vw_seqAt rfl ?_ | refine vw_scopeAt rfl ?_ | refine vw_labelAt rfl ?_ | refine vw_skipAt rfl ?_ | refine vw_exitAt _ rfl rfl ?_ | refine vw_retAt rfl ?_ | (refine vw_condT rfl rfl ?_ ?_; focus (simp [ev, Fr.look]; done)) | (refine vw_condF rfl rfl ?_ ?_; focus (simp [ev, Fr.look]; done)) | refine vw_blockAt _ rfl rfl ?_ | (apply vw_regionRun; (focus rfl); (focus ((conv => lhs; reduce); done)); (focus ((conv => lhs; simp [-List.map_set, set_vnat, set_vnat1, set_vint, set_bool, hkt]); done)); refine vseg_done ?_) | (apply vw_drawPlain; (focus rfl); (focus kernel_rfl); (focus ((conv => lhs; reduce); done)); (focus ((conv => lhs; reduce); done)); (focus (kernel_rfl)); (focus ((conv => lhs; simp [-List.map_set, set_vnat, set_vnat1, set_vint, set_bool, hkt]); done)); refine vseg_done ?_))
      repeat refine vw_seqAt rfl ?_
      refine vw_regionRun rfl (by conv => lhs; reduce) (by conv => lhs; simp [-List.map_set, set_vnat, set_vnat1, set_vint, set_bool, hkt]) ?_
      refine vcallv_use rfl hc rfl (h _ (List.getElem_mem hkt)) ?_
      refine vseg_more (by conv => lhs; simp [-List.map_set, set_vnat, set_vnat1, set_vint, set_bool]) ?_
      refine vseg_done ?_
      cases hp : p l[k] with
      | true =>
        rw [hp] at hst
        repeat (first | refine vw_seqAt rfl ?_ | refine vw_scopeAt rfl ?_ | refine vw_labelAt rfl ?_ | refine vw_skipAt rfl ?_ | refine vw_exitAt _ rfl rfl ?_ | refine vw_retAt rfl ?_ | (refine vw_condT rfl rfl ?_ ?_; focus (simp [ev, Fr.look]; done)) | (refine vw_condF rfl rfl ?_ ?_; focus (simp [ev, Fr.look]; done)) | refine vw_blockAt _ rfl rfl ?_ | (apply vw_regionRun; (focus rfl); (focus ((conv => lhs; reduce); done)); (focus ((conv => lhs; simp [-List.map_set, set_vnat, set_vnat1, set_vint, set_bool, hp]); done)); refine vseg_done ?_) | (apply vw_drawPlain; (focus rfl); (focus kernel_rfl); (focus ((conv => lhs; reduce); done)); (focus ((conv => lhs; reduce); done)); (focus (kernel_rfl)); (focus ((conv => lhs; simp [-List.map_set, set_vnat, set_vnat1, set_vint, set_bool, hp]); done)); refine vseg_done ?_))
        exact done_pure hwf (by rw [← hd, hst]; rfl) rfl
      | false =>
        rw [hp] at hst
        repeat (first | refine vw_seqAt rfl ?_ | refine vw_scopeAt rfl ?_ | refine vw_labelAt rfl ?_ | refine vw_skipAt rfl ?_ | refine vw_exitAt _ rfl rfl ?_ | refine vw_retAt rfl ?_ | (refine vw_condT rfl rfl ?_ ?_; focus (simp [ev, Fr.look]; done)) | (refine vw_condF rfl rfl ?_ ?_; focus (simp [ev, Fr.look]; done)) | refine vw_blockAt _ rfl rfl ?_ | (apply vw_regionRun; (focus rfl); (focus ((conv => lhs; reduce); done)); (focus ((conv => lhs; simp [-List.map_set, set_vnat, set_vnat1, set_vint, set_bool, hp]); done)); refine vseg_done ?_) | (apply vw_drawPlain; (focus rfl); (focus kernel_rfl); (focus ((conv => lhs; reduce); done)); (focus ((conv => lhs; reduce); done)); (focus (kernel_rfl)); (focus ((conv => lhs; simp [-List.map_set, set_vnat, set_vnat1, set_vint, set_bool, hp]); done)); refine vseg_done ?_))
        show Again _ _ _ _ _ _ _
        exact again ⟨Nat.sub_lt_sub_left hkt (Nat.lt_succ_self k), k + 1, hkt, rfl, by rw [← hd, hst]; rfl, by simp [Fr.only, hw], rfl⟩
    · have e : l.drop k = [] := by rw [List.drop_eq_nil_iff]; omega
      rw [e] at hd
      repeat (first | refine vw_seqAt rfl ?_ | refine vw_scopeAt rfl ?_ | refine vw_labelAt rfl ?_ | refine vw_skipAt rfl ?_ | refine vw_exitAt _ rfl rfl ?_ | refine vw_retAt rfl ?_ | (refine vw_condT rfl rfl ?_ ?_; focus (simp [ev, Fr.look]; done)) | (refine vw_condF rfl rfl ?_ ?_; focus (simp [ev, Fr.look]; done)) | refine vw_blockAt _ rfl rfl ?_ | (apply vw_regionRun; (focus rfl); (focus ((conv => lhs; reduce); done)); (focus ((conv => lhs; simp [-List.map_set, set_vnat, set_vnat1, set_vint, set_bool, hkt]); done)); refine vseg_done ?_) | (apply vw_drawPlain; (focus rfl); (focus kernel_rfl); (focus ((conv => lhs; reduce); done)); (focus ((conv => lhs; reduce); done)); (focus (kernel_rfl)); (focus ((conv => lhs; simp [-List.map_set, set_vnat, set_vnat1, set_vint, set_bool, hkt]); done)); refine vseg_done ?_))
      exact done_pure hwf (by rw [← hd]; rfl) rfl

theorem AnyL_v (l : List (List Int)) (p : List Int → Bool) (fid : FuncId) (caps : List V) (hc : callable Try.prog fid = true) (hl : l.length < 2^63) (h : ∀ x ∈ l, VPure Try.prog fid ([vl vint x] ++ caps) (.bool (p x))) :
    VPure Try.prog 66 [vl (vl vint) l, .func fid caps] (.bool (l.any p)) := by
  intro S
  refine vcalls_start (c := bodyOf Try.f66) Try.func66 rfl rfl (by simp [Try.ntmps66]) ?_
  rw [Try.ntmps66]
  intro hwf
  rw [← findI_any p l 0]
  repeat (first | refine vw_seqAt rfl ?_ | refine vw_scopeAt rfl ?_ | refine vw_labelAt rfl ?_ | refine vw_skipAt rfl ?_ | refine vw_exitAt _ rfl rfl ?_ | refine vw_retAt rfl ?_ | (refine vw_condT rfl rfl ?_ ?_; focus (simp [ev, Fr.look]; done)) | (refine vw_condF rfl rfl ?_ ?_; focus (simp [ev, Fr.look]; done)) | refine vw_blockAt _ rfl rfl ?_ | (apply vw_regionRun; (focus rfl); (focus ((conv => lhs; reduce); done)); (focus ((conv => lhs; simp [-List.map_set, set_vnat, set_vnat1, set_vint, set_bool]); done)); refine vseg_done ?_) | (apply vw_drawPlain; (focus rfl); (focus kernel_rfl); (focus ((conv => lhs; reduce); done)); (focus ((conv => lhs; reduce); done)); (focus (kernel_rfl)); (focus ((conv => lhs; simp [-List.map_set, set_vnat, set_vnat1, set_vint, set_bool]); done)); refine vseg_done ?_))
  repeat refine vw_seqAt rfl ?_
  refine vw_regionRun rfl (by conv => lhs; reduce) (by conv => lhs; simp [-List.map_set, set_vnat, set_vnat1, set_vint, set_bool]) ?_
  refine vcall_use rfl (IndexL_v l p fid caps hc hl h) ?_
  refine vseg_more (by conv => lhs; simp [-List.map_set, set_vnat, set_vnat1, set_vint, set_bool]) ?_
  refine vseg_done ?_
  repeat (first | refine vw_seqAt rfl ?_ | refine vw_scopeAt rfl ?_ | refine vw_labelAt rfl ?_ | refine vw_skipAt rfl ?_ | refine vw_exitAt _ rfl rfl ?_ | refine vw_retAt rfl ?_ | (refine vw_condT rfl rfl ?_ ?_; focus (simp [ev, Fr.look]; done)) | (refine vw_condF rfl rfl ?_ ?_; focus (simp [ev, Fr.look]; done)) | refine vw_blockAt _ rfl rfl ?_ | (apply vw_regionRun; (focus rfl); (focus ((conv => lhs; reduce); done)); (focus ((conv => lhs; simp [-List.map_set, set_vnat, set_vnat1, set_vint, set_bool]); done)); refine vseg_done ?_) | (apply vw_drawPlain; (focus rfl); (focus kernel_rfl); (focus ((conv => lhs; reduce); done)); (focus ((conv => lhs; reduce); done)); (focus (kernel_rfl)); (focus ((conv => lhs; simp [-List.map_set, set_vnat, set_vnat1, set_vint, set_bool]); done)); refine vseg_done ?_))
  exact done_pure hwf rfl rfl

theorem IndexI_v (l : List (Int)) (p : Int → Bool) (fid : FuncId) (caps : List V) (hc : callable Try.prog fid = true) (hl : l.length < 2^63) (h : ∀ x ∈ l, VPure Try.prog fid ([vint x] ++ caps) (.bool (p x))) :
    VPure Try.prog 71 [vl (vint) l, .func fid caps] (vint (findI p l 0)) := by
  intro S
  refine vcalls_start (c := bodyOf Try.f71) Try.func71 rfl rfl (by simp [Try.ntmps71]) ?_
  rw [Try.ntmps71]
  intro hwf
  repeat (first | refine vw_seqAt rfl ?_ | refine vw_scopeAt rfl ?_ | refine vw_labelAt rfl ?_ | refine vw_skipAt rfl ?_ | refine vw_exitAt _ rfl rfl ?_ | refine vw_retAt rfl ?_ | (refine vw_condT rfl rfl ?_ ?_; focus (simp [ev, Fr.look]; done)) | (refine vw_condF rfl rfl ?_ ?_; focus (simp [ev, Fr.look]; done)) | refine vw_blockAt _ rfl rfl ?_ | (apply vw_regionRun; (focus rfl); (focus ((conv => lhs; reduce); done)); (focus ((conv => lhs; simp [-List.map_set, set_vnat, set_vnat1, set_vint, set_bool]); done)); refine vseg_done ?_) | (apply vw_drawPlain; (focus rfl); (focus kernel_rfl); (focus ((conv => lhs; reduce); done)); (focus ((conv => lhs; reduce); done)); (focus (kernel_rfl)); (focus ((conv => lhs; simp [-List.map_set, set_vnat, set_vnat1, set_vint, set_bool]); done)); refine vseg_done ?_))
  repeat refine vw_seqAt rfl ?_
  refine vw_loopAt [0, 1, 7, 8] rfl (fun c σ S' => ∃ (k : Nat), k ≤ l.length ∧ c = l.length - k ∧ findI p (l.drop k) k = findI p l 0 ∧ σ = [(0, vl (vint) l), (1, .func fid caps), (7, vnat l.length), (8, vnat k)] ∧ S' = St S [] []) l.length ?_ ?_
  · exact ⟨0, by omega, rfl, rfl, by simp [Fr.only], rfl⟩
  · rintro c σ T ⟨k, hk, rfl, hd, rfl, rfl⟩
    by_cases hkt : k < l.length
    · have hst : findI p (l.drop k) k = if p l[k] then (k : Int) else findI p (l.drop (k + 1)) (k + 1) := by rw [List.drop_eq_getElem_cons hkt, findI]
      have hw := wrapNat hkt hl
      repeat (first | refine vw_seqAt rfl ?_ | refine vw_scopeAt rfl ?_ | refine vw_labelAt rfl ?_ | refine vw_skipAt rfl ?_ | refine vw_exitAt _ rfl rfl ?_ | refine vw_retAt rfl ?_ | (refine vw_condT rfl rfl ?_ ?_; focus (simp [ev, Fr.look]; done)) | (refine vw_condF rfl rfl ?_ ?_; focus (simp [ev, Fr.look]; done)) | refine vw_blockAt _ rfl rfl ?_ | (apply vw_regionRun; (focus rfl); (focus ((conv => lhs; reduce); done)); (focus ((conv => lhs; simp [-List.map_set, set_vnat, set_vnat1, set_vint, set_bool, hkt]); done)); refine vseg_done ?_) | (apply vw_drawPlain; (focus rfl); (focus kernel_rfl); (focus ((conv => lhs; reduce); done)); (focus ((conv => lhs; reduce); done)); (focus (kernel_rfl)); (focus ((conv => lhs; simp [-List.map_set, set_vnat, set_vnat1, set_vint, set_bool, hkt]); done)); refine vseg_done ?_))
      repeat refine vw_seqAt rfl ?_
      refine vw_regionRun rfl (by conv => lhs; reduce) (by conv => lhs; simp [-List.map_set, set_vnat, set_vnat1, set_vint, set_bool, hkt]) ?_
      refine vcallv_use rfl hc rfl (h _ (List.getElem_mem hkt)) ?_
      refine vseg_more (by conv => lhs; simp [-List.map_set, set_vnat, set_vnat1, set_vint, set_bool]) ?_
      refine vseg_done ?_
      cases hp : p l[k] with
      | true =>
        rw [hp] at hst
        repeat (first | refine vw_seqAt rfl ?_ | refine vw_scopeAt rfl ?_ | refine vw_labelAt rfl ?_ | refine vw_skipAt rfl ?_ | refine vw_exitAt _ rfl rfl ?_ | refine vw_retAt rfl ?_ | (refine vw_condT rfl rfl ?_ ?_; focus (simp [ev, Fr.look]; done)) | (refine vw_condF rfl rfl ?_ ?_; focus (simp [ev, Fr.look]; done)) | refine vw_blockAt _ rfl rfl ?_ | (apply vw_regionRun; (focus rfl); (focus ((conv => lhs; reduce); done)); (focus ((conv => lhs; simp [-List.map_set, set_vnat, set_vnat1, set_vint, set_bool, hp]); done)); refine vseg_done ?_) | (apply vw_drawPlain; (focus rfl); (focus kernel_rfl); (focus ((conv => lhs; reduce); done)); (focus ((conv => lhs; reduce); done)); (focus (kernel_rfl)); (focus ((conv => lhs; simp [-List.map_set, set_vnat, set_vnat1, set_vint, set_bool, hp]); done)); refine vseg_done ?_))
        exact done_pure hwf (by rw [← hd, hst]; rfl) rfl
      | false =>
        rw [hp] at hst
        repeat (first | refine vw_seqAt rfl ?_ | refine vw_scopeAt rfl ?_ | refine vw_labelAt rfl ?_ | refine vw_skipAt rfl ?_ | refine vw_exitAt _ rfl rfl ?_ | refine vw_retAt rfl ?_ | (refine vw_condT rfl rfl ?_ ?_; focus (simp [ev, Fr.look]; done)) | (refine vw_condF rfl rfl ?_ ?_; focus (simp [ev, Fr.look]; done)) | refine vw_blockAt _ rfl rfl ?_ | (apply vw_regionRun; (focus rfl); (focus ((conv => lhs; reduce); done)); (focus ((conv => lhs; simp [-List.map_set, set_vnat, set_vnat1, set_vint, set_bool, hp]); done)); refine vseg_done ?_) | (apply vw_drawPlain; (focus rfl); (focus kernel_rfl); (focus ((conv => lhs; reduce); done)); (focus ((conv => lhs; reduce); done)); (focus (kernel_rfl)); (focus ((conv => lhs; simp [-List.map_set, set_vnat, set_vnat1, set_vint, set_bool, hp]); done)); refine vseg_done ?_))
        show Again _ _ _ _ _ _ _
        exact again ⟨Nat.sub_lt_sub_left hkt (Nat.lt_succ_self k), k + 1, hkt, rfl, by rw [← hd, hst]; rfl, by simp [Fr.only, hw], rfl⟩
    · have e : l.drop k = [] := by rw [List.drop_eq_nil_iff]; omega
      rw [e] at hd
      repeat (first | refine vw_seqAt rfl ?_ | refine vw_scopeAt rfl ?_ | refine vw_labelAt rfl ?_ | refine vw_skipAt rfl ?_ | refine vw_exitAt _ rfl rfl ?_ | refine vw_retAt rfl ?_ | (refine vw_condT rfl rfl ?_ ?_; focus (simp [ev, Fr.look]; done)) | (refine vw_condF rfl rfl ?_ ?_; focus (simp [ev, Fr.look]; done)) | refine vw_blockAt _ rfl rfl ?_ | (apply vw_regionRun; (focus rfl); (focus ((conv => lhs; reduce); done)); (focus ((conv => lhs; simp [-List.map_set, set_vnat, set_vnat1, set_vint, set_bool, hkt]); done)); refine vseg_done ?_) | (apply vw_drawPlain; (focus rfl); (focus kernel_rfl); (focus ((conv => lhs; reduce); done)); (focus ((conv => lhs; reduce); done)); (focus (kernel_rfl)); (focus ((conv => lhs; simp [-List.map_set, set_vnat, set_vnat1, set_vint, set_bool, hkt]); done)); refine vseg_done ?_))
      exact done_pure hwf (by rw [← hd]; rfl) rfl

theorem AnyI_v (l : List (Int)) (p : Int → Bool) (fid : FuncId) (caps : List V) (hc : callable Try.prog fid = true) (hl : l.length < 2^63) (h : ∀ x ∈ l, VPure Try.prog fid ([vint x] ++ caps) (.bool (p x))) :
    VPure Try.prog 53 [vl (vint) l, .func fid caps] (.bool (l.any p)) := by
  intro S
  refine vcalls_start (c := bodyOf Try.f53) Try.func53 rfl rfl (by simp [Try.ntmps53]) ?_
  rw [Try.ntmps53]
  intro hwf
  rw [← findI_any p l 0]
  repeat (first | refine vw_seqAt rfl ?_ | refine vw_scopeAt rfl ?_ | refine vw_labelAt rfl ?_ | refine vw_skipAt rfl ?_ | refine vw_exitAt _ rfl rfl ?_ | refine vw_retAt rfl ?_ | (refine vw_condT rfl rfl ?_ ?_; focus (simp [ev, Fr.look]; done)) | (refine vw_condF rfl rfl ?_ ?_; focus (simp [ev, Fr.look]; done)) | refine vw_blockAt _ rfl rfl ?_ | (apply vw_regionRun; (focus rfl); (focus ((conv => lhs; reduce); done)); (focus ((conv => lhs; simp [-List.map_set, set_vnat, set_vnat1, set_vint, set_bool]); done)); refine vseg_done ?_) | (apply vw_drawPlain; (focus rfl); (focus kernel_rfl); (focus ((conv => lhs; reduce); done)); (focus ((conv => lhs; reduce); done)); (focus (kernel_rfl)); (focus ((conv => lhs; simp [-List.map_set, set_vnat, set_vnat1, set_vint, set_bool]); done)); refine vseg_done ?_))
  repeat refine vw_seqAt rfl ?_
  refine vw_regionRun rfl (by conv => lhs; reduce) (by conv => lhs; simp [-List.map_set, set_vnat, set_vnat1, set_vint, set_bool]) ?_
  refine vcall_use rfl (IndexI_v l p fid caps hc hl h) ?_
  refine vseg_more (by conv => lhs; simp [-List.map_set, set_vnat, set_vnat1, set_vint, set_bool]) ?_
  refine vseg_done ?_
  repeat (first | refine vw_seqAt rfl ?_ | refine vw_scopeAt rfl ?_ | refine vw_labelAt rfl ?_ | refine vw_skipAt rfl ?_ | refine vw_exitAt _ rfl rfl ?_ | refine vw_retAt rfl ?_ | (refine vw_condT rfl rfl ?_ ?_; focus (simp [ev, Fr.look]; done)) | (refine vw_condF rfl rfl ?_ ?_; focus (simp [ev, Fr.look]; done)) | refine vw_blockAt _ rfl rfl ?_ | (apply vw_regionRun; (focus rfl); (focus ((conv => lhs; reduce); done)); (focus ((conv => lhs; simp [-List.map_set, set_vnat, set_vnat1, set_vint, set_bool]); done)); refine vseg_done ?_) | (apply vw_drawPlain; (focus rfl); (focus kernel_rfl); (focus ((conv => lhs; reduce); done)); (focus ((conv => lhs; reduce); done)); (focus (kernel_rfl)); (focus ((conv => lhs; simp [-List.map_set, set_vnat, set_vnat1, set_vint, set_bool]); done)); refine vseg_done ?_))
  exact done_pure hwf rfl rfl

theorem IndexB_v (l : List (Ss.Block)) (p : Ss.Block → Bool) (fid : FuncId) (caps : List V) (hc : callable Try.prog fid = true) (hl : l.length < 2^63) (h : ∀ x ∈ l, VPure Try.prog fid ([encBlock x] ++ caps) (.bool (p x))) :
    VPure Try.prog 56 [vl (encBlock) l, .func fid caps] (vint (findI p l 0)) := by
  intro S
  refine vcalls_start (c := bodyOf Try.f56) Try.func56 rfl rfl (by simp [Try.ntmps56]) ?_
  rw [Try.ntmps56]
  intro hwf
  repeat (first | refine vw_seqAt rfl ?_ | refine vw_scopeAt rfl ?_ | refine vw_labelAt rfl ?_ | refine vw_skipAt rfl ?_ | refine vw_exitAt _ rfl rfl ?_ | refine vw_retAt rfl ?_ | (refine vw_condT rfl rfl ?_ ?_; focus (simp [ev, Fr.look]; done)) | (refine vw_condF rfl rfl ?_ ?_; focus (simp [ev, Fr.look]; done)) | refine vw_blockAt _ rfl rfl ?_ | (apply vw_regionRun; (focus rfl); (focus ((conv => lhs; reduce); done)); (focus ((conv => lhs; simp [-List.map_set, set_vnat, set_vnat1, set_vint, set_bool]); done)); refine vseg_done ?_) | (apply vw_drawPlain; (focus rfl); (focus kernel_rfl); (focus ((conv => lhs; reduce); done)); (focus ((conv => lhs; reduce); done)); (focus (kernel_rfl)); (focus ((conv => lhs; simp [-List.map_set, set_vnat, set_vnat1, set_vint, set_bool]); done)); refine vseg_done ?_))
  repeat refine vw_seqAt rfl ?_
  refine vw_loopAt [0, 1, 7, 8] rfl (fun c σ S' => ∃ (k : Nat), k ≤ l.length ∧ c = l.length - k ∧ findI p (l.drop k) k = findI p l 0 ∧ σ = [(0, vl (encBlock) l), (1, .func fid caps), (7, vnat l.length), (8, vnat k)] ∧ S' = St S [] []) l.length ?_ ?_
  · exact ⟨0, by omega, rfl, rfl, by simp [Fr.only], rfl⟩
  · rintro c σ T ⟨k, hk, rfl, hd, rfl, rfl⟩
    by_cases hkt : k < l.length
    · have hst : findI p (l.drop k) k = if p l[k] then (k : Int) else findI p (l.drop (k + 1)) (k + 1) := by rw [List.drop_eq_getElem_cons hkt, findI]
      have hw := wrapNat hkt hl
      repeat (first | refine vw_seqAt rfl ?_ | refine vw_scopeAt rfl ?_ | refine vw_labelAt rfl ?_ | refine vw_skipAt rfl ?_ | refine vw_exitAt _ rfl rfl ?_ | refine vw_retAt rfl ?_ | (refine vw_condT rfl rfl ?_ ?_; focus (simp [ev, Fr.look]; done)) | (refine vw_condF rfl rfl ?_ ?_; focus (simp [ev, Fr.look]; done)) | refine vw_blockAt _ rfl rfl ?_ | (apply vw_regionRun; (focus rfl); (focus ((conv => lhs; reduce); done)); (focus ((conv => lhs; simp [-List.map_set, set_vnat, set_vnat1, set_vint, set_bool, hkt]); done)); refine vseg_done ?_) | (apply vw_drawPlain; (focus rfl); (focus kernel_rfl); (focus ((conv => lhs; reduce); done)); (focus ((conv => lhs; reduce); done)); (focus (kernel_rfl)); (focus ((conv => lhs; simp [-List.map_set, set_vnat, set_vnat1, set_vint, set_bool, hkt]); done)); refine vseg_done ?_))
      repeat refine vw_seqAt rfl ?_
      refine vw_regionRun rfl (by conv => lhs; reduce) (by conv => lhs; simp [-List.map_set, set_vnat, set_vnat1, set_vint, set_bool, hkt]) ?_
      refine vcallv_use rfl hc rfl (h _ (List.getElem_mem hkt)) ?_
      refine vseg_more (by conv => lhs; simp [-List.map_set, set_vnat, set_vnat1, set_vint, set_bool]) ?_
      refine vseg_done ?_
      cases hp : p l[k] with
      | true =>
        rw [hp] at hst
        repeat (first | refine vw_seqAt rfl ?_ | refine vw_scopeAt rfl ?_ | refine vw_labelAt rfl ?_ | refine vw_skipAt rfl ?_ | refine vw_exitAt _ rfl rfl ?_ | refine vw_retAt rfl ?_ | (refine vw_condT rfl rfl ?_ ?_; focus (simp [ev, Fr.look]; done)) | (refine vw_condF rfl rfl ?_ ?_; focus (simp [ev, Fr.look]; done)) | refine vw_blockAt _ rfl rfl ?_ | (apply vw_regionRun; (focus rfl); (focus ((conv => lhs; reduce); done)); (focus ((conv => lhs; simp [-List.map_set, set_vnat, set_vnat1, set_vint, set_bool, hp]); done)); refine vseg_done ?_) | (apply vw_drawPlain; (focus rfl); (focus kernel_rfl); (focus ((conv => lhs; reduce); done)); (focus ((conv => lhs; reduce); done)); (focus (kernel_rfl)); (focus ((conv => lhs; simp [-List.map_set, set_vnat, set_vnat1, set_vint, set_bool, hp]); done)); refine vseg_done ?_))
        exact done_pure hwf (by rw [← hd, hst]; rfl) rfl
      | false =>
        rw [hp] at hst
        repeat (first | refine vw_seqAt rfl ?_ | refine vw_scopeAt rfl ?_ | refine vw_labelAt rfl ?_ | refine vw_skipAt rfl ?_ | refine vw_exitAt _ rfl rfl ?_ | refine vw_retAt rfl ?_ | (refine vw_condT rfl rfl ?_ ?_; focus (simp [ev, Fr.look]; done)) | (refine vw_condF rfl rfl ?_ ?_; focus (simp [ev, Fr.look]; done)) | refine vw_blockAt _ rfl rfl ?_ | (apply vw_regionRun; (focus rfl); (focus ((conv => lhs; reduce); done)); (focus ((conv => lhs; simp [-List.map_set, set_vnat, set_vnat1, set_vint, set_bool, hp]); done)); refine vseg_done ?_) | (apply vw_drawPlain; (focus rfl); (focus kernel_rfl); (focus ((conv => lhs; reduce); done)); (focus ((conv => lhs; reduce); done)); (focus (kernel_rfl)); (focus ((conv => lhs; simp [-List.map_set, set_vnat, set_vnat1, set_vint, set_bool, hp]); done)); refine vseg_done ?_))
        show Again _ _ _ _ _ _ _
        exact again ⟨Nat.sub_lt_sub_left hkt (Nat.lt_succ_self k), k + 1, hkt, rfl, by rw [← hd, hst]; rfl, by simp [Fr.only, hw], rfl⟩
    · have e : l.drop k = [] := by rw [List.drop_eq_nil_iff]; omega
      rw [e] at hd
      repeat (first | refine vw_seqAt rfl ?_ | refine vw_scopeAt rfl ?_ | refine vw_labelAt rfl ?_ | refine vw_skipAt rfl ?_ | refine vw_exitAt _ rfl rfl ?_ | refine vw_retAt rfl ?_ | (refine vw_condT rfl rfl ?_ ?_; focus (simp [ev, Fr.look]; done)) | (refine vw_condF rfl rfl ?_ ?_; focus (simp [ev, Fr.look]; done)) | refine vw_blockAt _ rfl rfl ?_ | (apply vw_regionRun; (focus rfl); (focus ((conv => lhs; reduce); done)); (focus ((conv => lhs; simp [-List.map_set, set_vnat, set_vnat1, set_vint, set_bool, hkt]); done)); refine vseg_done ?_) | (apply vw_drawPlain; (focus rfl); (focus kernel_rfl); (focus ((conv => lhs; reduce); done)); (focus ((conv => lhs; reduce); done)); (focus (kernel_rfl)); (focus ((conv => lhs; simp [-List.map_set, set_vnat, set_vnat1, set_vint, set_bool, hkt]); done)); refine vseg_done ?_))
      exact done_pure hwf (by rw [← hd]; rfl) rfl

theorem AnyB_v (l : List (Ss.Block)) (p : Ss.Block → Bool) (fid : FuncId) (caps : List V) (hc : callable Try.prog fid = true) (hl : l.length < 2^63) (h : ∀ x ∈ l, VPure Try.prog fid ([encBlock x] ++ caps) (.bool (p x))) :
    VPure Try.prog 32 [vl (encBlock) l, .func fid caps] (.bool (l.any p)) := by
  intro S
  refine vcalls_start (c := bodyOf Try.f32) Try.func32 rfl rfl (by simp [Try.ntmps32]) ?_
  rw [Try.ntmps32]
  intro hwf
  rw [← findI_any p l 0]
  repeat (first | refine vw_seqAt rfl ?_ | refine vw_scopeAt rfl ?_ | refine vw_labelAt rfl ?_ | refine vw_skipAt rfl ?_ | refine vw_exitAt _ rfl rfl ?_ | refine vw_retAt rfl ?_ | (refine vw_condT rfl rfl ?_ ?_; focus (simp [ev, Fr.look]; done)) | (refine vw_condF rfl rfl ?_ ?_; focus (simp [ev, Fr.look]; done)) | refine vw_blockAt _ rfl rfl ?_ | (apply vw_regionRun; (focus rfl); (focus ((conv => lhs; reduce); done)); (focus ((conv => lhs; simp [-List.map_set, set_vnat, set_vnat1, set_vint, set_bool]); done)); refine vseg_done ?_) | (apply vw_drawPlain; (focus rfl); (focus kernel_rfl); (focus ((conv => lhs; reduce); done)); (focus ((conv => lhs; reduce); done)); (focus (kernel_rfl)); (focus ((conv => lhs; simp [-List.map_set, set_vnat, set_vnat1, set_vint, set_bool]); done)); refine vseg_done ?_))
  repeat refine vw_seqAt rfl ?_
  refine vw_regionRun rfl (by conv => lhs; reduce) (by conv => lhs; simp [-List.map_set, set_vnat, set_vnat1, set_vint, set_bool]) ?_
  refine vcall_use rfl (IndexB_v l p fid caps hc hl h) ?_
  refine vseg_more (by conv => lhs; simp [-List.map_set, set_vnat, set_vnat1, set_vint, set_bool]) ?_
  refine vseg_done ?_
  repeat (first | refine vw_seqAt rfl ?_ | refine vw_scopeAt rfl ?_ | refine vw_labelAt rfl ?_ | refine vw_skipAt rfl ?_ | refine vw_exitAt _ rfl rfl ?_ | refine vw_retAt rfl ?_ | (refine vw_condT rfl rfl ?_ ?_; focus (simp [ev, Fr.look]; done)) | (refine vw_condF rfl rfl ?_ ?_; focus (simp [ev, Fr.look]; done)) | refine vw_blockAt _ rfl rfl ?_ | (apply vw_regionRun; (focus rfl); (focus ((conv => lhs; reduce); done)); (focus ((conv => lhs; simp [-List.map_set, set_vnat, set_vnat1, set_vint, set_bool]); done)); refine vseg_done ?_) | (apply vw_drawPlain; (focus rfl); (focus kernel_rfl); (focus ((conv => lhs; reduce); done)); (focus ((conv => lhs; reduce); done)); (focus (kernel_rfl)); (focus ((conv => lhs; simp [-List.map_set, set_vnat, set_vnat1, set_vint, set_bool]); done)); refine vseg_done ?_))
  exact done_pure hwf rfl rfl

theorem IndexS_v (l : List (Ss.Sig)) (p : Ss.Sig → Bool) (fid : FuncId) (caps : List V) (hc : callable Try.prog fid = true) (hl : l.length < 2^63) (h : ∀ x ∈ l, VPure Try.prog fid ([encSig x] ++ caps) (.bool (p x))) :
    VPure Try.prog 70 [vl (encSig) l, .func fid caps] (vint (findI p l 0)) := by
  intro S
  refine vcalls_start (c := bodyOf Try.f70) Try.func70 rfl rfl (by simp [Try.ntmps70]) ?_
  rw [Try.ntmps70]
  intro hwf
  repeat (first | refine vw_seqAt rfl ?_ | refine vw_scopeAt rfl ?_ | refine vw_labelAt rfl ?_ | refine vw_skipAt rfl ?_ | refine vw_exitAt _ rfl rfl ?_ | refine vw_retAt rfl ?_ | (refine vw_condT rfl rfl ?_ ?_; focus (simp [ev, Fr.look]; done)) | (refine vw_condF rfl rfl ?_ ?_; focus (simp [ev, Fr.look]; done)) | refine vw_blockAt _ rfl rfl ?_ | (apply vw_regionRun; (focus rfl); (focus ((conv => lhs; reduce); done)); (focus ((conv => lhs; simp [-List.map_set, set_vnat, set_vnat1, set_vint, set_bool]); done)); refine vseg_done ?_) | (apply vw_drawPlain; (focus rfl); (focus kernel_rfl); (focus ((conv => lhs; reduce); done)); (focus ((conv => lhs; reduce); done)); (focus (kernel_rfl)); (focus ((conv => lhs; simp [-List.map_set, set_vnat, set_vnat1, set_vint, set_bool]); done)); refine vseg_done ?_))
  repeat refine vw_seqAt rfl ?_
  refine vw_loopAt [0, 1, 7, 8] rfl (fun c σ S' => ∃ (k : Nat), k ≤ l.length ∧ c = l.length - k ∧ findI p (l.drop k) k = findI p l 0 ∧ σ = [(0, vl (encSig) l), (1, .func fid caps), (7, vnat l.length), (8, vnat k)] ∧ S' = St S [] []) l.length ?_ ?_
  · exact ⟨0, by omega, rfl, rfl, by simp [Fr.only], rfl⟩
  · rintro c σ T ⟨k, hk, rfl, hd, rfl, rfl⟩
    by_cases hkt : k < l.length
    · have hst : findI p (l.drop k) k = if p l[k] then (k : Int) else findI p (l.drop (k + 1)) (k + 1) := by rw [List.drop_eq_getElem_cons hkt, findI]
      have hw := wrapNat hkt hl
      repeat (first | refine vw_seqAt rfl ?_ | refine vw_scopeAt rfl ?_ | refine vw_labelAt rfl ?_ | refine vw_skipAt rfl ?_ | refine vw_exitAt _ rfl rfl ?_ | refine vw_retAt rfl ?_ | (refine vw_condT rfl rfl ?_ ?_; focus (simp [ev, Fr.look]; done)) | (refine vw_condF rfl rfl ?_ ?_; focus (simp [ev, Fr.look]; done)) | refine vw_blockAt _ rfl rfl ?_ | (apply vw_regionRun; (focus rfl); (focus ((conv => lhs; reduce); done)); (focus ((conv => lhs; simp [-List.map_set, set_vnat, set_vnat1, set_vint, set_bool, hkt]); done)); refine vseg_done ?_) | (apply vw_drawPlain; (focus rfl); (focus kernel_rfl); (focus ((conv => lhs; reduce); done)); (focus ((conv => lhs; reduce); done)); (focus (kernel_rfl)); (focus ((conv => lhs; simp [-List.map_set, set_vnat, set_vnat1, set_vint, set_bool, hkt]); done)); refine vseg_done ?_))
      repeat refine vw_seqAt rfl ?_
      refine vw_regionRun rfl (by conv => lhs; reduce) (by conv => lhs; simp [-List.map_set, set_vnat, set_vnat1, set_vint, set_bool, hkt]) ?_
      refine vcallv_use rfl hc rfl (h _ (List.getElem_mem hkt)) ?_
      refine vseg_more (by conv => lhs; simp [-List.map_set, set_vnat, set_vnat1, set_vint, set_bool]) ?_
      refine vseg_done ?_
      cases hp : p l[k] with
      | true =>
        rw [hp] at hst
        repeat (first | refine vw_seqAt rfl ?_ | refine vw_scopeAt rfl ?_ | refine vw_labelAt rfl ?_ | refine vw_skipAt rfl ?_ | refine vw_exitAt _ rfl rfl ?_ | refine vw_retAt rfl ?_ | (refine vw_condT rfl rfl ?_ ?_; focus (simp [ev, Fr.look]; done)) | (refine vw_condF rfl rfl ?_ ?_; focus (simp [ev, Fr.look]; done)) | refine vw_blockAt _ rfl rfl ?_ | (apply vw_regionRun; (focus rfl); (focus ((conv => lhs; reduce); done)); (focus ((conv => lhs; simp [-List.map_set, set_vnat, set_vnat1, set_vint, set_bool, hp]); done)); refine vseg_done ?_) | (apply vw_drawPlain; (focus rfl); (focus kernel_rfl); (focus ((conv => lhs; reduce); done)); (focus ((conv => lhs; reduce); done)); (focus (kernel_rfl)); (focus ((conv => lhs; simp [-List.map_set, set_vnat, set_vnat1, set_vint, set_bool, hp]); done)); refine vseg_done ?_))
        exact done_pure hwf (by rw [← hd, hst]; rfl) rfl
      | false =>
        rw [hp] at hst
        repeat (first | refine vw_seqAt rfl ?_ | refine vw_scopeAt rfl ?_ | refine vw_labelAt rfl ?_ | refine vw_skipAt rfl ?_ | refine vw_exitAt _ rfl rfl ?_ | refine vw_retAt rfl ?_ | (refine vw_condT rfl rfl ?_ ?_; focus (simp [ev, Fr.look]; done)) | (refine vw_condF rfl rfl ?_ ?_; focus (simp [ev, Fr.look]; done)) | refine vw_blockAt _ rfl rfl ?_ | (apply vw_regionRun; (focus rfl); (focus ((conv => lhs; reduce); done)); (focus ((conv => lhs; simp [-List.map_set, set_vnat, set_vnat1, set_vint, set_bool, hp]); done)); refine vseg_done ?_) | (apply vw_drawPlain; (focus rfl); (focus kernel_rfl); (focus ((conv => lhs; reduce); done)); (focus ((conv => lhs; reduce); done)); (focus (kernel_rfl)); (focus ((conv => lhs; simp [-List.map_set, set_vnat, set_vnat1, set_vint, set_bool, hp]); done)); refine vseg_done ?_))
        show Again _ _ _ _ _ _ _
        exact again ⟨Nat.sub_lt_sub_left hkt (Nat.lt_succ_self k), k + 1, hkt, rfl, by rw [← hd, hst]; rfl, by simp [Fr.only, hw], rfl⟩
    · have e : l.drop k = [] := by rw [List.drop_eq_nil_iff]; omega
      rw [e] at hd
      repeat (first | refine vw_seqAt rfl ?_ | refine vw_scopeAt rfl ?_ | refine vw_labelAt rfl ?_ | refine vw_skipAt rfl ?_ | refine vw_exitAt _ rfl rfl ?_ | refine vw_retAt rfl ?_ | (refine vw_condT rfl rfl ?_ ?_; focus (simp [ev, Fr.look]; done)) | (refine vw_condF rfl rfl ?_ ?_; focus (simp [ev, Fr.look]; done)) | refine vw_blockAt _ rfl rfl ?_ | (apply vw_regionRun; (focus rfl); (focus ((conv => lhs; reduce); done)); (focus ((conv => lhs; simp [-List.map_set, set_vnat, set_vnat1, set_vint, set_bool, hkt]); done)); refine vseg_done ?_) | (apply vw_drawPlain; (focus rfl); (focus kernel_rfl); (focus ((conv => lhs; reduce); done)); (focus ((conv => lhs; reduce); done)); (focus (kernel_rfl)); (focus ((conv => lhs; simp [-List.map_set, set_vnat, set_vnat1, set_vint, set_bool, hkt]); done)); refine vseg_done ?_))
      exact done_pure hwf (by rw [← hd]; rfl) rfl

theorem AnyS_v (l : List (Ss.Sig)) (p : Ss.Sig → Bool) (fid : FuncId) (caps : List V) (hc : callable Try.prog fid = true) (hl : l.length < 2^63) (h : ∀ x ∈ l, VPure Try.prog fid ([encSig x] ++ caps) (.bool (p x))) :
    VPure Try.prog 51 [vl (encSig) l, .func fid caps] (.bool (l.any p)) := by
  intro S
  refine vcalls_start (c := bodyOf Try.f51) Try.func51 rfl rfl (by simp [Try.ntmps51]) ?_
  rw [Try.ntmps51]
  intro hwf
  rw [← findI_any p l 0]
  repeat (first | refine vw_seqAt rfl ?_ | refine vw_scopeAt rfl ?_ | refine vw_labelAt rfl ?_ | refine vw_skipAt rfl ?_ | refine vw_exitAt _ rfl rfl ?_ | refine vw_retAt rfl ?_ | (refine vw_condT rfl rfl ?_ ?_; focus (simp [ev, Fr.look]; done)) | (refine vw_condF rfl rfl ?_ ?_; focus (simp [ev, Fr.look]; done)) | refine vw_blockAt _ rfl rfl ?_ | (apply vw_regionRun; (focus rfl); (focus ((conv => lhs; reduce); done)); (focus ((conv => lhs; simp [-List.map_set, set_vnat, set_vnat1, set_vint, set_bool]); done)); refine vseg_done ?_) | (apply vw_drawPlain; (focus rfl); (focus kernel_rfl); (focus ((conv => lhs; reduce); done)); (focus ((conv => lhs; reduce); done)); (focus (kernel_rfl)); (focus ((conv => lhs; simp [-List.map_set, set_vnat, set_vnat1, set_vint, set_bool]); done)); refine vseg_done ?_))
  repeat refine vw_seqAt rfl ?_
  refine vw_regionRun rfl (by conv => lhs; reduce) (by conv => lhs; simp [-List.map_set, set_vnat, set_vnat1, set_vint, set_bool]) ?_
  refine vcall_use rfl (IndexS_v l p fid caps hc hl h) ?_
  refine vseg_more (by conv => lhs; simp [-List.map_set, set_vnat, set_vnat1, set_vint, set_bool]) ?_
  refine vseg_done ?_
  repeat (first | refine vw_seqAt rfl ?_ | refine vw_scopeAt rfl ?_ | refine vw_labelAt rfl ?_ | refine vw_skipAt rfl ?_ | refine vw_exitAt _ rfl rfl ?_ | refine vw_retAt rfl ?_ | (refine vw_condT rfl rfl ?_ ?_; focus (simp [ev, Fr.look]; done)) | (refine vw_condF rfl rfl ?_ ?_; focus (simp [ev, Fr.look]; done)) | refine vw_blockAt _ rfl rfl ?_ | (apply vw_regionRun; (focus rfl); (focus ((conv => lhs; reduce); done)); (focus ((conv => lhs; simp [-List.map_set, set_vnat, set_vnat1, set_vint, set_bool]); done)); refine vseg_done ?_) | (apply vw_drawPlain; (focus rfl); (focus kernel_rfl); (focus ((conv => lhs; reduce); done)); (focus ((conv => lhs; reduce); done)); (focus (kernel_rfl)); (focus ((conv => lhs; simp [-List.map_set, set_vnat, set_vnat1, set_vint, set_bool]); done)); refine vseg_done ?_))
  exact done_pure hwf rfl rfl

theorem IndexN_v (l : List (Ss.Ins)) (p : Ss.Ins → Bool) (fid : FuncId) (caps : List V) (hc : callable Try.prog fid = true) (hl : l.length < 2^63) (h : ∀ x ∈ l, VPure Try.prog fid ([encIns x] ++ caps) (.bool (p x))) :
    VPure Try.prog 89 [vl (encIns) l, .func fid caps] (vint (findI p l 0)) := by
  intro S
  refine vcalls_start (c := bodyOf Try.f89) Try.func89 rfl rfl (by simp [Try.ntmps89]) ?_
  rw [Try.ntmps89]
  intro hwf
  repeat (first | refine vw_seqAt rfl ?_ | refine vw_scopeAt rfl ?_ | refine vw_labelAt rfl ?_ | refine vw_skipAt rfl ?_ | refine vw_exitAt _ rfl rfl ?_ | refine vw_retAt rfl ?_ | (refine vw_condT rfl rfl ?_ ?_; focus (simp [ev, Fr.look]; done)) | (refine vw_condF rfl rfl ?_ ?_; focus (simp [ev, Fr.look]; done)) | refine vw_blockAt _ rfl rfl ?_ | (apply vw_regionRun; (focus rfl); (focus ((conv => lhs; reduce); done)); (focus ((conv => lhs; simp [-List.map_set, set_vnat, set_vnat1, set_vint, set_bool]); done)); refine vseg_done ?_) | (apply vw_drawPlain; (focus rfl); (focus kernel_rfl); (focus ((conv => lhs; reduce); done)); (focus ((conv => lhs; reduce); done)); (focus (kernel_rfl)); (focus ((conv => lhs; simp [-List.map_set, set_vnat, set_vnat1, set_vint, set_bool]); done)); refine vseg_done ?_))
  repeat refine vw_seqAt rfl ?_
  refine vw_loopAt [0, 1, 7, 8] rfl (fun c σ S' => ∃ (k : Nat), k ≤ l.length ∧ c = l.length - k ∧ findI p (l.drop k) k = findI p l 0 ∧ σ = [(0, vl (encIns) l), (1, .func fid caps), (7, vnat l.length), (8, vnat k)] ∧ S' = St S [] []) l.length ?_ ?_
  · exact ⟨0, by omega, rfl, rfl, by simp [Fr.only], rfl⟩
  · rintro c σ T ⟨k, hk, rfl, hd, rfl, rfl⟩
    by_cases hkt : k < l.length
    · have hst : findI p (l.drop k) k = if p l[k] then (k : Int) else findI p (l.drop (k + 1)) (k + 1) := by rw [List.drop_eq_getElem_cons hkt, findI]
      have hw := wrapNat hkt hl
      repeat (first | refine vw_seqAt rfl ?_ | refine vw_scopeAt rfl ?_ | refine vw_labelAt rfl ?_ | refine vw_skipAt rfl ?_ | refine vw_exitAt _ rfl rfl ?_ | refine vw_retAt rfl ?_ | (refine vw_condT rfl rfl ?_ ?_; focus (simp [ev, Fr.look]; done)) | (refine vw_condF rfl rfl ?_ ?_; focus (simp [ev, Fr.look]; done)) | refine vw_blockAt _ rfl rfl ?_ | (apply vw_regionRun; (focus rfl); (focus ((conv => lhs; reduce); done)); (focus ((conv => lhs; simp [-List.map_set, set_vnat, set_vnat1, set_vint, set_bool, hkt]); done)); refine vseg_done ?_) | (apply vw_drawPlain; (focus rfl); (focus kernel_rfl); (focus ((conv => lhs; reduce); done)); (focus ((conv => lhs; reduce); done)); (focus (kernel_rfl)); (focus ((conv => lhs; simp [-List.map_set, set_vnat, set_vnat1, set_vint, set_bool, hkt]); done)); refine vseg_done ?_))
      repeat refine vw_seqAt rfl ?_
      refine vw_regionRun rfl (by conv => lhs; reduce) (by conv => lhs; simp [-List.map_set, set_vnat, set_vnat1, set_vint, set_bool, hkt]) ?_
      refine vcallv_use rfl hc rfl (h _ (List.getElem_mem hkt)) ?_
      refine vseg_more (by conv => lhs; simp [-List.map_set, set_vnat, set_vnat1, set_vint, set_bool]) ?_
      refine vseg_done ?_
      cases hp : p l[k] with
      | true =>
        rw [hp] at hst
        repeat (first | refine vw_seqAt rfl ?_ | refine vw_scopeAt rfl ?_ | refine vw_labelAt rfl ?_ | refine vw_skipAt rfl ?_ | refine vw_exitAt _ rfl rfl ?_ | refine vw_retAt rfl ?_ | (refine vw_condT rfl rfl ?_ ?_; focus (simp [ev, Fr.look]; done)) | (refine vw_condF rfl rfl ?_ ?_; focus (simp [ev, Fr.look]; done)) | refine vw_blockAt _ rfl rfl ?_ | (apply vw_regionRun; (focus rfl); (focus ((conv => lhs; reduce); done)); (focus ((conv => lhs; simp [-List.map_set, set_vnat, set_vnat1, set_vint, set_bool, hp]); done)); refine vseg_done ?_) | (apply vw_drawPlain; (focus rfl); (focus kernel_rfl); (focus ((conv => lhs; reduce); done)); (focus ((conv => lhs; reduce); done)); (focus (kernel_rfl)); (focus ((conv => lhs; simp [-List.map_set, set_vnat, set_vnat1, set_vint, set_bool, hp]); done)); refine vseg_done ?_))
        exact done_pure hwf (by rw [← hd, hst]; rfl) rfl
      | false =>
        rw [hp] at hst
        repeat (first | refine vw_seqAt rfl ?_ | refine vw_scopeAt rfl ?_ | refine vw_labelAt rfl ?_ | refine vw_skipAt rfl ?_ | refine vw_exitAt _ rfl rfl ?_ | refine vw_retAt rfl ?_ | (refine vw_condT rfl rfl ?_ ?_; focus (simp [ev, Fr.look]; done)) | (refine vw_condF rfl rfl ?_ ?_; focus (simp [ev, Fr.look]; done)) | refine vw_blockAt _ rfl rfl ?_ | (apply vw_regionRun; (focus rfl); (focus ((conv => lhs; reduce); done)); (focus ((conv => lhs; simp [-List.map_set, set_vnat, set_vnat1, set_vint, set_bool, hp]); done)); refine vseg_done ?_) | (apply vw_drawPlain; (focus rfl); (focus kernel_rfl); (focus ((conv => lhs; reduce); done)); (focus ((conv => lhs; reduce); done)); (focus (kernel_rfl)); (focus ((conv => lhs; simp [-List.map_set, set_vnat, set_vnat1, set_vint, set_bool, hp]); done)); refine vseg_done ?_))
        show Again _ _ _ _ _ _ _
        exact again ⟨Nat.sub_lt_sub_left hkt (Nat.lt_succ_self k), k + 1, hkt, rfl, by rw [← hd, hst]; rfl, by simp [Fr.only, hw], rfl⟩
    · have e : l.drop k = [] := by rw [List.drop_eq_nil_iff]; omega
      rw [e] at hd
      repeat (first | refine vw_seqAt rfl ?_ | refine vw_scopeAt rfl ?_ | refine vw_labelAt rfl ?_ | refine vw_skipAt rfl ?_ | refine vw_exitAt _ rfl rfl ?_ | refine vw_retAt rfl ?_ | (refine vw_condT rfl rfl ?_ ?_; focus (simp [ev, Fr.look]; done)) | (refine vw_condF rfl rfl ?_ ?_; focus (simp [ev, Fr.look]; done)) | refine vw_blockAt _ rfl rfl ?_ | (apply vw_regionRun; (focus rfl); (focus ((conv => lhs; reduce); done)); (focus ((conv => lhs; simp [-List.map_set, set_vnat, set_vnat1, set_vint, set_bool, hkt]); done)); refine vseg_done ?_) | (apply vw_drawPlain; (focus rfl); (focus kernel_rfl); (focus ((conv => lhs; reduce); done)); (focus ((conv => lhs; reduce); done)); (focus (kernel_rfl)); (focus ((conv => lhs; simp [-List.map_set, set_vnat, set_vnat1, set_vint, set_bool, hkt]); done)); refine vseg_done ?_))
      exact done_pure hwf (by rw [← hd]; rfl) rfl

theorem AnyN_v (l : List (Ss.Ins)) (p : Ss.Ins → Bool) (fid : FuncId) (caps : List V) (hc : callable Try.prog fid = true) (hl : l.length < 2^63) (h : ∀ x ∈ l, VPure Try.prog fid ([encIns x] ++ caps) (.bool (p x))) :
    VPure Try.prog 75 [vl (encIns) l, .func fid caps] (.bool (l.any p)) := by
  intro S
  refine vcalls_start (c := bodyOf Try.f75) Try.func75 rfl rfl (by simp [Try.ntmps75]) ?_
  rw [Try.ntmps75]
  intro hwf
  rw [← findI_any p l 0]
  repeat (first | refine vw_seqAt rfl ?_ | refine vw_scopeAt rfl ?_ | refine vw_labelAt rfl ?_ | refine vw_skipAt rfl ?_ | refine vw_exitAt _ rfl rfl ?_ | refine vw_retAt rfl ?_ | (refine vw_condT rfl rfl ?_ ?_; focus (simp [ev, Fr.look]; done)) | (refine vw_condF rfl rfl ?_ ?_; focus (simp [ev, Fr.look]; done)) | refine vw_blockAt _ rfl rfl ?_ | (apply vw_regionRun; (focus rfl); (focus ((conv => lhs; reduce); done)); (focus ((conv => lhs; simp [-List.map_set, set_vnat, set_vnat1, set_vint, set_bool]); done)); refine vseg_done ?_) | (apply vw_drawPlain; (focus rfl); (focus kernel_rfl); (focus ((conv => lhs; reduce); done)); (focus ((conv => lhs; reduce); done)); (focus (kernel_rfl)); (focus ((conv => lhs; simp [-List.map_set, set_vnat, set_vnat1, set_vint, set_bool]); done)); refine vseg_done ?_))
  repeat refine vw_seqAt rfl ?_
  refine vw_regionRun rfl (by conv => lhs; reduce) (by conv => lhs; simp [-List.map_set, set_vnat, set_vnat1, set_vint, set_bool]) ?_
  refine vcall_use rfl (IndexN_v l p fid caps hc hl h) ?_
  refine vseg_more (by conv => lhs; simp [-List.map_set, set_vnat, set_vnat1, set_vint, set_bool]) ?_
  refine vseg_done ?_
  repeat (first | refine vw_seqAt rfl ?_ | refine vw_scopeAt rfl ?_ | refine vw_labelAt rfl ?_ | refine vw_skipAt rfl ?_ | refine vw_exitAt _ rfl rfl ?_ | refine vw_retAt rfl ?_ | (refine vw_condT rfl rfl ?_ ?_; focus (simp [ev, Fr.look]; done)) | (refine vw_condF rfl rfl ?_ ?_; focus (simp [ev, Fr.look]; done)) | refine vw_blockAt _ rfl rfl ?_ | (apply vw_regionRun; (focus rfl); (focus ((conv => lhs; reduce); done)); (focus ((conv => lhs; simp [-List.map_set, set_vnat, set_vnat1, set_vint, set_bool]); done)); refine vseg_done ?_) | (apply vw_drawPlain; (focus rfl); (focus kernel_rfl); (focus ((conv => lhs; reduce); done)); (focus ((conv => lhs; reduce); done)); (focus (kernel_rfl)); (focus ((conv => lhs; simp [-List.map_set, set_vnat, set_vnat1, set_vint, set_bool]); done)); refine vseg_done ?_))
  exact done_pure hwf rfl rfl

end Go.Vw
