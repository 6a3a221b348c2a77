import Derived.Test.YtmfpoangempgaaaGreatC14
import Derived.Test.YtmfpoangempgaaaGreatC13
import Derived.Test.YtmfpoangempgaaaGreatProg
import Derived.Test.YtmfpoangempgaaaGreatC12
import Derived.Test.YtmfpoangempgaaaGreatC10
/-
  Part of the proof (texts CKinds, SEqF, GDom, GDom2).
-/
set_option linter.unusedVariables false
set_option linter.unusedSimpArgs false
namespace Go.Vw
open Go.Proofs Go.RowKit
set_option maxRecDepth 10000
set_option maxHeartbeats 2000000

theorem rkind_v (t : Int) : VPure Tryz.prog 44 [vint t] (.bool (Ss.isKind t)) := by
  intro S
  refine vcalls_start (c := bodyOf Tryz.f44) Tryz.func44 rfl rfl (by simp [Tryz.ntmps44]) ?_
  rw [Tryz.ntmps44]
  intro hwf
  by_cases h : t = 127
  · repeat (first|refine QG ?_|refine QX (r:=by conv=>lhs;simp[-List.map_set,QV,h]) (k:=?_))
    exact done_pure hwf (by simp [Ss.isKind, h]) rfl
  · repeat (first|refine QG ?_|refine QX (r:=by conv=>lhs;simp[-List.map_set,QV,h]) (k:=?_))
    exact done_pure hwf (by simp [Ss.isKind, h]) rfl
theorem rkinds_v (most : Nat) (l : List Int) (hl : l.length < 2^63) : VPure Tryz.prog 13 [vl vint l, vnat most] (.bool (Ss.kinds most l)) := by
  intro S
  by_cases h : l.length ≤ most
  case neg =>
    have h' : (most : Int) < (l.length : Int) := by omega
    have hX : Ss.kinds most l = false := by simp [Ss.kinds, h]
    rw [hX]
    refine vcalls_start (c := bodyOf Tryz.f13) Tryz.func13 rfl rfl (by simp [Tryz.ntmps13]) ?_
    rw [Tryz.ntmps13]
    intro hwf
    repeat (first|refine QG ?_|refine QX (r:=by conv=>lhs;simp[-List.map_set,QV,h,h']) (k:=?_))
    exact done_pure hwf rfl rfl
  have h' : ¬ (most : Int) < (l.length : Int) := by omega
  have hX : Ss.kinds most l = l.all Ss.isKind := by simp [Ss.kinds, h]
  rw [hX]
  refine vcalls_start (c := bodyOf Tryz.f13) Tryz.func13 rfl rfl (by simp [Tryz.ntmps13]) ?_
  rw [Tryz.ntmps13]
  intro hwf
  repeat (first|refine QG ?_|refine QX (r:=by conv=>lhs;simp[-List.map_set,QV,h,h']) (k:=?_))
  repeat refine QS ?_
  refine vw_loopAt [0, 5] rfl (fun c σ S' => ∃ (k : Nat), k ≤ l.length ∧ c = l.length - k ∧ (l.drop k).all Ss.isKind = l.all Ss.isKind ∧ σ = [(0, vl vint l), (5, vnat k)] ∧ S' = St S [] []) l.length ?_ ?_
  · exact ⟨0, by omega, rfl, rfl, by simp [Fr.only], rfl⟩
  · rintro c σ T ⟨k, hk, rfl, hd, rfl, rfl⟩
    by_cases hkt : k < l.length
    · have hst := Ss.drop_all Ss.isKind hkt
      have hw := wrapNat hkt hl
      repeat (first|refine QG ?_|refine QX (r:=by conv=>lhs;simp[-List.map_set,QV,hkt]) (k:=?_))
      repeat refine QS ?_
      refine QR (r:=by conv=>lhs;simp[-List.map_set,QV,hkt]) (k:=?_)
      refine vcall_useH (rkind_v l[k]) (by rfl) ?_
      generalize Ss.isKind l[k] = z at *
      by_cases hz : z = true
      · refine QM (by conv=>lhs;simp[-List.map_set,QV,hz]) ?_
        refine QN ?_
        repeat (first|refine QG ?_|refine QX (r:=by conv=>lhs;simp[-List.map_set,QV,hw,hkt]) (k:=?_))
        show Again _ _ _ _ _ _ _
        exact again ⟨by omega, k + 1, by omega, rfl, by rw [← hd, hst, hz, Bool.true_and], by simp [Fr.only], rfl⟩
      · have hz' : z = false := by simpa using hz
        refine QM (by conv=>lhs;simp[-List.map_set,QV,hz']) ?_
        refine QN ?_
        repeat (first|refine QG ?_|refine QX (r:=by conv=>lhs;simp[-List.map_set,QV]) (k:=?_))
        rw [← hd, hst, hz', Bool.false_and]
        exact done_pure hwf rfl rfl
    · repeat (first|refine QG ?_|refine QX (r:=by conv=>lhs;simp[-List.map_set,QV,hkt]) (k:=?_))
      rw [← hd, Ss.drop_all_end _ hkt]
      exact done_pure hwf rfl rfl
theorem rsig_v (s : Ss.Sig) (hs : s.Fits) : VPure Tryz.prog 14 [encSig s] (.bool s.right) := by
  intro S
  obtain ⟨⟨h1, _⟩, ⟨h2, _⟩⟩ := hs
  obtain ⟨a, b⟩ := s
  simp only at h1 h2
  have hX : Ss.Sig.right ⟨a, b⟩ = (Ss.kinds 8 a && Ss.kinds 8 b) := rfl
  rw [hX]
  have c1 : VPure Tryz.prog 13 [vl vint a, .int .i64 8] (.bool (Ss.kinds 8 a)) := rkinds_v 8 a (by omega)
  have c2 : VPure Tryz.prog 13 [vl vint b, .int .i64 8] (.bool (Ss.kinds 8 b)) := rkinds_v 8 b (by omega)
  generalize Ss.kinds 8 a = x at *
  generalize Ss.kinds 8 b = y at *
  refine vcalls_start (c := bodyOf Tryz.f14) Tryz.func14 rfl rfl (by simp [Tryz.ntmps14]) ?_
  rw [Tryz.ntmps14]
  intro hwf
  repeat (first|refine QG ?_|refine QX (r:=by conv=>lhs;simp[-List.map_set,QV]) (k:=?_))
  repeat refine QS ?_
  refine QR (r:=by conv=>lhs;simp[-List.map_set,QV]) (k:=?_)
  refine vcall_useH (c1) (by rfl) ?_
  by_cases hx : x = true
  · refine QM (by conv=>lhs;simp[-List.map_set,QV,hx]) ?_
    refine vcall_useH (c2) (by rfl) ?_
    refine QM (by conv=>lhs;simp[-List.map_set,QV]) ?_
    refine QN ?_
    repeat (first|refine QG ?_|refine QX (r:=by conv=>lhs;simp[-List.map_set,QV]) (k:=?_))
    exact done_pure hwf (by simp [hx]) rfl
  · have hx' : x = false := by simpa using hx
    refine QM (by conv=>lhs;simp[-List.map_set,QV,hx']) ?_
    refine QN ?_
    repeat (first|refine QG ?_|refine QX (r:=by conv=>lhs;simp[-List.map_set,QV]) (k:=?_))
    exact done_pure hwf (by simp [hx']) rfl
theorem REnvRight_v (e : Ss.Env) (he : e.Fits) : VPure Tryz.prog 5 [encEnv e] (.bool e.right) := by
  intro S
  obtain ⟨⟨h1, h2⟩, _, ⟨h4, _⟩, h5⟩ := he
  obtain ⟨sg, im, gl, mu, me⟩ := e
  simp only at h1 h2 h4 h5
  have hX : Ss.Env.right ⟨sg, im, gl, mu, me⟩ = (decide (0 ≤ im) && decide (im ≤ sg.length) && decide (sg.length ≤ 64) && decide (mu.length = gl.length) && Ss.kinds 32 gl && sg.all Ss.Sig.right) := rfl
  rw [hX]
  have c1 : VPure Tryz.prog 13 [vl vint gl, .int .i64 32] (.bool (Ss.kinds 32 gl)) := rkinds_v 32 gl (by omega)
  generalize Ss.kinds 32 gl = x at *
  refine vcalls_start (c := bodyOf Tryz.f5) Tryz.func5 rfl rfl (by simp [Tryz.ntmps5]) ?_
  rw [Tryz.ntmps5]
  intro hwf
  by_cases k3 : (64 : Int) < (sg.length : Int)
  · repeat (first|refine QG ?_|refine QX (r:=by conv=>lhs;simp[-List.map_set,QV,k3]) (k:=?_))
    exact done_pure hwf (by simp; omega) rfl
  by_cases k1 : im < 0
  · repeat (first|refine QG ?_|refine QX (r:=by conv=>lhs;simp[-List.map_set,QV,k1,k3]) (k:=?_))
    exact done_pure hwf (by simp; omega) rfl
  by_cases k2 : (sg.length : Int) < im
  · repeat (first|refine QG ?_|refine QX (r:=by conv=>lhs;simp[-List.map_set,QV,k1,k2,k3]) (k:=?_))
    exact done_pure hwf (by simp; omega) rfl
  repeat (first|refine QG ?_|refine QX (r:=by conv=>lhs;simp[-List.map_set,QV,k1,k2,k3]) (k:=?_))
  repeat refine QS ?_
  refine QR (r:=by conv=>lhs;simp[-List.map_set,QV,k1,k2,k3]) (k:=?_)
  refine vcall_useH (c1) (by rfl) ?_
  by_cases hx : x = true
  case neg =>
    have hx' : x = false := by simpa using hx
    refine QM (by conv=>lhs;simp[-List.map_set,QV,hx']) ?_
    refine QN ?_
    repeat (first|refine QG ?_|refine QX (r:=by conv=>lhs;simp[-List.map_set,QV]) (k:=?_))
    exact done_pure hwf (by simp [hx']) rfl
  by_cases k4 : mu.length = gl.length
  case neg =>
    have k4' : ¬ (mu.length : Int) = (gl.length : Int) := by omega
    refine QM (by conv=>lhs;simp[-List.map_set,QV,hx,k4,k4']) ?_
    refine QN ?_
    repeat (first|refine QG ?_|refine QX (r:=by conv=>lhs;simp[-List.map_set,QV]) (k:=?_))
    exact done_pure hwf (by simp [k4]) rfl
  have k4' : (mu.length : Int) = (gl.length : Int) := by omega
  have hp : (decide (0 ≤ im) && decide (im ≤ sg.length) && decide (sg.length ≤ 64) && decide (mu.length = gl.length)) = true := by simp [k4]; omega
  rw [hp, hx]
  refine QM (by conv=>lhs;simp[-List.map_set,QV,hx,k4,k4']) ?_
  refine QN ?_
  repeat (first|refine QG ?_|refine QX (r:=by conv=>lhs;simp[-List.map_set,QV]) (k:=?_))
  have hl : sg.length < 2^63 := by omega
  rw [Bool.true_and, Bool.true_and]
  repeat refine QS ?_
  refine vw_loopAt [1, 3] rfl (fun c σ S' => ∃ (k : Nat), k ≤ sg.length ∧ c = sg.length - k ∧ (sg.drop k).all Ss.Sig.right = sg.all Ss.Sig.right ∧ σ = [(1, .ptr (lid S.nx 0) 0), (3, vnat k)] ∧ S' = St S [] [some (5, [vl encSig sg, vint im, vl vint gl, vl V.bool mu, .bool me])]) sg.length ?_ ?_
  · exact ⟨0, by omega, rfl, rfl, by simp [Fr.only], rfl⟩
  · rintro c σ T ⟨k, hk, rfl, hd, rfl, rfl⟩
    by_cases hkt : k < sg.length
    · have hst := Ss.drop_all Ss.Sig.right hkt
      have hw := wrapNat hkt hl
      have c2 := rsig_v sg[k] (h2 _ (List.getElem_mem hkt))
      generalize hz0 : Ss.Sig.right sg[k] = z at *
      obtain ⟨⟨a, b⟩, hb⟩ : ∃ s, sg[k] = s := ⟨_, rfl⟩
      rw [hb] at c2
      have c2' : VPure Tryz.prog 14 [.agg [vl vint a, vl vint b]] (.bool z) := c2
      repeat (first|refine QG ?_|refine QX (r:=by conv=>lhs;simp[-List.map_set,QV,hkt]) (k:=?_))
      repeat refine QS ?_
      refine QR (r:=by conv=>lhs;simp[-List.map_set,QV,hkt,hb]) (k:=?_)
      refine vcall_useH (c2') (by rfl) ?_
      by_cases hz : z = true
      · refine QM (by conv=>lhs;simp[-List.map_set,QV,hz]) ?_
        refine QN ?_
        repeat (first|refine QG ?_|refine QX (r:=by conv=>lhs;simp[-List.map_set,QV,hw,hkt]) (k:=?_))
        show Again _ _ _ _ _ _ _
        exact again ⟨by omega, k + 1, by omega, rfl, by rw [← hd, hst, hz, Bool.true_and], by simp [Fr.only], rfl⟩
      · have hz' : z = false := by simpa using hz
        refine QM (by conv=>lhs;simp[-List.map_set,QV,hz']) ?_
        refine QN ?_
        repeat (first|refine QG ?_|refine QX (r:=by conv=>lhs;simp[-List.map_set,QV]) (k:=?_))
        rw [← hd, hst, hz', Bool.false_and]
        exact done_pure hwf rfl rfl
    · repeat (first|refine QG ?_|refine QX (r:=by conv=>lhs;simp[-List.map_set,QV,hkt]) (k:=?_))
      rw [← hd, Ss.drop_all_end _ hkt]
      exact done_pure hwf rfl rfl
end Go.Vw

namespace Go.Vw
open Go.Proofs Go.RowKit
set_option maxRecDepth 10000
set_option maxHeartbeats 4000000

theorem EqFB_v (l m : List (Ss.Block)) (p : Ss.Block → Ss.Block → Bool) (fid : FuncId) (hc : callable Tryz.prog fid = true) (hl : l.length < 2^63) (h : l.length = m.length → ∀ (k : Nat) (h1 : k < l.length) (h2 : k < m.length), VPure Tryz.prog fid ([encBlock l[k], encBlock m[k]]) (.bool (p l[k] m[k]))) :
    VPure Tryz.prog 63 [vl (encBlock) l, vl (encBlock) m, .func fid []] (.bool (eqF p l m)) := by
  intro S
  by_cases hlm : l.length = m.length
  · have hlm' : (l.length : Int) = (m.length : Int) := by omega
    have h := h hlm
    refine vcalls_start (c := bodyOf Tryz.f63) Tryz.func63 rfl rfl (by simp [Tryz.ntmps63]) ?_
    rw [Tryz.ntmps63]
    intro hwf
    repeat (first|refine QG ?_|refine QX (r:=by conv=>lhs;simp[-List.map_set,QV,hlm,hlm']) (k:=?_))
    repeat refine QS ?_
    refine vw_loopAt [1, 2, 15, 16, 17] rfl (fun c σ S' => ∃ (k : Nat), k ≤ l.length ∧ c = l.length - k ∧ eqF p (l.drop k) (m.drop k) = eqF p l m ∧ σ = [(1, vl (encBlock) m), (2, .func fid []), (15, vl (encBlock) l), (16, vnat m.length), (17, vnat k)] ∧ S' = St S [] []) l.length ?_ ?_
    · exact ⟨0, by omega, rfl, rfl, by simp [Fr.only, hlm], rfl⟩
    · rintro c σ T ⟨k, hk, rfl, hd, rfl, rfl⟩
      by_cases hkt : k < l.length
      · have hkm : k < m.length := by omega
        have hw := wrapNat hkt hl
        have hst : eqF p (l.drop k) (m.drop k) = (p l[k] m[k] && eqF p (l.drop (k + 1)) (m.drop (k + 1))) := by rw [List.drop_eq_getElem_cons hkt, List.drop_eq_getElem_cons hkm, eqF]
        have hh := h k hkt hkm
        obtain ⟨x, hx⟩ : ∃ x, l[k] = x := ⟨_, rfl⟩
        obtain ⟨y, hy⟩ : ∃ y, m[k] = y := ⟨_, rfl⟩
        rw [hx, hy] at hst hh
        repeat (first|refine QG ?_|refine QX (r:=by conv=>lhs;simp[-List.map_set,QV,hkt,hkm,hx,hy]) (k:=?_))
        repeat refine QS ?_
        refine QR (r:=by conv=>lhs;simp[-List.map_set,QV,hkt,hkm,hx,hy]) (k:=?_)
        refine vcallv_use rfl hc rfl hh ?_
        refine QM (by conv=>lhs;simp[-List.map_set,QV]) ?_
        refine QN ?_
        cases hp : p x y with
        | false =>
          rw [hp] at hst
          repeat (first|refine QG ?_|refine QX (r:=by conv=>lhs;simp[-List.map_set,QV,hp]) (k:=?_))
          exact done_pure hwf (by rw [← hd, hst]; rfl) rfl
        | true =>
          rw [hp] at hst
          repeat (first|refine QG ?_|refine QX (r:=by conv=>lhs;simp[-List.map_set,QV,hp]) (k:=?_))
          refine QA [] (h:=⟨?_, k + 1, hkt, rfl, by rw [← hd, hst]; rfl, by simp [hw], rfl⟩)
          omega
      · have e : l.drop k = [] := by rw [List.drop_eq_nil_iff]; omega
        have e' : m.drop k = [] := by rw [List.drop_eq_nil_iff]; omega
        rw [e, e'] at hd
        have hkm : ¬ k < m.length := by omega
        repeat (first|refine QG ?_|refine QX (r:=by conv=>lhs;simp[-List.map_set,QV,hkt,hkm]) (k:=?_))
        exact done_pure hwf (by rw [← hd]; rfl) rfl
  · have hlm' : ¬ (l.length : Int) = (m.length : Int) := by omega
    have e : eqF p l m = false := eqF_len hlm
    rw [e]
    refine vcalls_start (c := bodyOf Tryz.f63) Tryz.func63 rfl rfl (by simp [Tryz.ntmps63]) ?_
    rw [Tryz.ntmps63]
    intro hwf
    repeat (first|refine QG ?_|refine QX (r:=by conv=>lhs;simp[-List.map_set,QV,hlm,hlm']) (k:=?_))
    exact done_pure hwf rfl rfl

theorem EqFN_v (l m : List (Ss.Ins)) (p : Ss.Ins → Ss.Ins → Bool) (fid : FuncId) (hc : callable Tryz.prog fid = true) (hl : l.length < 2^63) (h : l.length = m.length → ∀ (k : Nat) (h1 : k < l.length) (h2 : k < m.length), VPure Tryz.prog fid ([encIns l[k], encIns m[k]]) (.bool (p l[k] m[k]))) :
    VPure Tryz.prog 87 [vl (encIns) l, vl (encIns) m, .func fid []] (.bool (eqF p l m)) := by
  intro S
  by_cases hlm : l.length = m.length
  · have hlm' : (l.length : Int) = (m.length : Int) := by omega
    have h := h hlm
    refine vcalls_start (c := bodyOf Tryz.f87) Tryz.func87 rfl rfl (by simp [Tryz.ntmps87]) ?_
    rw [Tryz.ntmps87]
    intro hwf
    repeat (first|refine QG ?_|refine QX (r:=by conv=>lhs;simp[-List.map_set,QV,hlm,hlm']) (k:=?_))
    repeat refine QS ?_
    refine vw_loopAt [1, 2, 15, 16, 17] rfl (fun c σ S' => ∃ (k : Nat), k ≤ l.length ∧ c = l.length - k ∧ eqF p (l.drop k) (m.drop k) = eqF p l m ∧ σ = [(1, vl (encIns) m), (2, .func fid []), (15, vl (encIns) l), (16, vnat m.length), (17, vnat k)] ∧ S' = St S [] []) l.length ?_ ?_
    · exact ⟨0, by omega, rfl, rfl, by simp [Fr.only, hlm], rfl⟩
    · rintro c σ T ⟨k, hk, rfl, hd, rfl, rfl⟩
      by_cases hkt : k < l.length
      · have hkm : k < m.length := by omega
        have hw := wrapNat hkt hl
        have hst : eqF p (l.drop k) (m.drop k) = (p l[k] m[k] && eqF p (l.drop (k + 1)) (m.drop (k + 1))) := by rw [List.drop_eq_getElem_cons hkt, List.drop_eq_getElem_cons hkm, eqF]
        have hh := h k hkt hkm
        obtain ⟨x, hx⟩ : ∃ x, l[k] = x := ⟨_, rfl⟩
        obtain ⟨y, hy⟩ : ∃ y, m[k] = y := ⟨_, rfl⟩
        rw [hx, hy] at hst hh
        repeat (first|refine QG ?_|refine QX (r:=by conv=>lhs;simp[-List.map_set,QV,hkt,hkm,hx,hy]) (k:=?_))
        repeat refine QS ?_
        refine QR (r:=by conv=>lhs;simp[-List.map_set,QV,hkt,hkm,hx,hy]) (k:=?_)
        refine vcallv_use rfl hc rfl hh ?_
        refine QM (by conv=>lhs;simp[-List.map_set,QV]) ?_
        refine QN ?_
        cases hp : p x y with
        | false =>
          rw [hp] at hst
          repeat (first|refine QG ?_|refine QX (r:=by conv=>lhs;simp[-List.map_set,QV,hp]) (k:=?_))
          exact done_pure hwf (by rw [← hd, hst]; rfl) rfl
        | true =>
          rw [hp] at hst
          repeat (first|refine QG ?_|refine QX (r:=by conv=>lhs;simp[-List.map_set,QV,hp]) (k:=?_))
          refine QA [] (h:=⟨?_, k + 1, hkt, rfl, by rw [← hd, hst]; rfl, by simp [hw], rfl⟩)
          omega
      · have e : l.drop k = [] := by rw [List.drop_eq_nil_iff]; omega
        have e' : m.drop k = [] := by rw [List.drop_eq_nil_iff]; omega
        rw [e, e'] at hd
        have hkm : ¬ k < m.length := by omega
        repeat (first|refine QG ?_|refine QX (r:=by conv=>lhs;simp[-List.map_set,QV,hkt,hkm]) (k:=?_))
        exact done_pure hwf (by rw [← hd]; rfl) rfl
  · have hlm' : ¬ (l.length : Int) = (m.length : Int) := by omega
    have e : eqF p l m = false := eqF_len hlm
    rw [e]
    refine vcalls_start (c := bodyOf Tryz.f87) Tryz.func87 rfl rfl (by simp [Tryz.ntmps87]) ?_
    rw [Tryz.ntmps87]
    intro hwf
    repeat (first|refine QG ?_|refine QX (r:=by conv=>lhs;simp[-List.map_set,QV,hlm,hlm']) (k:=?_))
    exact done_pure hwf rfl rfl

theorem EqFE_v (l m : List (Ss.Edge)) (p : Ss.Edge → Ss.Edge → Bool) (fid : FuncId) (hc : callable Tryz.prog fid = true) (hl : l.length < 2^63) (h : l.length = m.length → ∀ (k : Nat) (h1 : k < l.length) (h2 : k < m.length), VPure Tryz.prog fid ([encEdge l[k], encEdge m[k]]) (.bool (p l[k] m[k]))) :
    VPure Tryz.prog 89 [vl (encEdge) l, vl (encEdge) m, .func fid []] (.bool (eqF p l m)) := by
  intro S
  by_cases hlm : l.length = m.length
  · have hlm' : (l.length : Int) = (m.length : Int) := by omega
    have h := h hlm
    refine vcalls_start (c := bodyOf Tryz.f89) Tryz.func89 rfl rfl (by simp [Tryz.ntmps89]) ?_
    rw [Tryz.ntmps89]
    intro hwf
    repeat (first|refine QG ?_|refine QX (r:=by conv=>lhs;simp[-List.map_set,QV,hlm,hlm']) (k:=?_))
    repeat refine QS ?_
    refine vw_loopAt [1, 2, 15, 16, 17] rfl (fun c σ S' => ∃ (k : Nat), k ≤ l.length ∧ c = l.length - k ∧ eqF p (l.drop k) (m.drop k) = eqF p l m ∧ σ = [(1, vl (encEdge) m), (2, .func fid []), (15, vl (encEdge) l), (16, vnat m.length), (17, vnat k)] ∧ S' = St S [] []) l.length ?_ ?_
    · exact ⟨0, by omega, rfl, rfl, by simp [Fr.only, hlm], rfl⟩
    · rintro c σ T ⟨k, hk, rfl, hd, rfl, rfl⟩
      by_cases hkt : k < l.length
      · have hkm : k < m.length := by omega
        have hw := wrapNat hkt hl
        have hst : eqF p (l.drop k) (m.drop k) = (p l[k] m[k] && eqF p (l.drop (k + 1)) (m.drop (k + 1))) := by rw [List.drop_eq_getElem_cons hkt, List.drop_eq_getElem_cons hkm, eqF]
        have hh := h k hkt hkm
        obtain ⟨x, hx⟩ : ∃ x, l[k] = x := ⟨_, rfl⟩
        obtain ⟨y, hy⟩ : ∃ y, m[k] = y := ⟨_, rfl⟩
        rw [hx, hy] at hst hh
        repeat (first|refine QG ?_|refine QX (r:=by conv=>lhs;simp[-List.map_set,QV,hkt,hkm,hx,hy]) (k:=?_))
        repeat refine QS ?_
        refine QR (r:=by conv=>lhs;simp[-List.map_set,QV,hkt,hkm,hx,hy]) (k:=?_)
        refine vcallv_use rfl hc rfl hh ?_
        refine QM (by conv=>lhs;simp[-List.map_set,QV]) ?_
        refine QN ?_
        cases hp : p x y with
        | false =>
          rw [hp] at hst
          repeat (first|refine QG ?_|refine QX (r:=by conv=>lhs;simp[-List.map_set,QV,hp]) (k:=?_))
          exact done_pure hwf (by rw [← hd, hst]; rfl) rfl
        | true =>
          rw [hp] at hst
          repeat (first|refine QG ?_|refine QX (r:=by conv=>lhs;simp[-List.map_set,QV,hp]) (k:=?_))
          refine QA [] (h:=⟨?_, k + 1, hkt, rfl, by rw [← hd, hst]; rfl, by simp [hw], rfl⟩)
          omega
      · have e : l.drop k = [] := by rw [List.drop_eq_nil_iff]; omega
        have e' : m.drop k = [] := by rw [List.drop_eq_nil_iff]; omega
        rw [e, e'] at hd
        have hkm : ¬ k < m.length := by omega
        repeat (first|refine QG ?_|refine QX (r:=by conv=>lhs;simp[-List.map_set,QV,hkt,hkm]) (k:=?_))
        exact done_pure hwf (by rw [← hd]; rfl) rfl
  · have hlm' : ¬ (l.length : Int) = (m.length : Int) := by omega
    have e : eqF p l m = false := eqF_len hlm
    rw [e]
    refine vcalls_start (c := bodyOf Tryz.f89) Tryz.func89 rfl rfl (by simp [Tryz.ntmps89]) ?_
    rw [Tryz.ntmps89]
    intro hwf
    repeat (first|refine QG ?_|refine QX (r:=by conv=>lhs;simp[-List.map_set,QV,hlm,hlm']) (k:=?_))
    exact done_pure hwf rfl rfl

theorem EqFI_v (l m : List (Int)) (p : Int → Int → Bool) (fid : FuncId) (caps : List V) (hc : callable Tryz.prog fid = true) (hl : l.length < 2^63) (h : l.length = m.length → ∀ (k : Nat) (h1 : k < l.length) (h2 : k < m.length), VPure Tryz.prog fid ([vint l[k], vint m[k]] ++ caps) (.bool (p l[k] m[k]))) :
    VPure Tryz.prog 78 [vl (vint) l, vl (vint) m, .func fid caps] (.bool (eqF p l m)) := by
  intro S
  by_cases hlm : l.length = m.length
  · have hlm' : (l.length : Int) = (m.length : Int) := by omega
    have h := h hlm
    refine vcalls_start (c := bodyOf Tryz.f78) Tryz.func78 rfl rfl (by simp [Tryz.ntmps78]) ?_
    rw [Tryz.ntmps78]
    intro hwf
    repeat (first|refine QG ?_|refine QX (r:=by conv=>lhs;simp[-List.map_set,QV,hlm,hlm']) (k:=?_))
    repeat refine QS ?_
    refine vw_loopAt [1, 2, 15, 16, 17] rfl (fun c σ S' => ∃ (k : Nat), k ≤ l.length ∧ c = l.length - k ∧ eqF p (l.drop k) (m.drop k) = eqF p l m ∧ σ = [(1, vl (vint) m), (2, .func fid caps), (15, vl (vint) l), (16, vnat m.length), (17, vnat k)] ∧ S' = St S [] []) l.length ?_ ?_
    · exact ⟨0, by omega, rfl, rfl, by simp [Fr.only, hlm], rfl⟩
    · rintro c σ T ⟨k, hk, rfl, hd, rfl, rfl⟩
      by_cases hkt : k < l.length
      · have hkm : k < m.length := by omega
        have hw := wrapNat hkt hl
        have hst : eqF p (l.drop k) (m.drop k) = (p l[k] m[k] && eqF p (l.drop (k + 1)) (m.drop (k + 1))) := by rw [List.drop_eq_getElem_cons hkt, List.drop_eq_getElem_cons hkm, eqF]
        have hh := h k hkt hkm
        obtain ⟨x, hx⟩ : ∃ x, l[k] = x := ⟨_, rfl⟩
        obtain ⟨y, hy⟩ : ∃ y, m[k] = y := ⟨_, rfl⟩
        rw [hx, hy] at hst hh
        repeat (first|refine QG ?_|refine QX (r:=by conv=>lhs;simp[-List.map_set,QV,hkt,hkm,hx,hy]) (k:=?_))
        repeat refine QS ?_
        refine QR (r:=by conv=>lhs;simp[-List.map_set,QV,hkt,hkm,hx,hy]) (k:=?_)
        refine vcallv_use rfl hc rfl hh ?_
        refine QM (by conv=>lhs;simp[-List.map_set,QV]) ?_
        refine QN ?_
        cases hp : p x y with
        | false =>
          rw [hp] at hst
          repeat (first|refine QG ?_|refine QX (r:=by conv=>lhs;simp[-List.map_set,QV,hp]) (k:=?_))
          exact done_pure hwf (by rw [← hd, hst]; rfl) rfl
        | true =>
          rw [hp] at hst
          repeat (first|refine QG ?_|refine QX (r:=by conv=>lhs;simp[-List.map_set,QV,hp]) (k:=?_))
          show Again _ _ _ _ _ _ _
          exact again ⟨Nat.sub_lt_sub_left hkt (Nat.lt_succ_self k), k + 1, hkt, rfl, by rw [← hd, hst]; rfl, by simp [Fr.only, hw], rfl⟩
      · have e : l.drop k = [] := by rw [List.drop_eq_nil_iff]; omega
        have e' : m.drop k = [] := by rw [List.drop_eq_nil_iff]; omega
        rw [e, e'] at hd
        have hkm : ¬ k < m.length := by omega
        repeat (first|refine QG ?_|refine QX (r:=by conv=>lhs;simp[-List.map_set,QV,hkt,hkm]) (k:=?_))
        exact done_pure hwf (by rw [← hd]; rfl) rfl
  · have hlm' : ¬ (l.length : Int) = (m.length : Int) := by omega
    have e : eqF p l m = false := eqF_len hlm
    rw [e]
    refine vcalls_start (c := bodyOf Tryz.f78) Tryz.func78 rfl rfl (by simp [Tryz.ntmps78]) ?_
    rw [Tryz.ntmps78]
    intro hwf
    repeat (first|refine QG ?_|refine QX (r:=by conv=>lhs;simp[-List.map_set,QV,hlm,hlm']) (k:=?_))
    exact done_pure hwf rfl rfl

end Go.Vw

namespace Go.Vw
open Go.Proofs Go.RowKit
set_option maxRecDepth 10000
set_option maxHeartbeats 4000000

theorem RDominates_v (l : List Int) (a b : Int) (hl : l.length < 2^63) : VPure Tryz.prog 84 [vl vint l, vint a, vint b] (.bool (G.dominates l a b)) := by
  intro S
  refine vcalls_gives rfl ?_
  refine vcalls_body (c := bodyOf Tryz.f84) Tryz.func84 rfl rfl (by simp [Tryz.ntmps84]) ?_
  rw [Tryz.ntmps84]
  repeat refine QS ?_
  refine QR (r:=by conv=>lhs;simp[-List.map_set,QV]) (k:=?_)
  refine QN ?_
  by_cases ha : G.okIx l a
  · by_cases hb : G.okIx l b
    · obtain ⟨ha1, ha2⟩ := ha
      obtain ⟨hb1, hb2⟩ := hb
      have e1 : ¬ a < 0 := by omega
      have e2 : ¬ (l.length : Int) ≤ a := by omega
      have e3 : ¬ b < 0 := by omega
      have e4 : ¬ (l.length : Int) ≤ b := by omega
      repeat refine QS ?_
      refine QR (r:=by conv=>lhs;simp[-List.map_set,QV,opLen_vl,e1,e2,e3,e4]) (k:=?_)
      refine QN ?_
      repeat refine QS ?_
      refine vw_condF rfl rfl rfl ?_
      repeat refine QS ?_
      refine vw_skipAt rfl ?_
      repeat refine QS ?_
      refine QR (r:=by conv=>lhs;simp[-List.map_set,QV]) (k:=?_)
      refine QN ?_
      repeat refine QS ?_
      refine vw_blockAt 0 rfl rfl ?_
      repeat refine QS ?_
      refine vw_loopAt [0, 1, 2, 7] rfl (fun n σ S' => ∃ (k : Nat) (c : Int), k ≤ 257 ∧ n = 257 - k ∧ G.okIx l c ∧ G.dom1 l a (257 - k) c = G.dom1 l a 257 b ∧ σ = [(0, vl vint l), (1, vint a), (2, vint c), (7, vnat k)] ∧ S' = S) 257 ?_ ?_
      · exact ⟨0, b, by omega, rfl, ⟨hb1, hb2⟩, rfl, by simp [Fr.only, Fr.look, vnat, vint], rfl⟩
      · rintro n σ S' ⟨k, c, hk, rfl, hc, hd, rfl, rfl⟩
        have hfin : G.dominates l a b = G.dom1 l a 257 b := by simp [G.dominates, G.okIx, ha1, ha2]
        obtain ⟨hc1, hc2⟩ := hc
        have hcn : c.toNat < l.length := by omega
        repeat refine QS ?_
        refine QR (r:=by conv=>lhs;simp[-List.map_set,QV]) (k:=?_)
        refine QN ?_
        repeat refine QS ?_
        refine vw_condRun rfl rfl rfl (k ≤ 256) (by first | (simp; done) | (simp; omega)) ?_ ?_
        · intro hk6
          have hst : G.dom1 l a (257 - k) c = if a = c then true else G.dom1 l a (256 - k) (l[c.toNat]) := by
            rw [show 257 - k = (256 - k) + 1 from by omega, G.dom1, if_pos ⟨hc1, hc2⟩]
            simp [hcn]
          repeat refine QS ?_
          refine vw_skipAt rfl ?_
          repeat refine QS ?_
          refine vw_blockAt 1 rfl rfl ?_
          repeat refine QS ?_
          refine QR (r:=by conv=>lhs;simp[-List.map_set,QV]) (k:=?_)
          refine QN ?_
          repeat refine QS ?_
          refine vw_condRun rfl rfl rfl (a = c) (by first | (simp; done) | (simp; omega)) ?_ ?_
          · intro hac
            repeat refine QS ?_
            refine QR (r:=by conv=>lhs;simp[-List.map_set,QV]) (k:=?_)
            refine QN ?_
            repeat refine QS ?_
            refine vw_retAt rfl ?_
            rw [hfin, ← hd, hst, if_pos hac]
            exact Gives.same (Agree.refl S')
          · intro hac
            rw [if_neg hac] at hst
            repeat refine QS ?_
            refine vw_skipAt rfl ?_
            repeat refine QS ?_
            refine QR (r:=by conv=>lhs;simp[-List.map_set,QV,opIndex_vlz,hc1,hcn]) (k:=?_)
            refine QN ?_
            have fls : ¬ G.okIx l l[c.toNat] → G.dom1 l a (256 - k) l[c.toNat] = false := by
              intro h
              cases 256 - k <;> simp [G.dom1, h]
            by_cases hx : l[c.toNat] < 0
            · repeat refine QS ?_
              refine QR (r:=by conv=>lhs;simp[-List.map_set,QV,opLen_vl,hx]) (k:=?_)
              refine QN ?_
              repeat refine QS ?_
              refine vw_condT rfl rfl rfl ?_
              repeat refine QS ?_
              refine QR (r:=by conv=>lhs;simp[-List.map_set,QV]) (k:=?_)
              refine QN ?_
              repeat refine QS ?_
              refine vw_retAt rfl ?_
              rw [hfin, ← hd, hst, fls (by simp [G.okIx]; omega)]
              exact Gives.same (Agree.refl S')
            · by_cases hy : (l.length : Int) ≤ l[c.toNat]
              · repeat refine QS ?_
                refine QR (r:=by conv=>lhs;simp[-List.map_set,QV,opLen_vl,hx,hy]) (k:=?_)
                refine QN ?_
                repeat refine QS ?_
                refine vw_condT rfl rfl rfl ?_
                repeat refine QS ?_
                refine QR (r:=by conv=>lhs;simp[-List.map_set,QV]) (k:=?_)
                refine QN ?_
                repeat refine QS ?_
                refine vw_retAt rfl ?_
                rw [hfin, ← hd, hst, fls (by simp [G.okIx]; omega)]
                exact Gives.same (Agree.refl S')
              · repeat refine QS ?_
                refine QR (r:=by conv=>lhs;simp[-List.map_set,QV,opLen_vl,hx,hy]) (k:=?_)
                refine QN ?_
                repeat refine QS ?_
                refine vw_condF rfl rfl rfl ?_
                repeat refine QS ?_
                refine vw_skipAt rfl ?_
                have hw : IntKind.i64.wrap ((k : Int) + 1) = (k : Int) + 1 := wrap_i64 (by omega) (by omega)
                repeat refine QS ?_
                refine QR (r:=by conv=>lhs;simp[-List.map_set,QV,hw]) (k:=?_)
                refine QN ?_
                exact again ⟨Nat.sub_lt_sub_left (by omega) (Nat.lt_succ_self k), k + 1, l[c.toNat], by omega, rfl, ⟨by omega, by omega⟩, by rw [← hd, hst]; congr 1; omega, by simp [Fr.only, Fr.look, vnat, vint], rfl⟩
        · intro hk6
          repeat refine QS ?_
          refine vw_exitAt 0 rfl rfl ?_
          repeat refine QS ?_
          refine QR (r:=by conv=>lhs;simp[-List.map_set,QV]) (k:=?_)
          refine QN ?_
          repeat refine QS ?_
          refine vw_retAt rfl ?_
          rw [hfin, ← hd, show 257 - k = 0 from by omega]
          exact Gives.same (Agree.refl S')
    · have hfin : G.dominates l a b = false := by simp [G.dominates, G.dom1, hb]
      obtain ⟨ha1, ha2⟩ := ha
      have e1 : ¬ a < 0 := by omega
      have e2 : ¬ (l.length : Int) ≤ a := by omega
      rw [hfin]
      by_cases e3 : b < 0
      · repeat refine QS ?_
        refine QR (r:=by conv=>lhs;simp[-List.map_set,QV,opLen_vl,e1,e2,e3]) (k:=?_)
        refine QN ?_
        repeat refine QS ?_
        refine vw_condT rfl rfl rfl ?_
        repeat refine QS ?_
        refine QR (r:=by conv=>lhs;simp[-List.map_set,QV]) (k:=?_)
        refine QN ?_
        repeat refine QS ?_
        refine vw_retAt rfl ?_
        exact Gives.same (Agree.refl S)
      · have e4 : (l.length : Int) ≤ b := by simp [G.okIx] at hb; omega
        repeat refine QS ?_
        refine QR (r:=by conv=>lhs;simp[-List.map_set,QV,opLen_vl,e1,e2,e3,e4]) (k:=?_)
        refine QN ?_
        repeat refine QS ?_
        refine vw_condT rfl rfl rfl ?_
        repeat refine QS ?_
        refine QR (r:=by conv=>lhs;simp[-List.map_set,QV]) (k:=?_)
        refine QN ?_
        repeat refine QS ?_
        refine vw_retAt rfl ?_
        exact Gives.same (Agree.refl S)
  · have hfin : G.dominates l a b = false := by simp [G.dominates, ha]
    rw [hfin]
    by_cases e1 : a < 0
    · repeat refine QS ?_
      refine QR (r:=by conv=>lhs;simp[-List.map_set,QV,opLen_vl,e1]) (k:=?_)
      refine QN ?_
      repeat refine QS ?_
      refine vw_condT rfl rfl rfl ?_
      repeat refine QS ?_
      refine QR (r:=by conv=>lhs;simp[-List.map_set,QV]) (k:=?_)
      refine QN ?_
      repeat refine QS ?_
      refine vw_retAt rfl ?_
      exact Gives.same (Agree.refl S)
    · have e2 : (l.length : Int) ≤ a := by simp [G.okIx] at ha; omega
      repeat refine QS ?_
      refine QR (r:=by conv=>lhs;simp[-List.map_set,QV,opLen_vl,e1,e2]) (k:=?_)
      refine QN ?_
      repeat refine QS ?_
      refine vw_condT rfl rfl rfl ?_
      repeat refine QS ?_
      refine QR (r:=by conv=>lhs;simp[-List.map_set,QV]) (k:=?_)
      refine QN ?_
      repeat refine QS ?_
      refine vw_retAt rfl ?_
      exact Gives.same (Agree.refl S)
end Go.Vw

namespace Go.Vw
open Go.Proofs Go.RowKit
set_option maxRecDepth 10000
set_option maxHeartbeats 4000000

theorem there_v (l : List Int) (n : Int) : VPure Tryz.prog 97 [vint n, .ref (vl vint l)] (.bool (decide (G.okIx l n))) := by
  intro S
  refine vcalls_gives rfl ?_
  refine vcalls_body (c := bodyOf Tryz.f97) Tryz.func97 rfl rfl (by simp [Tryz.ntmps97]) ?_
  rw [Tryz.ntmps97]
  repeat refine QS ?_
  refine QR (r:=by conv=>lhs;simp[-List.map_set,QV]) (k:=?_)
  refine QN ?_
  by_cases h0 : 0 ≤ n
  · repeat refine QS ?_
    refine QR (r:=by conv=>lhs;simp[-List.map_set,QV,opLen_vl,h0]) (k:=?_)
    refine QN ?_
    repeat refine QS ?_
    refine vw_retAt rfl ?_
    have : decide (G.okIx l n) = decide (n < (l.length : Int)) := by simp [G.okIx, h0]
    rw [this]
    exact Gives.same (Agree.refl S)
  · repeat refine QS ?_
    refine QR (r:=by conv=>lhs;simp[-List.map_set,QV,opLen_vl,h0]) (k:=?_)
    refine QN ?_
    repeat refine QS ?_
    refine vw_retAt rfl ?_
    have : decide (G.okIx l n) = false := by simp [G.okIx, h0]
    rw [this]
    exact Gives.same (Agree.refl S)

theorem Dominates_v (l : List Int) (a b : Int) (hl : l.length < 2^63) : VPure Tryz.prog 80 [vl vint l, vint a, vint b] (.bool (G.dominates l a b)) := by
  intro S
  refine vcalls_gives rfl ?_
  refine vcalls_body (c := bodyOf Tryz.f80) Tryz.func80 rfl rfl (by simp [Tryz.ntmps80]) ?_
  rw [Tryz.ntmps80]
  repeat refine QS ?_
  refine QR (r:=by conv=>lhs;simp[-List.map_set,QV]) (k:=?_)
  refine QN ?_
  refine vw_ghost' 3 rfl (Ghost.box (get_add _ _) (closed1_vl _ _)) (by conv => lhs; simp [Fr.set]) ?_
  have hag : Agree S ((S.add (1, [vl vint l])).del S.nx) := ((Agree.refl S).add _).del (Nat.le_refl _)
  generalize (S.add (1, [vl vint l])).del S.nx = S1 at hag ⊢
  repeat refine QS ?_
  refine QR (r:=by conv=>lhs;simp[-List.map_set,QV]) (k:=?_)
  refine QN ?_
  repeat refine QS ?_
  refine QR (r:=by conv=>lhs;simp[-List.map_set,QV]) (k:=?_)
  refine vcallv_use rfl rfl rfl (there_v l a) ?_
  refine QM (by conv=>lhs;simp[-List.map_set,QV]) ?_
  refine QN ?_
  by_cases ha : G.okIx l a
  · have hfin : G.dominates l a b = G.dom1 l a 257 b := by simp [G.dominates, ha]
    rw [hfin]
    refine vw_condF rfl rfl (by simp [ev, Fr.look, ha]) ?_
    repeat refine QS ?_
    refine vw_skipAt rfl ?_
    repeat refine QS ?_
    refine QR (r:=by conv=>lhs;simp[-List.map_set,QV]) (k:=?_)
    refine QN ?_
    repeat refine QS ?_
    refine vw_blockAt 0 rfl rfl ?_
    repeat refine QS ?_
    refine vw_loopAt [0, 1, 2, 3, 7, 8] rfl (fun n σ S' => ∃ (k : Nat) (c : Int), k ≤ 257 ∧ n = 257 - k ∧ G.dom1 l a (257 - k) c = G.dom1 l a 257 b ∧ σ = [(0, vl vint l), (1, vint a), (2, vint c), (3, .ref (vl vint l)), (7, .func 97 [.ref (vl vint l)]), (8, vnat k)] ∧ S' = S1) 257 ?_ ?_
    · exact ⟨0, b, by omega, rfl, rfl, by simp [Fr.only, Fr.look, vnat, vint], rfl⟩
    · rintro n σ S' ⟨k, c, hk, rfl, hd, rfl, rfl⟩
      by_cases hk6 : k ≤ 256
      · have hst : G.dom1 l a (257 - k) c = if G.okIx l c then (if a = c then true else G.dom1 l a (256 - k) (l.getD c.toNat 0)) else false := by
          rw [show 257 - k = (256 - k) + 1 from by omega, G.dom1]
        have h7 : (k : Int) ≤ 256 := by omega
        repeat refine QS ?_
        refine QR (r:=by conv=>lhs;simp[-List.map_set,QV,h7]) (k:=?_)
        refine vcallv_use rfl rfl rfl (there_v l c) ?_
        refine QM (by conv=>lhs;simp[-List.map_set,QV]) ?_
        refine QN ?_
        by_cases hc : G.okIx l c
        · refine vw_condT rfl rfl (by simp [ev, Fr.look, hc]) ?_
          rw [if_pos hc] at hst
          obtain ⟨hc1, hc2⟩ := hc
          have hcn : c.toNat < l.length := by omega
          repeat refine QS ?_
          refine vw_skipAt rfl ?_
          repeat refine QS ?_
          refine vw_blockAt 1 rfl rfl ?_
          repeat refine QS ?_
          refine QR (r:=by conv=>lhs;simp[-List.map_set,QV]) (k:=?_)
          refine QN ?_
          repeat refine QS ?_
          refine vw_condRun rfl rfl rfl (a = c) (by first | (simp; done) | (simp; omega)) ?_ ?_
          · intro hac
            repeat refine QS ?_
            refine QR (r:=by conv=>lhs;simp[-List.map_set,QV]) (k:=?_)
            refine QN ?_
            repeat refine QS ?_
            refine vw_retAt rfl ?_
            rw [← hd, hst, if_pos hac]
            exact Gives.same hag
          · intro hac
            rw [if_neg hac] at hst
            have hw : IntKind.i64.wrap ((k : Int) + 1) = (k : Int) + 1 := wrap_i64 (by omega) (by omega)
            repeat refine QS ?_
            refine vw_skipAt rfl ?_
            repeat refine QS ?_
            refine QR (r:=by conv=>lhs;simp[-List.map_set,QV,opIndex_vlz,hc1,hcn]) (k:=?_)
            refine QN ?_
            repeat refine QS ?_
            refine QR (r:=by conv=>lhs;simp[-List.map_set,QV,hw]) (k:=?_)
            refine QN ?_
            exact again ⟨Nat.sub_lt_sub_left (by omega) (Nat.lt_succ_self k), k + 1, l[c.toNat], by omega, rfl, by rw [← hd, hst, show 257 - (k + 1) = 256 - k from by omega]; simp [hcn], by simp [Fr.only, Fr.look, vnat, vint], rfl⟩
        · refine vw_condF rfl rfl (by simp [ev, Fr.look, hc]) ?_
          repeat refine QS ?_
          refine vw_exitAt 0 rfl rfl ?_
          repeat refine QS ?_
          refine QR (r:=by conv=>lhs;simp[-List.map_set,QV]) (k:=?_)
          refine QN ?_
          repeat refine QS ?_
          refine vw_retAt rfl ?_
          rw [← hd, hst, if_neg hc]
          exact Gives.same hag
      · have h7 : ¬ (k : Int) ≤ 256 := by omega
        repeat refine QS ?_
        refine QR (r:=by conv=>lhs;simp[-List.map_set,QV,h7]) (k:=?_)
        refine QN ?_
        repeat refine QS ?_
        refine vw_condF rfl rfl rfl ?_
        repeat refine QS ?_
        refine vw_exitAt 0 rfl rfl ?_
        repeat refine QS ?_
        refine QR (r:=by conv=>lhs;simp[-List.map_set,QV]) (k:=?_)
        refine QN ?_
        repeat refine QS ?_
        refine vw_retAt rfl ?_
        rw [← hd, show 257 - k = 0 from by omega]
        exact Gives.same hag
  · have hfin : G.dominates l a b = false := by simp [G.dominates, ha]
    rw [hfin]
    refine vw_condT rfl rfl (by simp [ev, Fr.look, ha]) ?_
    repeat refine QS ?_
    refine QR (r:=by conv=>lhs;simp[-List.map_set,QV]) (k:=?_)
    refine QN ?_
    repeat refine QS ?_
    refine vw_retAt rfl ?_
    exact Gives.same hag
end Go.Vw
