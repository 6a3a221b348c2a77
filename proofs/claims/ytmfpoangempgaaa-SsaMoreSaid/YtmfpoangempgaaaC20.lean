import Derived.Test.YtmfpoangempgaaaC18
import Derived.Test.YtmfpoangempgaaaC19
import Derived.Test.YtmfpoangempgaaaProg
import Derived.Test.YtmfpoangempgaaaC13
/-
  Part of the proof (texts SKinds, SEqF, SAsk).
-/
set_option linter.unusedVariables false
set_option linter.unusedSimpArgs false
namespace Ss
def isKind (t : Int) : Bool := decide (t = 127) || decide (t = 126)
def kinds (most : Nat) (l : List Int) : Bool := decide (l.length ≤ most) && l.all isKind
def Sig.right (s : Sig) : Bool := kinds 8 s.inn && kinds 8 s.out
def Env.right (e : Env) : Bool := decide (0 ≤ e.imports) && decide (e.imports ≤ e.sigs.length) && decide (e.sigs.length ≤ 64) && decide (e.muts.length = e.globals.length) && kinds 32 e.globals && e.sigs.all Sig.right
end Ss
namespace Go.Vw
open Go.Proofs Go.RowKit
set_option maxRecDepth 10000
set_option maxHeartbeats 1000000

theorem isKind_v (t : Int) : VPure Try.prog 55 [vint t] (.bool (Ss.isKind t)) := by
  intro S
  refine vcalls_start (c := bodyOf Try.f55) Try.func55 rfl rfl (by simp [Try.ntmps55]) ?_
  rw [Try.ntmps55]
  intro hwf
  by_cases h : t = 127
  · repeat (first|refine QG ?_|refine QX (r:=by conv=>lhs;simp[-List.map_set,QV,h]) (k:=?_))
    exact done_pure hwf (by simp [Ss.isKind, h]) rfl
  · repeat (first|refine QG ?_|refine QX (r:=by conv=>lhs;simp[-List.map_set,QV,h]) (k:=?_))
    exact done_pure hwf (by simp [Ss.isKind, h]) rfl
theorem kinds1_v (t : Int) : VPure Try.prog 54 ([vint t] ++ []) (.bool (!Ss.isKind t)) := by
  intro S
  refine vcalls_start (c := bodyOf Try.f54) Try.func54 rfl rfl (by simp [Try.ntmps54]) ?_
  rw [Try.ntmps54]
  intro hwf
  repeat (first|refine QG ?_|refine QX (r:=by conv=>lhs;simp[-List.map_set,QV]) (k:=?_))
  repeat refine QS ?_
  refine QR (r:=by conv=>lhs;simp[-List.map_set,QV]) (k:=?_)
  refine vcall_useH (isKind_v t) (by rfl) ?_
  refine QM (by conv=>lhs;simp[-List.map_set,QV]) ?_
  refine QN ?_
  repeat (first|refine QG ?_|refine QX (r:=by conv=>lhs;simp[-List.map_set,QV]) (k:=?_))
  exact done_pure hwf rfl rfl
theorem kinds_v (most : Nat) (l : List Int) (hl : l.length < 2^63) : VPure Try.prog 30 [vnat most, vl vint l] (.bool (Ss.kinds most l)) := by
  intro S
  have e : (!l.any fun t => !Ss.isKind t) = l.all Ss.isKind := by
    rw [List.not_any_eq_all_not]; congr 1; funext t; simp
  by_cases h : l.length ≤ most
  · have h' : (l.length : Int) ≤ (most : Int) := by omega
    have hX : Ss.kinds most l = !l.any fun t => !Ss.isKind t := by rw [e]; simp [Ss.kinds, h]
    rw [hX]
    refine vcalls_start (c := bodyOf Try.f30) Try.func30 rfl rfl (by simp [Try.ntmps30]) ?_
    rw [Try.ntmps30]
    intro hwf
    repeat (first|refine QG ?_|refine QX (r:=by conv=>lhs;simp[-List.map_set,QV,h,h']) (k:=?_))
    repeat refine QS ?_
    refine QR (r:=by conv=>lhs;simp[-List.map_set,QV,h,h']) (k:=?_)
    refine vcall_useH (AnyI_v l (fun t => !Ss.isKind t) _ [] rfl hl (fun t _ => kinds1_v t)) (by rfl) ?_
    refine QM (by conv=>lhs;simp[-List.map_set,QV]) ?_
    refine QN ?_
    repeat (first|refine QG ?_|refine QX (r:=by conv=>lhs;simp[-List.map_set,QV]) (k:=?_))
    exact done_pure hwf (by simp) rfl
  · have h' : ¬ (l.length : Int) ≤ (most : Int) := by omega
    have hX : Ss.kinds most l = false := by simp [Ss.kinds, h]
    rw [hX]
    refine vcalls_start (c := bodyOf Try.f30) Try.func30 rfl rfl (by simp [Try.ntmps30]) ?_
    rw [Try.ntmps30]
    intro hwf
    repeat (first|refine QG ?_|refine QX (r:=by conv=>lhs;simp[-List.map_set,QV,h,h']) (k:=?_))
    exact done_pure hwf rfl rfl
theorem sigRight_v (s : Ss.Sig) (hs : s.Fits) : VPure Try.prog 31 [encSig s] (.bool s.right) := by
  intro S
  obtain ⟨⟨h1, _⟩, ⟨h2, _⟩⟩ := hs
  obtain ⟨a, b⟩ := s
  simp only at h1 h2
  have hX : Ss.Sig.right ⟨a, b⟩ = (Ss.kinds 8 a && Ss.kinds 8 b) := rfl
  rw [hX]
  have c1 : VPure Try.prog 30 [.int .i64 8, vl vint a] (.bool (Ss.kinds 8 a)) := kinds_v 8 a (by omega)
  have c2 : VPure Try.prog 30 [.int .i64 8, vl vint b] (.bool (Ss.kinds 8 b)) := kinds_v 8 b (by omega)
  generalize Ss.kinds 8 a = x at *
  generalize Ss.kinds 8 b = y at *
  refine vcalls_start (c := bodyOf Try.f31) Try.func31 rfl rfl (by simp [Try.ntmps31]) ?_
  rw [Try.ntmps31]
  intro hwf
  repeat (first|refine QG ?_|refine QX (r:=by conv=>lhs;simp[-List.map_set,QV]) (k:=?_))
  repeat refine QS ?_
  refine QR (r:=by conv=>lhs;simp[-List.map_set,QV]) (k:=?_)
  refine vcall_useH (c1) (by rfl) ?_
  by_cases hx : x = true
  · refine QM (by conv=>lhs;simp[-List.map_set,QV,hx]) ?_
    refine vcall_useH (c2) (by rfl) ?_
    refine QM (by conv=>lhs;simp[-List.map_set,QV]) ?_
    refine QN ?_
    repeat (first|refine QG ?_|refine QX (r:=by conv=>lhs;simp[-List.map_set,QV]) (k:=?_))
    exact done_pure hwf (by simp [hx]) rfl
  · have hx' : x = false := by simpa using hx
    refine QM (by conv=>lhs;simp[-List.map_set,QV,hx']) ?_
    refine QN ?_
    repeat (first|refine QG ?_|refine QX (r:=by conv=>lhs;simp[-List.map_set,QV]) (k:=?_))
    exact done_pure hwf (by simp [hx']) rfl
theorem envRight1_v (s : Ss.Sig) (hs : s.Fits) : VPure Try.prog 52 ([encSig s] ++ []) (.bool (!s.right)) := by
  intro S
  have c1 := sigRight_v s hs
  obtain ⟨a, b⟩ := s
  have c1' : VPure Try.prog 31 [.agg [vl vint a, vl vint b]] (.bool (Ss.Sig.right ⟨a, b⟩)) := c1
  refine vcalls_start (c := bodyOf Try.f52) Try.func52 rfl rfl (by simp [Try.ntmps52]) ?_
  rw [Try.ntmps52]
  intro hwf
  repeat (first|refine QG ?_|refine QX (r:=by conv=>lhs;simp[-List.map_set,QV]) (k:=?_))
  repeat refine QS ?_
  refine QR (r:=by conv=>lhs;simp[-List.map_set,QV]) (k:=?_)
  refine vcall_useH (c1') (by rfl) ?_
  refine QM (by conv=>lhs;simp[-List.map_set,QV]) ?_
  refine QN ?_
  repeat (first|refine QG ?_|refine QX (r:=by conv=>lhs;simp[-List.map_set,QV]) (k:=?_))
  exact done_pure hwf rfl rfl
theorem EnvRight_v (e : Ss.Env) (he : e.Fits) : VPure Try.prog 29 [encEnv e] (.bool e.right) := by
  intro S
  obtain ⟨⟨h1, h2⟩, _, ⟨h4, _⟩, h5⟩ := he
  obtain ⟨sg, im, gl, mu, me⟩ := e
  simp only at h1 h2 h4 h5
  have ea : (!sg.any fun s => !s.right) = sg.all Ss.Sig.right := by
    rw [List.not_any_eq_all_not]; congr 1; funext t; simp
  have hX : Ss.Env.right ⟨sg, im, gl, mu, me⟩ = (decide (0 ≤ im) && decide (im ≤ sg.length) && decide (sg.length ≤ 64) && decide (mu.length = gl.length) && Ss.kinds 32 gl && !sg.any fun s => !s.right) := by rw [ea]; rfl
  rw [hX]
  have c1 : VPure Try.prog 30 [.int .i64 32, vl vint gl] (.bool (Ss.kinds 32 gl)) := kinds_v 32 gl (by omega)
  have c2 := AnyS_v sg (fun s => !s.right) 52 [] rfl (by omega) (fun s hs => envRight1_v s (h2 s hs))
  generalize Ss.kinds 32 gl = x at *
  generalize (sg.any fun s => !s.right) = y at *
  refine vcalls_start (c := bodyOf Try.f29) Try.func29 rfl rfl (by simp [Try.ntmps29]) ?_
  rw [Try.ntmps29]
  intro hwf
  by_cases k1 : im < 0
  · repeat (first|refine QG ?_|refine QX (r:=by conv=>lhs;simp[-List.map_set,QV,k1]) (k:=?_))
    exact done_pure hwf (by simp; omega) rfl
  by_cases k2 : (sg.length : Int) < im
  · repeat (first|refine QG ?_|refine QX (r:=by conv=>lhs;simp[-List.map_set,QV,k1,k2]) (k:=?_))
    exact done_pure hwf (by simp; omega) rfl
  by_cases k3 : (64 : Int) < (sg.length : Int)
  · repeat (first|refine QG ?_|refine QX (r:=by conv=>lhs;simp[-List.map_set,QV,k1,k2,k3]) (k:=?_))
    exact done_pure hwf (by simp; omega) rfl
  by_cases k4 : mu.length = gl.length
  case neg =>
    have k4' : ¬ (mu.length : Int) = (gl.length : Int) := by omega
    repeat (first|refine QG ?_|refine QX (r:=by conv=>lhs;simp[-List.map_set,QV,k1,k2,k3,k4,k4']) (k:=?_))
    exact done_pure hwf (by simp [k4]) rfl
  have k4' : (mu.length : Int) = (gl.length : Int) := by omega
  have hp : (decide (0 ≤ im) && decide (im ≤ sg.length) && decide (sg.length ≤ 64) && decide (mu.length = gl.length)) = true := by simp [k4]; omega
  rw [hp]
  repeat (first|refine QG ?_|refine QX (r:=by conv=>lhs;simp[-List.map_set,QV,k1,k2,k3,k4,k4']) (k:=?_))
  repeat refine QS ?_
  refine QR (r:=by conv=>lhs;simp[-List.map_set,QV]) (k:=?_)
  refine vcall_useH (c1) (by rfl) ?_
  by_cases hx : x = true
  · refine QM (by conv=>lhs;simp[-List.map_set,QV,hx]) ?_
    refine vcall_useH (c2) (by rfl) ?_
    refine QM (by conv=>lhs;simp[-List.map_set,QV]) ?_
    refine QN ?_
    repeat (first|refine QG ?_|refine QX (r:=by conv=>lhs;simp[-List.map_set,QV]) (k:=?_))
    exact done_pure hwf (by simp [hx]) rfl
  · have hx' : x = false := by simpa using hx
    refine QM (by conv=>lhs;simp[-List.map_set,QV,hx']) ?_
    refine QN ?_
    repeat (first|refine QG ?_|refine QX (r:=by conv=>lhs;simp[-List.map_set,QV]) (k:=?_))
    exact done_pure hwf (by simp [hx']) rfl
theorem check1_v (b : Ss.Block) : VPure Try.prog 33 ([encBlock b] ++ []) (.bool (decide (256 < b.params.length))) := by
  intro S
  obtain ⟨ps, c, t⟩ := b
  refine vcalls_start (c := bodyOf Try.f33) Try.func33 rfl rfl (by simp [Try.ntmps33]) ?_
  rw [Try.ntmps33]
  intro hwf
  repeat (first|refine QG ?_|refine QX (r:=by conv=>lhs;simp[-List.map_set,QV]) (k:=?_))
  exact done_pure hwf (by simp; omega) rfl
end Go.Vw

namespace Go.Vw
open Go.Proofs Go.RowKit
set_option maxRecDepth 10000
set_option maxHeartbeats 4000000

theorem EqFB_v (l m : List (Ss.Block)) (p : Ss.Block → Ss.Block → Bool) (fid : FuncId) (hc : callable Try.prog fid = true) (hl : l.length < 2^63) (h : l.length = m.length → ∀ (k : Nat) (h1 : k < l.length) (h2 : k < m.length), VPure Try.prog fid ([encBlock l[k], encBlock m[k]]) (.bool (p l[k] m[k]))) :
    VPure Try.prog 18 [vl (encBlock) l, vl (encBlock) m, .func fid []] (.bool (eqF p l m)) := by
  intro S
  by_cases hlm : l.length = m.length
  · have hlm' : (l.length : Int) = (m.length : Int) := by omega
    have h := h hlm
    refine vcalls_start (c := bodyOf Try.f18) Try.func18 rfl rfl (by simp [Try.ntmps18]) ?_
    rw [Try.ntmps18]
    intro hwf
    repeat (first|refine QG ?_|refine QX (r:=by conv=>lhs;simp[-List.map_set,QV,hlm,hlm']) (k:=?_))
    repeat refine QS ?_
    refine vw_loopAt [1, 2, 15, 16, 17] rfl (fun c σ S' => ∃ (k : Nat), k ≤ l.length ∧ c = l.length - k ∧ eqF p (l.drop k) (m.drop k) = eqF p l m ∧ σ = [(1, vl (encBlock) m), (2, .func fid []), (15, vl (encBlock) l), (16, vnat m.length), (17, vnat k)] ∧ S' = St S [] []) l.length ?_ ?_
    · exact ⟨0, by omega, rfl, rfl, by simp [Fr.only, hlm], rfl⟩
    · rintro c σ T ⟨k, hk, rfl, hd, rfl, rfl⟩
      by_cases hkt : k < l.length
      · have hkm : k < m.length := by omega
        have hw := wrapNat hkt hl
        have hst : eqF p (l.drop k) (m.drop k) = (p l[k] m[k] && eqF p (l.drop (k + 1)) (m.drop (k + 1))) := by rw [List.drop_eq_getElem_cons hkt, List.drop_eq_getElem_cons hkm, eqF]
        have hh := h k hkt hkm
        obtain ⟨x, hx⟩ : ∃ x, l[k] = x := ⟨_, rfl⟩
        obtain ⟨y, hy⟩ : ∃ y, m[k] = y := ⟨_, rfl⟩
        rw [hx, hy] at hst hh
        repeat (first|refine QG ?_|refine QX (r:=by conv=>lhs;simp[-List.map_set,QV,hkt,hkm,hx,hy]) (k:=?_))
        repeat refine QS ?_
        refine QR (r:=by conv=>lhs;simp[-List.map_set,QV,hkt,hkm,hx,hy]) (k:=?_)
        refine vcallv_use rfl hc rfl hh ?_
        refine QM (by conv=>lhs;simp[-List.map_set,QV]) ?_
        refine QN ?_
        cases hp : p x y with
        | false =>
          rw [hp] at hst
          repeat (first|refine QG ?_|refine QX (r:=by conv=>lhs;simp[-List.map_set,QV,hp]) (k:=?_))
          exact done_pure hwf (by rw [← hd, hst]; rfl) rfl
        | true =>
          rw [hp] at hst
          repeat (first|refine QG ?_|refine QX (r:=by conv=>lhs;simp[-List.map_set,QV,hp]) (k:=?_))
          refine QA [] (h:=⟨?_, k + 1, hkt, rfl, by rw [← hd, hst]; rfl, by simp [hw], rfl⟩)
          omega
      · have e : l.drop k = [] := by rw [List.drop_eq_nil_iff]; omega
        have e' : m.drop k = [] := by rw [List.drop_eq_nil_iff]; omega
        rw [e, e'] at hd
        have hkm : ¬ k < m.length := by omega
        repeat (first|refine QG ?_|refine QX (r:=by conv=>lhs;simp[-List.map_set,QV,hkt,hkm]) (k:=?_))
        exact done_pure hwf (by rw [← hd]; rfl) rfl
  · have hlm' : ¬ (l.length : Int) = (m.length : Int) := by omega
    have e : eqF p l m = false := eqF_len hlm
    rw [e]
    refine vcalls_start (c := bodyOf Try.f18) Try.func18 rfl rfl (by simp [Try.ntmps18]) ?_
    rw [Try.ntmps18]
    intro hwf
    repeat (first|refine QG ?_|refine QX (r:=by conv=>lhs;simp[-List.map_set,QV,hlm,hlm']) (k:=?_))
    exact done_pure hwf rfl rfl

theorem EqFN_v (l m : List (Ss.Ins)) (p : Ss.Ins → Ss.Ins → Bool) (fid : FuncId) (hc : callable Try.prog fid = true) (hl : l.length < 2^63) (h : l.length = m.length → ∀ (k : Nat) (h1 : k < l.length) (h2 : k < m.length), VPure Try.prog fid ([encIns l[k], encIns m[k]]) (.bool (p l[k] m[k]))) :
    VPure Try.prog 45 [vl (encIns) l, vl (encIns) m, .func fid []] (.bool (eqF p l m)) := by
  intro S
  by_cases hlm : l.length = m.length
  · have hlm' : (l.length : Int) = (m.length : Int) := by omega
    have h := h hlm
    refine vcalls_start (c := bodyOf Try.f45) Try.func45 rfl rfl (by simp [Try.ntmps45]) ?_
    rw [Try.ntmps45]
    intro hwf
    repeat (first|refine QG ?_|refine QX (r:=by conv=>lhs;simp[-List.map_set,QV,hlm,hlm']) (k:=?_))
    repeat refine QS ?_
    refine vw_loopAt [1, 2, 15, 16, 17] rfl (fun c σ S' => ∃ (k : Nat), k ≤ l.length ∧ c = l.length - k ∧ eqF p (l.drop k) (m.drop k) = eqF p l m ∧ σ = [(1, vl (encIns) m), (2, .func fid []), (15, vl (encIns) l), (16, vnat m.length), (17, vnat k)] ∧ S' = St S [] []) l.length ?_ ?_
    · exact ⟨0, by omega, rfl, rfl, by simp [Fr.only, hlm], rfl⟩
    · rintro c σ T ⟨k, hk, rfl, hd, rfl, rfl⟩
      by_cases hkt : k < l.length
      · have hkm : k < m.length := by omega
        have hw := wrapNat hkt hl
        have hst : eqF p (l.drop k) (m.drop k) = (p l[k] m[k] && eqF p (l.drop (k + 1)) (m.drop (k + 1))) := by rw [List.drop_eq_getElem_cons hkt, List.drop_eq_getElem_cons hkm, eqF]
        have hh := h k hkt hkm
        obtain ⟨x, hx⟩ : ∃ x, l[k] = x := ⟨_, rfl⟩
        obtain ⟨y, hy⟩ : ∃ y, m[k] = y := ⟨_, rfl⟩
        rw [hx, hy] at hst hh
        repeat (first|refine QG ?_|refine QX (r:=by conv=>lhs;simp[-List.map_set,QV,hkt,hkm,hx,hy]) (k:=?_))
        repeat refine QS ?_
        refine QR (r:=by conv=>lhs;simp[-List.map_set,QV,hkt,hkm,hx,hy]) (k:=?_)
        refine vcallv_use rfl hc rfl hh ?_
        refine QM (by conv=>lhs;simp[-List.map_set,QV]) ?_
        refine QN ?_
        cases hp : p x y with
        | false =>
          rw [hp] at hst
          repeat (first|refine QG ?_|refine QX (r:=by conv=>lhs;simp[-List.map_set,QV,hp]) (k:=?_))
          exact done_pure hwf (by rw [← hd, hst]; rfl) rfl
        | true =>
          rw [hp] at hst
          repeat (first|refine QG ?_|refine QX (r:=by conv=>lhs;simp[-List.map_set,QV,hp]) (k:=?_))
          refine QA [] (h:=⟨?_, k + 1, hkt, rfl, by rw [← hd, hst]; rfl, by simp [hw], rfl⟩)
          omega
      · have e : l.drop k = [] := by rw [List.drop_eq_nil_iff]; omega
        have e' : m.drop k = [] := by rw [List.drop_eq_nil_iff]; omega
        rw [e, e'] at hd
        have hkm : ¬ k < m.length := by omega
        repeat (first|refine QG ?_|refine QX (r:=by conv=>lhs;simp[-List.map_set,QV,hkt,hkm]) (k:=?_))
        exact done_pure hwf (by rw [← hd]; rfl) rfl
  · have hlm' : ¬ (l.length : Int) = (m.length : Int) := by omega
    have e : eqF p l m = false := eqF_len hlm
    rw [e]
    refine vcalls_start (c := bodyOf Try.f45) Try.func45 rfl rfl (by simp [Try.ntmps45]) ?_
    rw [Try.ntmps45]
    intro hwf
    repeat (first|refine QG ?_|refine QX (r:=by conv=>lhs;simp[-List.map_set,QV,hlm,hlm']) (k:=?_))
    exact done_pure hwf rfl rfl

theorem EqFE_v (l m : List (Ss.Edge)) (p : Ss.Edge → Ss.Edge → Bool) (fid : FuncId) (hc : callable Try.prog fid = true) (hl : l.length < 2^63) (h : l.length = m.length → ∀ (k : Nat) (h1 : k < l.length) (h2 : k < m.length), VPure Try.prog fid ([encEdge l[k], encEdge m[k]]) (.bool (p l[k] m[k]))) :
    VPure Try.prog 47 [vl (encEdge) l, vl (encEdge) m, .func fid []] (.bool (eqF p l m)) := by
  intro S
  by_cases hlm : l.length = m.length
  · have hlm' : (l.length : Int) = (m.length : Int) := by omega
    have h := h hlm
    refine vcalls_start (c := bodyOf Try.f47) Try.func47 rfl rfl (by simp [Try.ntmps47]) ?_
    rw [Try.ntmps47]
    intro hwf
    repeat (first|refine QG ?_|refine QX (r:=by conv=>lhs;simp[-List.map_set,QV,hlm,hlm']) (k:=?_))
    repeat refine QS ?_
    refine vw_loopAt [1, 2, 15, 16, 17] rfl (fun c σ S' => ∃ (k : Nat), k ≤ l.length ∧ c = l.length - k ∧ eqF p (l.drop k) (m.drop k) = eqF p l m ∧ σ = [(1, vl (encEdge) m), (2, .func fid []), (15, vl (encEdge) l), (16, vnat m.length), (17, vnat k)] ∧ S' = St S [] []) l.length ?_ ?_
    · exact ⟨0, by omega, rfl, rfl, by simp [Fr.only, hlm], rfl⟩
    · rintro c σ T ⟨k, hk, rfl, hd, rfl, rfl⟩
      by_cases hkt : k < l.length
      · have hkm : k < m.length := by omega
        have hw := wrapNat hkt hl
        have hst : eqF p (l.drop k) (m.drop k) = (p l[k] m[k] && eqF p (l.drop (k + 1)) (m.drop (k + 1))) := by rw [List.drop_eq_getElem_cons hkt, List.drop_eq_getElem_cons hkm, eqF]
        have hh := h k hkt hkm
        obtain ⟨x, hx⟩ : ∃ x, l[k] = x := ⟨_, rfl⟩
        obtain ⟨y, hy⟩ : ∃ y, m[k] = y := ⟨_, rfl⟩
        rw [hx, hy] at hst hh
        repeat (first|refine QG ?_|refine QX (r:=by conv=>lhs;simp[-List.map_set,QV,hkt,hkm,hx,hy]) (k:=?_))
        repeat refine QS ?_
        refine QR (r:=by conv=>lhs;simp[-List.map_set,QV,hkt,hkm,hx,hy]) (k:=?_)
        refine vcallv_use rfl hc rfl hh ?_
        refine QM (by conv=>lhs;simp[-List.map_set,QV]) ?_
        refine QN ?_
        cases hp : p x y with
        | false =>
          rw [hp] at hst
          repeat (first|refine QG ?_|refine QX (r:=by conv=>lhs;simp[-List.map_set,QV,hp]) (k:=?_))
          exact done_pure hwf (by rw [← hd, hst]; rfl) rfl
        | true =>
          rw [hp] at hst
          repeat (first|refine QG ?_|refine QX (r:=by conv=>lhs;simp[-List.map_set,QV,hp]) (k:=?_))
          refine QA [] (h:=⟨?_, k + 1, hkt, rfl, by rw [← hd, hst]; rfl, by simp [hw], rfl⟩)
          omega
      · have e : l.drop k = [] := by rw [List.drop_eq_nil_iff]; omega
        have e' : m.drop k = [] := by rw [List.drop_eq_nil_iff]; omega
        rw [e, e'] at hd
        have hkm : ¬ k < m.length := by omega
        repeat (first|refine QG ?_|refine QX (r:=by conv=>lhs;simp[-List.map_set,QV,hkt,hkm]) (k:=?_))
        exact done_pure hwf (by rw [← hd]; rfl) rfl
  · have hlm' : ¬ (l.length : Int) = (m.length : Int) := by omega
    have e : eqF p l m = false := eqF_len hlm
    rw [e]
    refine vcalls_start (c := bodyOf Try.f47) Try.func47 rfl rfl (by simp [Try.ntmps47]) ?_
    rw [Try.ntmps47]
    intro hwf
    repeat (first|refine QG ?_|refine QX (r:=by conv=>lhs;simp[-List.map_set,QV,hlm,hlm']) (k:=?_))
    exact done_pure hwf rfl rfl

theorem EqFI_v (l m : List (Int)) (p : Int → Int → Bool) (fid : FuncId) (caps : List V) (hc : callable Try.prog fid = true) (hl : l.length < 2^63) (h : l.length = m.length → ∀ (k : Nat) (h1 : k < l.length) (h2 : k < m.length), VPure Try.prog fid ([vint l[k], vint m[k]] ++ caps) (.bool (p l[k] m[k]))) :
    VPure Try.prog 82 [vl (vint) l, vl (vint) m, .func fid caps] (.bool (eqF p l m)) := by
  intro S
  by_cases hlm : l.length = m.length
  · have hlm' : (l.length : Int) = (m.length : Int) := by omega
    have h := h hlm
    refine vcalls_start (c := bodyOf Try.f82) Try.func82 rfl rfl (by simp [Try.ntmps82]) ?_
    rw [Try.ntmps82]
    intro hwf
    repeat (first|refine QG ?_|refine QX (r:=by conv=>lhs;simp[-List.map_set,QV,hlm,hlm']) (k:=?_))
    repeat refine QS ?_
    refine vw_loopAt [1, 2, 15, 16, 17] rfl (fun c σ S' => ∃ (k : Nat), k ≤ l.length ∧ c = l.length - k ∧ eqF p (l.drop k) (m.drop k) = eqF p l m ∧ σ = [(1, vl (vint) m), (2, .func fid caps), (15, vl (vint) l), (16, vnat m.length), (17, vnat k)] ∧ S' = St S [] []) l.length ?_ ?_
    · exact ⟨0, by omega, rfl, rfl, by simp [Fr.only, hlm], rfl⟩
    · rintro c σ T ⟨k, hk, rfl, hd, rfl, rfl⟩
      by_cases hkt : k < l.length
      · have hkm : k < m.length := by omega
        have hw := wrapNat hkt hl
        have hst : eqF p (l.drop k) (m.drop k) = (p l[k] m[k] && eqF p (l.drop (k + 1)) (m.drop (k + 1))) := by rw [List.drop_eq_getElem_cons hkt, List.drop_eq_getElem_cons hkm, eqF]
        have hh := h k hkt hkm
        obtain ⟨x, hx⟩ : ∃ x, l[k] = x := ⟨_, rfl⟩
        obtain ⟨y, hy⟩ : ∃ y, m[k] = y := ⟨_, rfl⟩
        rw [hx, hy] at hst hh
        repeat (first|refine QG ?_|refine QX (r:=by conv=>lhs;simp[-List.map_set,QV,hkt,hkm,hx,hy]) (k:=?_))
        repeat refine QS ?_
        refine QR (r:=by conv=>lhs;simp[-List.map_set,QV,hkt,hkm,hx,hy]) (k:=?_)
        refine vcallv_use rfl hc rfl hh ?_
        refine QM (by conv=>lhs;simp[-List.map_set,QV]) ?_
        refine QN ?_
        cases hp : p x y with
        | false =>
          rw [hp] at hst
          repeat (first|refine QG ?_|refine QX (r:=by conv=>lhs;simp[-List.map_set,QV,hp]) (k:=?_))
          exact done_pure hwf (by rw [← hd, hst]; rfl) rfl
        | true =>
          rw [hp] at hst
          repeat (first|refine QG ?_|refine QX (r:=by conv=>lhs;simp[-List.map_set,QV,hp]) (k:=?_))
          show Again _ _ _ _ _ _ _
          exact again ⟨Nat.sub_lt_sub_left hkt (Nat.lt_succ_self k), k + 1, hkt, rfl, by rw [← hd, hst]; rfl, by simp [Fr.only, hw], rfl⟩
      · have e : l.drop k = [] := by rw [List.drop_eq_nil_iff]; omega
        have e' : m.drop k = [] := by rw [List.drop_eq_nil_iff]; omega
        rw [e, e'] at hd
        have hkm : ¬ k < m.length := by omega
        repeat (first|refine QG ?_|refine QX (r:=by conv=>lhs;simp[-List.map_set,QV,hkt,hkm]) (k:=?_))
        exact done_pure hwf (by rw [← hd]; rfl) rfl
  · have hlm' : ¬ (l.length : Int) = (m.length : Int) := by omega
    have e : eqF p l m = false := eqF_len hlm
    rw [e]
    refine vcalls_start (c := bodyOf Try.f82) Try.func82 rfl rfl (by simp [Try.ntmps82]) ?_
    rw [Try.ntmps82]
    intro hwf
    repeat (first|refine QG ?_|refine QX (r:=by conv=>lhs;simp[-List.map_set,QV,hlm,hlm']) (k:=?_))
    exact done_pure hwf rfl rfl

end Go.Vw

namespace Ss
/-- Where a value is made. -/
structure Def where
  made : Bool
  block : Int
  pos : Int
deriving DecidableEq, Inhabited
/-- Is a value there at a place, of a type? -/
def askOk (ts : List Int) (ds : List Def) (near : List Int) (block pos v t : Int) : Bool :=
  decide (0 ≤ v) && decide (v < ds.length) && decide (ts.getD v.toNat 0 = t) && (ds.getD v.toNat default).made &&
    (if (ds.getD v.toNat default).block = block then decide ((ds.getD v.toNat default).pos < pos) else Go.Vw.G.dominates near (ds.getD v.toNat default).block block)
def asks (ts : List Int) (ds : List Def) (near : List Int) (block pos : Int) (l types : List Int) : Bool := Go.Vw.eqF (askOk ts ds near block pos) l types
def typesOf (ts : List Int) (l : List Int) : List Int := l.map fun v => ts.getD v.toNat 0
/-- Numbers of values. -/
def InTs (n : Nat) (l : List Int) : Prop := ∀ v ∈ l, 0 ≤ v ∧ v < n
end Ss
namespace Go.Vw
open Go.Proofs Go.RowKit
set_option maxRecDepth 10000
set_option maxHeartbeats 2000000

def encDef (d : Ss.Def) : V := .agg [.bool d.made, vint d.block, vint d.pos]
theorem encDef_eq (d : Ss.Def) : encDef d = .agg [.bool d.made, vint d.block, vint d.pos] := nr rfl
theorem encDef_nc (d : Ss.Def) : (encDef d).ncells = 3 := nr rfl
theorem encDef_cells (d : Ss.Def) : (encDef d).cells = [.bool d.made, vint d.block, vint d.pos] := nr rfl
theorem encDef_closed (d : Ss.Def) : (encDef d).closed = true := rfl
attribute [simp] encDef_eq encDef_nc
/-- The checker's cells. -/
def ckC (e : Ss.Env) (f : Ss.Fn) (ds near : V) : List V := [vl encSig e.sigs, vint e.imports, vl vint e.globals, vl V.bool e.muts, .bool e.mem, vl vint f.sig.inn, vl vint f.sig.out, vl vint f.types, vl encBlock f.blocks, ds, near]
theorem ckC_eq (e : Ss.Env) (f : Ss.Fn) (ds near : V) : ckC e f ds near = [vl encSig e.sigs, vint e.imports, vl vint e.globals, vl V.bool e.muts, .bool e.mem, vl vint f.sig.inn, vl vint f.sig.out, vl vint f.types, vl encBlock f.blocks, ds, near] := nr rfl
attribute [simp] ckC_eq
abbrev ckV (e : Ss.Env) (f : Ss.Fn) (ds : List Ss.Def) (near : List Int) : V := .ref (.agg (ckC e f (vl encDef ds) (vl vint near)))

theorem boxSt {B : Store} {u : Upds} {l : List (Option (Nat × List V))} {k s : Nat} {x : V} (hk : k < l.length) (hc : (l[k]?).join = some (s, [x])) (h1 : x.closed1 = true) : Ghost (.ptr (lid B.nx k) 0) (St B u l) (.ref x) (St B u (l.set k none)) := by
  rw [← St_del hk]
  exact Ghost.box (by rw [St_get]; exact hc) h1

theorem types_v (e : Ss.Env) (f : Ss.Fn) (ds : List Ss.Def) (near : List Int) (l : List Int) (hl : l.length ≤ 1048576) (hv : Ss.InTs f.types.length l) : VPure Try.prog 61 [ckV e f ds near, vl vint l] (vl vint (Ss.typesOf f.types l)) := by
  intro S
  obtain ⟨⟨fi, fo⟩, ts, bs⟩ := f
  simp only at hv
  generalize hg : (fun v : Int => ts.getD v.toNat 0) = g
  have hX : Ss.typesOf ts l = l.map g := by rw [Ss.typesOf, hg]
  simp only
  rw [hX]
  refine vcalls_start (c := bodyOf Try.f61) Try.func61 rfl rfl (by simp [Try.ntmps61]) ?_
  rw [Try.ntmps61]
  intro hwf
  repeat refine QS ?_
  refine QR (r:=by conv=>lhs;simp[-List.map_set,QV]) (k:=?_)
  refine QN ?_
  repeat refine QS ?_
  refine QR (r:=by conv=>lhs;simp[-List.map_set,QV]) (k:=?_)
  refine QN ?_
  refine vw_void 5 1 rfl (by conv => lhs; simp [Fr.set]) ?_
  repeat (first|refine QG ?_|refine QX (r:=by conv=>lhs;simp[-List.map_set,QV]) (k:=?_))
  repeat refine QS ?_
  refine vw_loopAt [0, 5, 8, 9, 10] rfl (fun c σ S' => ∃ (k : Nat) (out : List Int), k ≤ l.length ∧ c = l.length - k ∧ out = (l.take k).map g ∧ out.length = k ∧ σ = [(0, ckV e ⟨⟨fi, fo⟩, ts, bs⟩ ds near), (5, .slice (lid S.nx 0) 0 k), (8, vl vint l), (9, vnat l.length), (10, vnat k)] ∧ S' = St S [] [some (1, out.map vint)]) l.length ?_ ?_
  · exact ⟨0, [], by omega, rfl, by simp, rfl, by simp [Fr.only], by simp⟩
  · rintro c σ T ⟨k, out, hk, rfl, ho, hlen, rfl, rfl⟩
    by_cases hkt : k < l.length
    · have hw := wrapNat hkt (by omega)
      obtain ⟨h0, h1⟩ := hv _ (List.getElem_mem hkt)
      obtain ⟨v, hx⟩ : ∃ v, l[k] = v := ⟨_, rfl⟩
      rw [hx] at h0 h1
      obtain ⟨n, rfl⟩ : ∃ n : Nat, v = n := ⟨v.toNat, by omega⟩
      have hn : n < ts.length := by omega
      have hgn : g (n : Int) = ts[n] := by rw [← hg]; simp [hn]
      have htk : l.take (k + 1) = l.take k ++ [(n : Int)] := by rw [List.take_add_one, List.getElem?_eq_getElem hkt, hx]; rfl
      have hb : (k + 1) * 8 ≤ 140737488355328 := by omega
      have hb' : k + 1 ≤ 140737488355328 := by omega
      repeat (first|refine QG ?_|refine QX (r:=by conv=>lhs;simp[-List.map_set,QV,hkt,hx,hn,hlen,hb,hb']) (k:=?_))
      refine QA [2] (h:=⟨?_, k + 1, out ++ [ts[n]], hkt, rfl, by rw [htk, List.map_append, ho]; simp [hgn], by simp [hlen], by simp [hw], by simp⟩)
      omega
    · have hke : k = l.length := by omega
      subst hke
      rw [List.take_length] at ho
      repeat (first|refine QG ?_|refine QX (r:=by conv=>lhs;simp[-List.map_set,QV,hkt]) (k:=?_))
      rw [← ho]
      exact done_via hwf ((frz1 (by simp) (by rfl) (all_closed1 vint (fun _ => rfl) _) (by simpa using hlen)).toB _) rfl

theorem asks1_v (e : Ss.Env) (f : Ss.Fn) (ds : List Ss.Def) (near : List Int) (block pos v t : Int) (hds : ds.length = f.types.length) (htl : f.types.length < 2^63) (hnl : near.length < 2^63) :
    VPure Try.prog 83 ([vint v, vint t] ++ [.ref (ckV e f ds near), .ref (vint block), .ref (vint pos)]) (.bool (Ss.askOk f.types ds near block pos v t)) := by
  intro S
  obtain ⟨⟨fi, fo⟩, ts, bs⟩ := f
  simp only at hds htl ⊢
  by_cases h0 : v < 0
  · have e : Ss.askOk ts ds near block pos v t = false := by simp [Ss.askOk]; omega
    rw [e]
    refine vcalls_start (c := bodyOf Try.f83) Try.func83 rfl rfl (by simp [Try.ntmps83]) ?_
    rw [Try.ntmps83]
    intro hwf
    repeat (first|refine QG ?_|refine QX (r:=by conv=>lhs;simp[-List.map_set,QV,h0]) (k:=?_))
    exact done_pure hwf (by simp) rfl
  obtain ⟨n, rfl⟩ : ∃ n : Nat, v = n := ⟨v.toNat, by omega⟩
  by_cases h1 : n < ds.length
  case neg =>
    have h1' : ¬ (n : Int) < (ds.length : Int) := by omega
    have h1'' : (ds.length : Int) ≤ (n : Int) := by omega
    have e : Ss.askOk ts ds near block pos n t = false := by simp [Ss.askOk]; omega
    rw [e]
    refine vcalls_start (c := bodyOf Try.f83) Try.func83 rfl rfl (by simp [Try.ntmps83]) ?_
    rw [Try.ntmps83]
    intro hwf
    repeat (first|refine QG ?_|refine QX (r:=by conv=>lhs;simp[-List.map_set,QV,h0,h1,h1',h1'']) (k:=?_))
    exact done_pure hwf (by simp) rfl
  have hnt : n < ts.length := by omega
  have h1'' : ¬ (ds.length : Int) ≤ (n : Int) := by omega
  obtain ⟨tt, htt⟩ : ∃ x, ts[n] = x := ⟨_, rfl⟩
  obtain ⟨⟨dm, db, dp⟩, hd⟩ : ∃ x, ds[n] = x := ⟨_, rfl⟩
  have hX : Ss.askOk ts ds near block pos n t = (decide (tt = t) && (dm && (if db = block then decide (dp < pos) else G.dominates near db block))) := by
    simp [Ss.askOk, h1, hnt, htt, hd, Bool.and_assoc]
  rw [hX]
  by_cases h2 : tt = t
  case neg =>
    refine vcalls_start (c := bodyOf Try.f83) Try.func83 rfl rfl (by simp [Try.ntmps83]) ?_
    rw [Try.ntmps83]
    intro hwf
    repeat (first|refine QG ?_|refine QX (r:=by conv=>lhs;simp[-List.map_set,QV,h0,h1,h1'',hnt,htt,h2]) (k:=?_))
    exact done_pure hwf (by simp [h2]) rfl
  cases dm with
  | false =>
    refine vcalls_start (c := bodyOf Try.f83) Try.func83 rfl rfl (by simp [Try.ntmps83]) ?_
    rw [Try.ntmps83]
    intro hwf
    repeat (first|refine QG ?_|refine QX (r:=by conv=>lhs;simp[-List.map_set,QV,h0,h1,h1'',hnt,htt,h2,hd]) (k:=?_))
    exact done_pure hwf (by simp) rfl
  | true =>
    by_cases h3 : db = block
    · refine vcalls_start (c := bodyOf Try.f83) Try.func83 rfl rfl (by simp [Try.ntmps83]) ?_
      rw [Try.ntmps83]
      intro hwf
      repeat (first|refine QG ?_|refine QX (r:=by conv=>lhs;simp[-List.map_set,QV,h0,h1,h1'',hnt,htt,h2,hd,h3]) (k:=?_))
      exact done_pure hwf (by simp [h2, h3]) rfl
    · have cd := Dominates_v near db block hnl
      generalize G.dominates near db block = y at *
      refine vcalls_start (c := bodyOf Try.f83) Try.func83 rfl rfl (by simp [Try.ntmps83]) ?_
      rw [Try.ntmps83]
      intro hwf
      repeat (first|refine QG ?_|refine QX (r:=by conv=>lhs;simp[-List.map_set,QV,h0,h1,h1'',hnt,htt,h2,hd,h3]) (k:=?_))
      repeat refine QS ?_
      refine QD (r:=by conv=>lhs;simp[-List.map_set,QV,h0,h1,h1'',hnt,htt,h2,hd,h3]) (k:=?_)
      refine vcall_useH (cd) (by rfl) ?_
      refine QM (by conv=>lhs;simp[-List.map_set,QV]) ?_
      refine QN ?_
      repeat (first|refine QG ?_|refine QX (r:=by conv=>lhs;simp[-List.map_set,QV]) (k:=?_))
      exact done_pure hwf (by simp [h2, h3]) rfl

theorem asks_v (e : Ss.Env) (f : Ss.Fn) (ds : List Ss.Def) (near : List Int) (block pos : Int) (l types : List Int) (hds : ds.length = f.types.length) (htl : f.types.length < 2^63) (hnl : near.length < 2^63) (hl : l.length < 2^63) :
    VPure Try.prog 63 [ckV e f ds near, vint block, vint pos, vl vint l, vl vint types] (.bool (Ss.asks f.types ds near block pos l types)) := by
  intro S
  refine vcalls_start (c := bodyOf Try.f63) Try.func63 rfl rfl (by simp [Try.ntmps63]) ?_
  rw [Try.ntmps63]
  intro hwf
  repeat refine QS ?_
  refine QR (r:=by conv=>lhs;simp[-List.map_set,QV]) (k:=?_)
  refine QN ?_
  refine vw_ghost' 5 rfl ((boxSt (by simp) rfl rfl)) (by conv => lhs; simp [Fr.set]) ?_
  simp only [List.set_cons_succ, List.set_cons_zero]
  refine vw_ghost' 6 rfl ((boxSt (by simp) rfl rfl)) (by conv => lhs; simp [Fr.set]) ?_
  simp only [List.set_cons_succ, List.set_cons_zero]
  refine vw_ghost' 7 rfl ((boxSt (by simp) rfl rfl)) (by conv => lhs; simp [Fr.set]) ?_
  simp only [List.set_cons_succ, List.set_cons_zero]
  repeat refine QS ?_
  refine QR (r:=by conv=>lhs;simp[-List.map_set,QV]) (k:=?_)
  refine vcall_useH (EqFI_v l types (Ss.askOk f.types ds near block pos) 83 [.ref (ckV e f ds near), .ref (vint block), .ref (vint pos)] rfl hl (fun _ k h1 h2 => asks1_v e f ds near block pos _ _ hds htl hnl)) (by rfl) ?_
  refine QM (by conv=>lhs;simp[-List.map_set,QV]) ?_
  refine QN ?_
  repeat (first|refine QG ?_|refine QX (r:=by conv=>lhs;simp[-List.map_set,QV]) (k:=?_))
  exact done_pure hwf rfl rfl
end Go.Vw
