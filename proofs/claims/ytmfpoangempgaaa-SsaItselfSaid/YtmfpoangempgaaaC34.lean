import Derived.Test.YtmfpoangempgaaaC33
import Derived.Test.YtmfpoangempgaaaC19
import Derived.Test.YtmfpoangempgaaaC30
/-
  Part of the proof (texts SAlive2, SLLess).
-/
set_option linter.unusedVariables false
set_option linter.unusedSimpArgs false
namespace Go.Vw
open Go.Proofs Go.RowKit
set_option maxRecDepth 10000
set_option maxHeartbeats 8000000

/-- The same, or a nil slice seen as an empty list. -/
def NL (x y : V) : Prop := x = y ∨ (x = .nils ∧ y = .list [])
theorem Rep.nl {m : Imm} {β : Objs} {x y : V} {v : Value} (h : Rep m β x v) (hn : NL x y) : Rep m β y v := by
  rcases hn with rfl | ⟨rfl, rfl⟩
  · exact h
  · cases h with
    | imm h => cases h with | nils a => exact .imm (.list0 a 0 (Nat.zero_le _))
theorem Ghost.agg_nl {S : Store} {xs ys : List V} (hl : xs.length = ys.length) (h : ∀ (i : Nat) (x y : V), xs[i]? = some x → ys[i]? = some y → NL x y) : Ghost (.agg xs) S (.agg ys) S := by
  intro m β w v hS hr
  obtain ⟨vs, rfl, hl2, hrr, h1⟩ := hr.inv_agg
  refine ⟨m, β, hS, Ext.refl _ _ _, .agg ys vs (by omega) (fun i y u hy hu => ?_) h1⟩
  have hi : i < xs.length := by rw [hl]; exact (List.getElem?_eq_some_iff.1 hy).1
  exact (hrr i xs[i] u (List.getElem?_eq_getElem hi) hu).nl (h i _ y (List.getElem?_eq_getElem hi) hy)
theorem env0_ghost (S : Store) : Ghost (.agg [.nils, .int .i64 0, .nils, .nils, .bool false]) S (encEnv Ss.env0) S := by
  refine Ghost.agg_nl rfl fun i x y hx hy => ?_
  match i, hx, hy with
  | 0, hx, hy => cases hx; cases hy; exact .inr ⟨rfl, rfl⟩
  | 1, hx, hy => cases hx; cases hy; exact .inl rfl
  | 2, hx, hy => cases hx; cases hy; exact .inr ⟨rfl, rfl⟩
  | 3, hx, hy => cases hx; cases hy; exact .inr ⟨rfl, rfl⟩
  | 4, hx, hy => cases hx; cases hy; exact .inl rfl

theorem Alive8_v : VPure Try.prog 10 [] (.bool true) := by
  intro S
  have c0 := small0_v
  have cu := Used_v Ss.smallF small0_fits
  rw [if_pos small0_small, small0_used] at cu
  have cc := Check_v Ss.env0 Ss.smallF env0_fits small0_fits
  have cn := Count_v Ss.smallF small0_fits
  rw [if_pos small0_small, show Ss.count Ss.smallF.blocks = 2 from rfl] at cn
  have cp := Pure_v 106 (by simp [Ss.I64])
  have cq := Pure_v 109 (by simp [Ss.I64])
  have cs := Succ_v Ss.smallF small0_fits
  rw [if_pos small0_small, small0_succs] at cs
  have ce := Same_v Ss.smallF Ss.smallF small0_fits small0_fits
  obtain ⟨x1, h1⟩ : ∃ x, Ss.check Ss.env0 Ss.smallF = x := ⟨_, rfl⟩
  have e1 : x1 = true := by rw [← h1]; exact small0_check
  rw [h1] at cc
  obtain ⟨x2, h2⟩ : ∃ x, Ss.pure 106 = x := ⟨_, rfl⟩
  have e2 : x2 = true := by rw [← h2]; decide
  rw [h2] at cp
  obtain ⟨x3, h3⟩ : ∃ x, Ss.pure 109 = x := ⟨_, rfl⟩
  have e3 : x3 = false := by rw [← h3]; decide
  rw [h3] at cq
  obtain ⟨x4, h4⟩ : ∃ x, sameFn Ss.smallF Ss.smallF = x := ⟨_, rfl⟩
  have e4 : x4 = true := by rw [← h4]; simp [sameFn, small0_small]
  rw [h4] at ce
  have hsf : ∃ F, encFn Ss.smallF = F := ⟨_, rfl⟩
  obtain ⟨F, hF⟩ := hsf
  rw [hF] at c0 cu cc cn cs ce
  refine vcalls_start (c := bodyOf Try.f10) Try.func10 rfl rfl (by simp [Try.ntmps10]) ?_
  rw [Try.ntmps10]
  intro hwf
  repeat refine QS ?_
  refine QR (r:=by conv=>lhs;simp[-List.map_set,QV]) (k:=?_)
  refine QN ?_
  repeat refine QS ?_
  refine QR (r:=by conv=>lhs;simp[-List.map_set,QV]) (k:=?_)
  refine vcall_useH (c0) (by rfl) ?_
  refine QM (by conv=>lhs;simp[-List.map_set,QV]) ?_
  refine vcall_useH (cu) (by rfl) ?_
  refine QM (by conv=>lhs;simp[-List.map_set,QV]) ?_
  refine QN ?_
  repeat refine QS ?_
  refine QR (r:=by conv=>lhs;simp[-List.map_set,QV]) (k:=?_)
  refine vcall_useH (c0) (by rfl) ?_
  refine QM (by conv=>lhs;simp[-List.map_set,QV]) ?_
  refine vcall_useG rfl (GhostArgs.one [] [_] (env0_ghost _)) cc ?_
  refine QM (by conv=>lhs;simp[-List.map_set,QV,e1]) ?_
  refine vcall_useH (c0) (by rfl) ?_
  refine QM (by conv=>lhs;simp[-List.map_set,QV]) ?_
  refine vcall_useH (cn) (by rfl) ?_
  refine QM (by conv=>lhs;simp[-List.map_set,QV]) ?_
  refine vcall_useH (cp) (by rfl) ?_
  refine QM (by conv=>lhs;simp[-List.map_set,QV,e2]) ?_
  refine vcall_useH (cq) (by rfl) ?_
  refine QM (by conv=>lhs;simp[-List.map_set,QV,e3]) ?_
  refine vcall_useH (c0) (by rfl) ?_
  refine QM (by conv=>lhs;simp[-List.map_set,QV]) ?_
  refine vcall_useH (cs) (by rfl) ?_
  refine QM (by conv=>lhs;simp[-List.map_set,QV]) ?_
  refine vcall_useH (c0) (by rfl) ?_
  refine QM (by conv=>lhs;simp[-List.map_set,QV]) ?_
  refine vcall_useH (c0) (by rfl) ?_
  refine QM (by conv=>lhs;simp[-List.map_set,QV]) ?_
  refine vcall_useH (ce) (by rfl) ?_
  refine QM (by conv=>lhs;simp[-List.map_set,QV,e4]) ?_
  refine QN ?_
  repeat (first|refine QG ?_|refine QX (r:=by conv=>lhs;simp[-List.map_set,QV]) (k:=?_))
  exact done_pure hwf (by simp) rfl
end Go.Vw

namespace Ss
/-- Is one of the Outs asked for? -/
def askedO (u : List Bool) (l : List Int) : Bool := l.any fun o => decide (0 ≤ o) && (decide (o < u.length) && u.getD o.toNat false)
end Ss
namespace Go.Vw
open Go.Proofs Go.RowKit
set_option maxRecDepth 10000
set_option maxHeartbeats 2000000

theorem anyL_one {α : Type} (p : α → Bool) {l : List α} {k : Nat} (h : k < l.length) : (l.drop k).any p = (p l[k] || (l.drop (k + 1)).any p) := by
  rw [List.drop_eq_getElem_cons h, List.any_cons]
theorem anyL_end {α : Type} (p : α → Bool) {l : List α} {k : Nat} (h : ¬ k < l.length) : (l.drop k).any p = false := by
  have : l.drop k = [] := by rw [List.drop_eq_nil_iff]; omega
  rw [this]; rfl
theorem Less_v (e : Ss.Env) (f : Ss.Fn) (which : Int) (he : e.Fits) (hf : f.Fits) (hless : Ss.check e f = true → f.small = true → ∀ (i k : Nat) (b : Ss.Block) (x : Ss.Ins), f.blocks[i]? = some b → b.code[k]? = some x → Ss.askedO (Ss.rusedOf f) x.outs = true → Ss.check e (Ss.cut f i k) = false)
    (hcf : ∀ i k, (Ss.cut f i k).Fits) : VPure Try.prog 5 [encEnv e, encFn f, vint which] (.bool true) := by
  intro S
  have cck := Check_v e f he hf
  have csm := RSmall_v f hf
  have cus := RUsed_v f hf
  have ccp := fun S => RCopy_v S f hf
  have cc2 := fun i k => Check_v e (Ss.cut f i k) he (hcf i k)
  have hsm2 := Ss.small_iff f
  generalize Ss.rusedOf f = us at *
  generalize hck : Ss.check e f = ck at *
  generalize hsm : f.small = sm at *
  obtain ⟨sg, im, gl, mu, me⟩ := e
  obtain ⟨⟨fi, fo⟩, ts, bs⟩ := f
  simp only at *
  have cck' : VPure Try.prog 11 [.agg [vl encSig sg, .int .i64 im, vl vint gl, vl V.bool mu, .bool me], .agg [vl vint fi, vl vint fo, vl vint ts, vl encBlock bs]] (.bool ck) := cck
  have csm' : VPure Try.prog 9 [.agg [vl vint fi, vl vint fo, vl vint ts, vl encBlock bs]] (.bool sm) := csm
  refine vcalls_start (c := bodyOf Try.f5) Try.func5 rfl rfl (by simp [Try.ntmps5]) ?_
  rw [Try.ntmps5]
  intro hwf
  repeat refine QS ?_
  refine QR (r:=by conv=>lhs;simp[-List.map_set,QV]) (k:=?_)
  refine QN ?_
  refine vw_ghost' 3 rfl ((refSt (k := 0) (by simp) (by rfl) (by rfl) (by simp))) (by conv => lhs; simp [Fr.set]) ?_
  refine vw_ghost' 4 rfl ((refSt (k := 1) (by simp) (by rfl) (by rfl) (by simp))) (by conv => lhs; simp [Fr.set]) ?_
  simp only [List.set_cons_succ, List.set_cons_zero]
  refine vw_only' [2, 3, 4, 6] (by conv => lhs; simp [Fr.only, Fr.look]) ?_
  refine vw_gc [] hwf (by decide) (by simp [-List.map_set]) (by conv => lhs; simp [-List.map_set]) (by conv => lhs; simp [-List.map_set]) (by conv => lhs; simp [-List.map_set]) ?_
  repeat refine QS ?_
  refine QR (r:=by conv=>lhs;simp[-List.map_set,QV]) (k:=?_)
  refine vcall_useH (cck') (by rfl) ?_
  by_cases h1 : ck = true
  case neg =>
    have h1' : ck = false := by simpa using h1
    refine QM (by conv=>lhs;simp[-List.map_set,QV,h1']) ?_
    refine QN ?_
    repeat (first|refine QG ?_|refine QX (r:=by conv=>lhs;simp[-List.map_set,QV]) (k:=?_))
    repeat refine QS ?_
    refine QR (r:=by conv=>lhs;simp[-List.map_set,QV]) (k:=?_)
    refine vcall_useH (Alive8_v) (by rfl) ?_
    refine QM (by conv=>lhs;simp[-List.map_set,QV]) ?_
    refine QN ?_
    repeat (first|refine QG ?_|refine QX (r:=by conv=>lhs;simp[-List.map_set,QV]) (k:=?_))
    exact done_pure hwf rfl rfl
  refine QM (by conv=>lhs;simp[-List.map_set,QV,h1]) ?_
  refine vcall_useH (csm') (by rfl) ?_
  by_cases h2 : sm = true
  case neg =>
    have h2' : sm = false := by simpa using h2
    refine QM (by conv=>lhs;simp[-List.map_set,QV,h2']) ?_
    refine QN ?_
    repeat (first|refine QG ?_|refine QX (r:=by conv=>lhs;simp[-List.map_set,QV]) (k:=?_))
    repeat refine QS ?_
    refine QR (r:=by conv=>lhs;simp[-List.map_set,QV]) (k:=?_)
    refine vcall_useH (Alive8_v) (by rfl) ?_
    refine QM (by conv=>lhs;simp[-List.map_set,QV]) ?_
    refine QN ?_
    repeat (first|refine QG ?_|refine QX (r:=by conv=>lhs;simp[-List.map_set,QV]) (k:=?_))
    exact done_pure hwf rfl rfl
  have hless' := hless h1 h2
  have cus' : VPure Try.prog 14 [.agg [vl vint fi, vl vint fo, vl vint ts, vl encBlock bs]] (vl V.bool us) := cus h2
  have ccp' : ∀ S, VCalls Try.prog 13 [.agg [vl vint fi, vl vint fo, vl vint ts, vl encBlock bs]] S (Copied S ⟨⟨fi, fo⟩, ts, bs⟩) := fun S => ccp S h2
  obtain ⟨hh, hbk, hcnt⟩ := hsm2.1 h2
  simp only [Ss.Fn.heads, Bool.and_eq_true, decide_eq_true_eq] at hh
  refine QM (by conv=>lhs;simp[-List.map_set,QV,h2]) ?_
  refine QN ?_
  repeat (first|refine QG ?_|refine QX (r:=by conv=>lhs;simp[-List.map_set,QV]) (k:=?_))
  repeat refine QS ?_
  refine QR (r:=by conv=>lhs;simp[-List.map_set,QV]) (k:=?_)
  refine vcall_useH (cus') (by rfl) ?_
  refine QM (by conv=>lhs;simp[-List.map_set,QV]) ?_
  refine QN ?_
  repeat (first|refine QG ?_|refine QX (r:=by conv=>lhs;simp[-List.map_set,QV]) (k:=?_))
  repeat refine QS ?_
  refine vw_loopAt [2, 3, 4, 7, 8, 30, 31, 32] rfl (fun c σ S' => ∃ (k : Nat) (n : Int), k ≤ bs.length ∧ c = bs.length - k ∧ σ = [(2, vint which), (3, .ref (.agg [vl encSig sg, .int .i64 im, vl vint gl, vl V.bool mu, .bool me])), (4, .ref (.agg [vl vint fi, vl vint fo, vl vint ts, vl encBlock bs])), (7, vl V.bool us), (8, .int .i64 n), (30, vl encBlock bs), (31, vnat bs.length), (32, vnat k)] ∧ S' = St S [] []) bs.length ?_ ?_
  · exact ⟨0, 0, by omega, rfl, by simp [Fr.only], rfl⟩
  · rintro c σ T ⟨k, n, hk, rfl, rfl, rfl⟩
    by_cases hkt : k < bs.length
    case neg =>
      repeat (first|refine QG ?_|refine QX (r:=by conv=>lhs;simp[-List.map_set,QV,hkt]) (k:=?_))
      repeat refine QS ?_
      refine QR (r:=by conv=>lhs;simp[-List.map_set,QV]) (k:=?_)
      refine vcall_useH (Alive8_v) (by rfl) ?_
      refine QM (by conv=>lhs;simp[-List.map_set,QV]) ?_
      refine QN ?_
      repeat (first|refine QG ?_|refine QX (r:=by conv=>lhs;simp[-List.map_set,QV]) (k:=?_))
      exact done_pure hwf rfl rfl
    have hw := wrapNat hkt (by omega)
    have hbk' := hbk _ (List.getElem_mem hkt)
    have hcb := count_mem (List.getElem_mem hkt)
    have hbo : bs[k]? = some bs[k] := List.getElem?_eq_getElem hkt
    obtain ⟨⟨ps, code, ⟨tk, ta, tt, az⟩⟩, hx⟩ : ∃ b, bs[k] = b := ⟨_, rfl⟩
    rw [hx] at hbk' hcb hbo
    simp only [Ss.Block.small, Bool.and_eq_true, List.all_eq_true, Ss.Ins.small, Ss.Edge.small, decide_eq_true_eq] at hbk'
    obtain ⟨⟨⟨⟨hps, htt⟩, haz⟩, hcode⟩, hto2⟩ := hbk'
    simp only at hcb
    have hcl : code.length ≤ 4096 := by omega
    repeat (first|refine QG ?_|refine QX (r:=by conv=>lhs;simp[-List.map_set,QV,hkt,hx]) (k:=?_))
    refine vw_ghost' 10 rfl ((refSt (k := 0) (by simp) (by rfl) (by rfl) (by simp))) (by conv => lhs; simp [Fr.set]) ?_
    simp only [List.set_cons_succ, List.set_cons_zero]
    refine vw_only' [2, 3, 4, 7, 8, 9, 30, 31, 32, 38, 39, 40] (by conv => lhs; simp [Fr.only, Fr.look]) ?_
    refine vw_gc [] hwf (by decide) (by simp [-List.map_set]) (by conv => lhs; simp [-List.map_set]) (by conv => lhs; simp [-List.map_set]) (by conv => lhs; simp [-List.map_set]) ?_
    repeat refine QS ?_
    refine vw_loopAt [2, 3, 4, 7, 8, 9, 30, 31, 32, 38, 39, 40] rfl (fun c σ S' => ∃ (j : Nat) (n : Int), j ≤ code.length ∧ c = code.length - j ∧ σ = [(2, vint which), (3, .ref (.agg [vl encSig sg, .int .i64 im, vl vint gl, vl V.bool mu, .bool me])), (4, .ref (.agg [vl vint fi, vl vint fo, vl vint ts, vl encBlock bs])), (7, vl V.bool us), (8, .int .i64 n), (9, vnat k), (30, vl encBlock bs), (31, vnat bs.length), (32, vnat k), (38, vl encIns code), (39, vnat code.length), (40, vnat j)] ∧ S' = St S [] []) code.length ?_ ?_
    · exact ⟨0, n, by omega, rfl, by simp [Fr.only], rfl⟩
    · rintro c σ T ⟨j, n, hj, rfl, rfl, rfl⟩
      by_cases hjt : j < code.length
      case neg =>
        repeat (first|refine QG ?_|refine QX (r:=by conv=>lhs;simp[-List.map_set,QV,hjt,hw]) (k:=?_))
        refine QA [] (h:=⟨?_, k + 1, n, hkt, rfl, by simp, by simp⟩)
        omega
      have hwj := wrapNat hjt (by omega)
      have hcj := (hcode _ (List.getElem_mem hjt)).2
      have hlj := hless' k j _ _ hbo (List.getElem?_eq_getElem hjt)
      obtain ⟨⟨xo, xn, xa, xu⟩, hx2⟩ : ∃ x, code[j] = x := ⟨_, rfl⟩
      rw [hx2] at hcj hlj
      simp only at hcj hlj
      have hxu : xu.length < 2^63 := by omega
      generalize hP : (fun o : Int => decide (0 ≤ o) && (decide (o < us.length) && us.getD o.toNat false)) = P at *
      have hAO : Ss.askedO us xu = xu.any P := by rw [← hP]; rfl
      repeat (first|refine QG ?_|refine QX (r:=by conv=>lhs;simp[-List.map_set,QV,hjt,hx2]) (k:=?_))
      refine vw_ghost' 12 rfl ((refSt (k := 0) (by simp) (by rfl) (by rfl) (by simp))) (by conv => lhs; simp [Fr.set]) ?_
      simp only [List.set_cons_succ, List.set_cons_zero]
      refine vw_only' [2, 3, 4, 7, 8, 9, 11, 13, 30, 31, 32, 38, 39, 40, 46, 47, 48] (by conv => lhs; simp [Fr.only, Fr.look]) ?_
      refine vw_gc [] hwf (by decide) (by simp [-List.map_set]) (by conv => lhs; simp [-List.map_set]) (by conv => lhs; simp [-List.map_set]) (by conv => lhs; simp [-List.map_set]) ?_
      repeat refine QS ?_
      refine vw_loopAt [2, 3, 4, 7, 8, 9, 11, 13, 30, 31, 32, 38, 39, 40, 46, 47, 48] rfl (fun c σ S' => ∃ (q : Nat) (a : Bool), q ≤ xu.length ∧ c = xu.length - q ∧ (a || (xu.drop q).any P) = xu.any P ∧ σ = [(2, vint which), (3, .ref (.agg [vl encSig sg, .int .i64 im, vl vint gl, vl V.bool mu, .bool me])), (4, .ref (.agg [vl vint fi, vl vint fo, vl vint ts, vl encBlock bs])), (7, vl V.bool us), (8, .int .i64 n), (9, vnat k), (11, vnat j), (13, .bool a), (30, vl encBlock bs), (31, vnat bs.length), (32, vnat k), (38, vl encIns code), (39, vnat code.length), (40, vnat j), (46, vl vint xu), (47, vnat xu.length), (48, vnat q)] ∧ S' = St S [] []) xu.length ?_ ?_
      · exact ⟨0, false, by omega, rfl, by simp, by simp [Fr.only], rfl⟩
      · rintro c σ T ⟨q, a, hq, rfl, ha, rfl, rfl⟩
        by_cases hqt : q < xu.length
        · have hwq := wrapNat hqt hxu
          rw [anyL_one P hqt] at ha
          obtain ⟨v, hv⟩ : ∃ v, xu[q] = v := ⟨_, rfl⟩
          rw [hv] at ha
          by_cases h3 : a = true
          · subst h3
            repeat (first|refine QG ?_|refine QX (r:=by conv=>lhs;simp[-List.map_set,QV,hqt,hv,hwq]) (k:=?_))
            refine QA [] (h:=⟨?_, q + 1, true, hqt, rfl, by simpa using ha, by simp, by simp⟩)
            omega
          have h3' : a = false := by simpa using h3
          subst h3'
          rw [Bool.false_or] at ha
          by_cases h4 : 0 ≤ v
          case neg =>
            have hPv : P v = false := by rw [← hP]; simp [h4]
            rw [hPv, Bool.false_or] at ha
            repeat (first|refine QG ?_|refine QX (r:=by conv=>lhs;simp[-List.map_set,QV,hqt,hv,h4,hwq]) (k:=?_))
            refine QA [] (h:=⟨?_, q + 1, false, hqt, rfl, by simpa using ha, by simp, by simp⟩)
            omega
          obtain ⟨m, rfl⟩ : ∃ m : Nat, v = m := ⟨v.toNat, by omega⟩
          by_cases h5 : m < us.length
          case neg =>
            have h5' : ¬ (m : Int) < (us.length : Int) := by omega
            have hPv : P m = false := by rw [← hP]; simp [h5]
            rw [hPv, Bool.false_or] at ha
            repeat (first|refine QG ?_|refine QX (r:=by conv=>lhs;simp[-List.map_set,QV,hqt,hv,h5,h5',hwq]) (k:=?_))
            refine QA [] (h:=⟨?_, q + 1, false, hqt, rfl, by simpa using ha, by simp, by simp⟩)
            omega
          have h5' : (m : Int) < (us.length : Int) := by omega
          have hPv : P m = us[m] := by rw [← hP]; simp [h5]
          rw [hPv] at ha
          repeat (first|refine QG ?_|refine QX (r:=by conv=>lhs;simp[-List.map_set,QV,hqt,hv,h5,h5',hwq]) (k:=?_))
          refine QA [] (h:=⟨?_, q + 1, us[m], hqt, rfl, ha, by simp, by simp⟩)
          omega
        rw [anyL_end P hqt, Bool.or_false] at ha
        by_cases h3 : a = true
        case neg =>
          have h3' : a = false := by simpa using h3
          subst h3'
          repeat (first|refine QG ?_|refine QX (r:=by conv=>lhs;simp[-List.map_set,QV,hqt,hwj]) (k:=?_))
          refine QA [] (h:=⟨?_, j + 1, n, hjt, rfl, by simp, by simp⟩)
          omega
        subst h3
        have hlf := hlj (by rw [hAO, ← ha])
        by_cases hn : n = (IntKind.i64.wrap (which.tmod 8 + 8)).tmod 8
        case neg =>
          repeat (first|refine QG ?_|refine QX (r:=by conv=>lhs;simp[-List.map_set,QV,hqt,hn,hwj]) (k:=?_))
          refine QA [] (h:=⟨?_, j + 1, IntKind.i64.wrap (n + 1), hjt, rfl, by simp, by simp⟩)
          omega
        repeat (first|refine QG ?_|refine QX (r:=by conv=>lhs;simp[-List.map_set,QV,hqt,hn]) (k:=?_))
        repeat refine QS ?_
        refine QR (r:=by conv=>lhs;simp[-List.map_set,QV]) (k:=?_)
        refine vcall_any rfl (ccp' _) ?_
        rintro X T ⟨hag0, hwT, ob, cells, ids, rfl, hob, how, hnd, hids⟩
        rw [St_nil hwf] at hag0 hids
        obtain ⟨c1, c2, oc, i1, i2, hcells, hc1, rfl, hoc, hw1, hw2⟩ := blk_split how rfl hkt hbo
        simp only at hcells hob how hnd hids hoc
        have hobx : ob < T.nx := (hids ob (by simp)).2
        have hocx : oc < T.nx := (hids oc (by simp)).2
        have hne : ¬ ob = oc := by
          have := (List.nodup_cons.1 hnd).1
          intro e; subst e; exact this (by simp)
        have hne' : ¬ oc = ob := fun e => hne e.symm
        have hTT : St T [(oc, some (4, flatC encIns code)), (ob, some (6, cells))] [] = T := by
          refine Store.ext' (funext fun o => ?_) (by rw [St_nx, lid]; rfl)
          rw [St_at]
          by_cases ho : o < T.nx
          · rw [if_pos ho]
            simp only [uGet]
            by_cases e1 : o = oc
            · rw [if_pos e1, e1, hoc]
            · rw [if_neg e1]
              by_cases e2 : o = ob
              · rw [if_pos e2, e2, hob]
              · rw [if_neg e2]
          · rw [if_neg ho, hwT.gone o (by omega)]; rfl
        have hcell : cells[k * 6 + 1]? = some (.slice oc 0 code.length) := by
          rw [hcells, ← hc1, List.getElem?_append_right (by omega)]
          simp
        have hcl6 : k * 6 + 6 ≤ cells.length := by
          rw [hcells]; simp; omega
        generalize hV : vsegG Try.prog none = V1
        rw [← hTT]
        subst hV
        have oc1 := fun u l => @St_old T u l _ hocx
        have ob1 := fun u l => @St_old T u l _ hobx
        have oc2 := fun u l c => @St_updOld T u l c _ hocx
        have ob2 := fun u l c => @St_updOld T u l c _ hobx
        have oc3 := fun u l => @St_delOld T u l _ hocx
        refine QM (by conv=>lhs;simp[-List.map_set,QV]) ?_
        refine QN ?_
        refine vw_base (b' := T.nx) hag0.1 ?_
        have hj1 : (j : Int) + 1 ≤ (code.length : Int) := by omega
        have hj2 : (0 : Int) ≤ (j : Int) + 1 := by omega
        have hjn : ((j : Int) + 1).toNat = j + 1 := by omega
        have hjle : j ≤ code.length := by omega
        have hcs : k * 6 + 1 < cells.length := by omega
        generalize hnc : code.take j ++ code.drop (j + 1) = nc
        have hac : ∀ l, opAppend 4 64 (St T [(oc, some (4, flatC encIns code)), (ob, some (6, cells))] l) (.slice oc 0 j) (.slice oc ((j + 1) * 4) (code.length - (j + 1))) = some (.slice (lid T.nx l.length) 0 nc.length, St T [(oc, none), (ob, some (6, cells))] (l ++ [some (4, flatC encIns nc)])) := by
          intro l
          rw [opAppend_cut (by rw [oc1]; simp [uGet]) hjt hcl, oc3, St_add, hnc, St_nx]
          have : nc.length = j + (code.length - (j + 1)) := by rw [← hnc]; simp; omega
          rw [this]
          simp [uSet]
        repeat refine QS ?_
        refine vw_drawW (St T [(oc, none), (ob, none)] [some (4, [vl vint fi, vl vint fo, vl vint ts, .slice ob 0 bs.length])]) (St T [(oc, none), (ob, some (6, []))] [some (4, [])]) [88, 91, 97, 100] rfl (by kernel_rfl) (by conv => lhs; reduce) (by conv => lhs; reduce) (by kernel_rfl) (by kernel_rfl) (ok_St (by simp [subU, shpU, subL, shpL])) (by conv => lhs; simp [-List.map_set,QV, oc1, ob1, hne, hne', hcell, hkt, hj1, hj2, hjn, hjle, opSlice_own3, opSlice_from, hwj]) ?_
        refine vseg_write rfl (by conv => lhs; simp [-List.map_set,QV, hac]) (ok_St (by simp [subU, shpU, subL, shpL])) ?_
        refine QM (by conv=>lhs;simp[-List.map_set,QV,oc1,ob1,hne,hne',hkt]) ?_
        refine vseg_write rfl (by conv => lhs; simp [-List.map_set,QV, oc1, ob1, oc2, ob2, hne, hne', hcs, uSet]) (ok_St (by simp [subU, shpU, subL, shpL])) ?_
        refine QM (by conv=>lhs;simp[-List.map_set,QV]) ?_
        refine QN ?_
        have hcutB : Ss.cutB ⟨ps, code, ⟨tk, ta, tt, az⟩⟩ j = ⟨ps, nc, ⟨tk, ta, tt, az⟩⟩ := by rw [← hnc]; rfl
        have hcut : Ss.cut ⟨⟨fi, fo⟩, ts, bs⟩ k j = ⟨⟨fi, fo⟩, ts, bs.set k ⟨ps, nc, ⟨tk, ta, tt, az⟩⟩⟩ := by
          rw [← hcutB]; simp [Ss.cut, hkt, hx]
        have cc3 := cc2 k j
        rw [hcut] at cc3 hlf
        rw [hlf] at cc3
        obtain ⟨z, hz⟩ : ∃ z, z = false := ⟨_, rfl⟩
        rw [← hz] at cc3
        have cc4 : VPure Try.prog 11 [.agg [vl encSig sg, .int .i64 im, vl vint gl, vl V.bool mu, .bool me], .agg [vl vint fi, vl vint fo, vl vint ts, vl encBlock (bs.set k ⟨ps, nc, ⟨tk, ta, tt, az⟩⟩)]] (.bool z) := cc3
        repeat refine QS ?_
        refine QR (r:=by conv=>lhs;simp[-List.map_set,QV]) (k:=?_)
        generalize hS1 : St T [(oc, none), (ob, some (6, cells.set (k * 6 + 1) (.slice (lid T.nx 1) 0 nc.length)))] [some (4, [vl vint fi, vl vint fo, vl vint ts, .slice ob 0 bs.length]), some (4, flatC encIns nc)] = S1
        have hsame : ∀ o, o < T.nx → o ≠ ob → o ≠ oc → S1.get o = T.get o := by
          intro o ho h1 h2
          rw [← hS1, St_old ho]
          simp [uGet, h1, h2]
        have hobS : S1.get ob = some (6, c1 ++ ([vl vint ps, .slice (lid T.nx 1) 0 nc.length, vint tk, vint ta, vl encEdge tt, vl vint az] ++ c2)) := by
          rw [← hS1, ob1]
          have : cells.set (k * 6 + 1) (.slice (lid T.nx 1) 0 nc.length) = c1 ++ ([vl vint ps, .slice (lid T.nx 1) 0 nc.length, vint tk, vint ta, vl encEdge tt, vl vint az] ++ c2) := by
            rw [hcells, List.set_append_right _ _ (by omega), hc1, Nat.add_sub_cancel_left]
            rfl
          rw [this]
          simp [uGet, hne]
        have hocS : S1.get (lid T.nx 1) = some (4, flatC encIns nc) := by rw [← hS1, St_get]; rfl
        have hd2 := List.nodup_cons.1 hnd
        have hd3 := List.nodup_append.1 hd2.2
        have hd4 := List.nodup_cons.1 hd3.2.1
        have hi1 : ∀ o ∈ i1, o < T.nx ∧ o ≠ ob ∧ o ≠ oc := fun o ho => ⟨(hids o (by simp [ho])).2, fun e => hd2.1 (by rw [← e]; simp [ho]), fun e => hd3.2.2 o ho oc (by simp) e⟩
        have hi2 : ∀ o ∈ i2, o < T.nx ∧ o ≠ ob ∧ o ≠ oc := fun o ho => ⟨(hids o (by simp [ho])).2, fun e => hd2.1 (by rw [← e]; simp [ho]), fun e => hd4.1 (by rw [← e]; exact ho)⟩
        have hown : OwL S1 (reps bs.length blkT) (c1 ++ ([vl vint ps, .slice (lid T.nx 1) 0 nc.length, vint tk, vint ta, vl encEdge tt, vl vint az] ++ c2)) (flatC encBlock (bs.set k ⟨ps, nc, ⟨tk, ta, tt, az⟩⟩)) (i1 ++ lid T.nx 1 :: i2) :=
          blk_join (b := ⟨ps, nc, ⟨tk, ta, tt, az⟩⟩) (hw1.mono fun o ho => hsame o (hi1 o ho).1 (hi1 o ho).2.1 (hi1 o ho).2.2) (hw2.mono fun o ho => hsame o (hi2 o ho).1 (hi2 o ho).2.1 (hi2 o ho).2.2) rfl hkt hocS
        have hndS : (ob :: (i1 ++ lid T.nx 1 :: i2)).Nodup := by
          have hnew : ∀ o, o < T.nx → o ≠ lid T.nx 1 := fun o ho e => by rw [e, lid] at ho; omega
          refine List.nodup_cons.2 ⟨?_, List.nodup_append.2 ⟨hd3.1, List.nodup_cons.2 ⟨?_, hd4.2⟩, ?_⟩⟩
          · simp only [List.mem_append, List.mem_cons, not_or]
            exact ⟨fun h => hd2.1 (by simp [h]), hnew ob hobx, fun h => hd2.1 (by simp [h])⟩
          · exact fun h => hnew _ (hi2 _ h).1 rfl
          · intro a ha b hb
            rcases List.mem_cons.1 hb with rfl | hb
            · exact hnew a (hi1 a ha).1
            · exact hd3.2.2 a ha b (by simp [hb])
        have hg := fn_ghost (fi := fi) (fo := fo) (ts := ts) hown hobS (by simp) hndS
        have hfin : Agree S (S1.dels (ob :: (i1 ++ lid T.nx 1 :: i2))) := by
          have hle := hag0.1
          refine ⟨?_, fun o ho => ?_⟩
          · rw [dels_nx, ← hS1, St_nx, lid]; omega
          · have h3 : ∀ o' ∈ ob :: (i1 ++ oc :: i2), o ≠ o' := fun o' ho' e => by
              have := (hids o' ho').1; omega
            rw [dels_at, if_neg, hsame o (by omega) (h3 ob (by simp)) (h3 oc (by simp))]
            · exact hag0.2 o ho
            · simp only [List.mem_cons, List.mem_append, not_or]
              exact ⟨h3 ob (by simp), fun h => h3 o (by simp [h]) rfl, fun e => by rw [e, lid] at ho; omega, fun h => h3 o (by simp [h]) rfl⟩
        refine vcall_useG (xs' := [.agg [vl encSig sg, .int .i64 im, vl vint gl, vl V.bool mu, .bool me], .agg [vl vint fi, vl vint fo, vl vint ts, vl encBlock (bs.set k ⟨ps, nc, ⟨tk, ta, tt, az⟩⟩)]]) rfl (GhostArgs.one [_] [] hg) cc4 ?_
        refine QM (by conv=>lhs;simp[-List.map_set,QV,hz]) ?_
        refine vcall_useH (Alive8_v) (by rfl) ?_
        refine QM (by conv=>lhs;simp[-List.map_set,QV]) ?_
        refine QN ?_
        repeat (first|refine QG ?_|refine QX (r:=by conv=>lhs;simp[-List.map_set,QV]) (k:=?_))
        exact done_agree hwf hfin (by simp) rfl
end Go.Vw
