import Derived.Test.YtmfpoangempgaaaC27
import Derived.Test.YtmfpoangempgaaaC28
import Derived.Test.YtmfpoangempgaaaC29
import Derived.Test.YtmfpoangempgaaaC25
/-
  Part of the proof (texts SLLess, SLessP).
-/
set_option linter.unusedVariables false
set_option linter.unusedSimpArgs false
namespace Ss
/-- Is one of the Outs asked for? -/
def askedO (u : List Bool) (l : List Int) : Bool := l.any fun o => decide (0 ≤ o) && (decide (o < u.length) && u.getD o.toNat false)
end Ss
namespace Go.Vw
open Go.Proofs Go.RowKit
set_option maxRecDepth 10000
set_option maxHeartbeats 2000000

theorem anyL_one {α : Type} (p : α → Bool) {l : List α} {k : Nat} (h : k < l.length) : (l.drop k).any p = (p l[k] || (l.drop (k + 1)).any p) := by
  rw [List.drop_eq_getElem_cons h, List.any_cons]
theorem anyL_end {α : Type} (p : α → Bool) {l : List α} {k : Nat} (h : ¬ k < l.length) : (l.drop k).any p = false := by
  have : l.drop k = [] := by rw [List.drop_eq_nil_iff]; omega
  rw [this]; rfl
theorem Less_v (e : Ss.Env) (f : Ss.Fn) (which : Int) (he : e.Fits) (hf : f.Fits) (hless : Ss.check e f = true → f.small = true → ∀ (i k : Nat) (b : Ss.Block) (x : Ss.Ins), f.blocks[i]? = some b → b.code[k]? = some x → Ss.askedO (Ss.rusedOf f) x.outs = true → Ss.check e (Ss.cut f i k) = false)
    (hcf : ∀ i k, (Ss.cut f i k).Fits) : VPure Try.prog 5 [encEnv e, encFn f, vint which] (.bool true) := by
  intro S
  have cck := Check_v e f he hf
  have csm := RSmall_v f hf
  have cus := RUsed_v f hf
  have ccp := fun S => RCopy_v S f hf
  have cc2 := fun i k => Check_v e (Ss.cut f i k) he (hcf i k)
  have hsm2 := Ss.small_iff f
  generalize Ss.rusedOf f = us at *
  generalize hck : Ss.check e f = ck at *
  generalize hsm : f.small = sm at *
  obtain ⟨sg, im, gl, mu, me⟩ := e
  obtain ⟨⟨fi, fo⟩, ts, bs⟩ := f
  simp only at *
  have cck' : VPure Try.prog 11 [.agg [vl encSig sg, .int .i64 im, vl vint gl, vl V.bool mu, .bool me], .agg [vl vint fi, vl vint fo, vl vint ts, vl encBlock bs]] (.bool ck) := cck
  have csm' : VPure Try.prog 9 [.agg [vl vint fi, vl vint fo, vl vint ts, vl encBlock bs]] (.bool sm) := csm
  refine vcalls_start (c := bodyOf Try.f5) Try.func5 rfl rfl (by simp [Try.ntmps5]) ?_
  rw [Try.ntmps5]
  intro hwf
  repeat refine QS ?_
  refine QR (r:=by conv=>lhs;simp[-List.map_set,QV]) (k:=?_)
  refine QN ?_
  refine vw_ghost' 3 rfl ((refSt (k := 0) (by simp) (by rfl) (by rfl) (by simp))) (by conv => lhs; simp [Fr.set]) ?_
  refine vw_ghost' 4 rfl ((refSt (k := 1) (by simp) (by rfl) (by rfl) (by simp))) (by conv => lhs; simp [Fr.set]) ?_
  simp only [List.set_cons_succ, List.set_cons_zero]
  refine vw_only' [2, 3, 4, 6] (by conv => lhs; simp [Fr.only, Fr.look]) ?_
  refine vw_gc [] hwf (by decide) (by simp [-List.map_set]) (by conv => lhs; simp [-List.map_set]) (by conv => lhs; simp [-List.map_set]) (by conv => lhs; simp [-List.map_set]) ?_
  repeat refine QS ?_
  refine QR (r:=by conv=>lhs;simp[-List.map_set,QV]) (k:=?_)
  refine vcall_useH (cck') (by rfl) ?_
  by_cases h1 : ck = true
  case neg =>
    have h1' : ck = false := by simpa using h1
    refine QM (by conv=>lhs;simp[-List.map_set,QV,h1']) ?_
    refine QN ?_
    repeat (first|refine QG ?_|refine QX (r:=by conv=>lhs;simp[-List.map_set,QV]) (k:=?_))
    repeat refine QS ?_
    refine QR (r:=by conv=>lhs;simp[-List.map_set,QV]) (k:=?_)
    refine vcall_useH (Alive8_v) (by rfl) ?_
    refine QM (by conv=>lhs;simp[-List.map_set,QV]) ?_
    refine QN ?_
    repeat (first|refine QG ?_|refine QX (r:=by conv=>lhs;simp[-List.map_set,QV]) (k:=?_))
    exact done_pure hwf rfl rfl
  refine QM (by conv=>lhs;simp[-List.map_set,QV,h1]) ?_
  refine vcall_useH (csm') (by rfl) ?_
  by_cases h2 : sm = true
  case neg =>
    have h2' : sm = false := by simpa using h2
    refine QM (by conv=>lhs;simp[-List.map_set,QV,h2']) ?_
    refine QN ?_
    repeat (first|refine QG ?_|refine QX (r:=by conv=>lhs;simp[-List.map_set,QV]) (k:=?_))
    repeat refine QS ?_
    refine QR (r:=by conv=>lhs;simp[-List.map_set,QV]) (k:=?_)
    refine vcall_useH (Alive8_v) (by rfl) ?_
    refine QM (by conv=>lhs;simp[-List.map_set,QV]) ?_
    refine QN ?_
    repeat (first|refine QG ?_|refine QX (r:=by conv=>lhs;simp[-List.map_set,QV]) (k:=?_))
    exact done_pure hwf rfl rfl
  have hless' := hless h1 h2
  have cus' : VPure Try.prog 14 [.agg [vl vint fi, vl vint fo, vl vint ts, vl encBlock bs]] (vl V.bool us) := cus h2
  have ccp' : ∀ S, VCalls Try.prog 13 [.agg [vl vint fi, vl vint fo, vl vint ts, vl encBlock bs]] S (Copied S ⟨⟨fi, fo⟩, ts, bs⟩) := fun S => ccp S h2
  obtain ⟨hh, hbk, hcnt⟩ := hsm2.1 h2
  simp only [Ss.Fn.heads, Bool.and_eq_true, decide_eq_true_eq] at hh
  refine QM (by conv=>lhs;simp[-List.map_set,QV,h2]) ?_
  refine QN ?_
  repeat (first|refine QG ?_|refine QX (r:=by conv=>lhs;simp[-List.map_set,QV]) (k:=?_))
  repeat refine QS ?_
  refine QR (r:=by conv=>lhs;simp[-List.map_set,QV]) (k:=?_)
  refine vcall_useH (cus') (by rfl) ?_
  refine QM (by conv=>lhs;simp[-List.map_set,QV]) ?_
  refine QN ?_
  repeat (first|refine QG ?_|refine QX (r:=by conv=>lhs;simp[-List.map_set,QV]) (k:=?_))
  repeat refine QS ?_
  refine vw_loopAt [2, 3, 4, 7, 8, 30, 31, 32] rfl (fun c σ S' => ∃ (k : Nat) (n : Int), k ≤ bs.length ∧ c = bs.length - k ∧ σ = [(2, vint which), (3, .ref (.agg [vl encSig sg, .int .i64 im, vl vint gl, vl V.bool mu, .bool me])), (4, .ref (.agg [vl vint fi, vl vint fo, vl vint ts, vl encBlock bs])), (7, vl V.bool us), (8, .int .i64 n), (30, vl encBlock bs), (31, vnat bs.length), (32, vnat k)] ∧ S' = St S [] []) bs.length ?_ ?_
  · exact ⟨0, 0, by omega, rfl, by simp [Fr.only], rfl⟩
  · rintro c σ T ⟨k, n, hk, rfl, rfl, rfl⟩
    by_cases hkt : k < bs.length
    case neg =>
      repeat (first|refine QG ?_|refine QX (r:=by conv=>lhs;simp[-List.map_set,QV,hkt]) (k:=?_))
      repeat refine QS ?_
      refine QR (r:=by conv=>lhs;simp[-List.map_set,QV]) (k:=?_)
      refine vcall_useH (Alive8_v) (by rfl) ?_
      refine QM (by conv=>lhs;simp[-List.map_set,QV]) ?_
      refine QN ?_
      repeat (first|refine QG ?_|refine QX (r:=by conv=>lhs;simp[-List.map_set,QV]) (k:=?_))
      exact done_pure hwf rfl rfl
    have hw := wrapNat hkt (by omega)
    have hbk' := hbk _ (List.getElem_mem hkt)
    have hcb := count_mem (List.getElem_mem hkt)
    have hbo : bs[k]? = some bs[k] := List.getElem?_eq_getElem hkt
    obtain ⟨⟨ps, code, ⟨tk, ta, tt, az⟩⟩, hx⟩ : ∃ b, bs[k] = b := ⟨_, rfl⟩
    rw [hx] at hbk' hcb hbo
    simp only [Ss.Block.small, Bool.and_eq_true, List.all_eq_true, Ss.Ins.small, Ss.Edge.small, decide_eq_true_eq] at hbk'
    obtain ⟨⟨⟨⟨hps, htt⟩, haz⟩, hcode⟩, hto2⟩ := hbk'
    simp only at hcb
    have hcl : code.length ≤ 4096 := by omega
    repeat (first|refine QG ?_|refine QX (r:=by conv=>lhs;simp[-List.map_set,QV,hkt,hx]) (k:=?_))
    refine vw_ghost' 10 rfl ((refSt (k := 0) (by simp) (by rfl) (by rfl) (by simp))) (by conv => lhs; simp [Fr.set]) ?_
    simp only [List.set_cons_succ, List.set_cons_zero]
    refine vw_only' [2, 3, 4, 7, 8, 9, 30, 31, 32, 38, 39, 40] (by conv => lhs; simp [Fr.only, Fr.look]) ?_
    refine vw_gc [] hwf (by decide) (by simp [-List.map_set]) (by conv => lhs; simp [-List.map_set]) (by conv => lhs; simp [-List.map_set]) (by conv => lhs; simp [-List.map_set]) ?_
    repeat refine QS ?_
    refine vw_loopAt [2, 3, 4, 7, 8, 9, 30, 31, 32, 38, 39, 40] rfl (fun c σ S' => ∃ (j : Nat) (n : Int), j ≤ code.length ∧ c = code.length - j ∧ σ = [(2, vint which), (3, .ref (.agg [vl encSig sg, .int .i64 im, vl vint gl, vl V.bool mu, .bool me])), (4, .ref (.agg [vl vint fi, vl vint fo, vl vint ts, vl encBlock bs])), (7, vl V.bool us), (8, .int .i64 n), (9, vnat k), (30, vl encBlock bs), (31, vnat bs.length), (32, vnat k), (38, vl encIns code), (39, vnat code.length), (40, vnat j)] ∧ S' = St S [] []) code.length ?_ ?_
    · exact ⟨0, n, by omega, rfl, by simp [Fr.only], rfl⟩
    · rintro c σ T ⟨j, n, hj, rfl, rfl, rfl⟩
      by_cases hjt : j < code.length
      case neg =>
        repeat (first|refine QG ?_|refine QX (r:=by conv=>lhs;simp[-List.map_set,QV,hjt,hw]) (k:=?_))
        refine QA [] (h:=⟨?_, k + 1, n, hkt, rfl, by simp, by simp⟩)
        omega
      have hwj := wrapNat hjt (by omega)
      have hcj := (hcode _ (List.getElem_mem hjt)).2
      have hlj := hless' k j _ _ hbo (List.getElem?_eq_getElem hjt)
      obtain ⟨⟨xo, xn, xa, xu⟩, hx2⟩ : ∃ x, code[j] = x := ⟨_, rfl⟩
      rw [hx2] at hcj hlj
      simp only at hcj hlj
      have hxu : xu.length < 2^63 := by omega
      generalize hP : (fun o : Int => decide (0 ≤ o) && (decide (o < us.length) && us.getD o.toNat false)) = P at *
      have hAO : Ss.askedO us xu = xu.any P := by rw [← hP]; rfl
      repeat (first|refine QG ?_|refine QX (r:=by conv=>lhs;simp[-List.map_set,QV,hjt,hx2]) (k:=?_))
      refine vw_ghost' 12 rfl ((refSt (k := 0) (by simp) (by rfl) (by rfl) (by simp))) (by conv => lhs; simp [Fr.set]) ?_
      simp only [List.set_cons_succ, List.set_cons_zero]
      refine vw_only' [2, 3, 4, 7, 8, 9, 11, 13, 30, 31, 32, 38, 39, 40, 46, 47, 48] (by conv => lhs; simp [Fr.only, Fr.look]) ?_
      refine vw_gc [] hwf (by decide) (by simp [-List.map_set]) (by conv => lhs; simp [-List.map_set]) (by conv => lhs; simp [-List.map_set]) (by conv => lhs; simp [-List.map_set]) ?_
      repeat refine QS ?_
      refine vw_loopAt [2, 3, 4, 7, 8, 9, 11, 13, 30, 31, 32, 38, 39, 40, 46, 47, 48] rfl (fun c σ S' => ∃ (q : Nat) (a : Bool), q ≤ xu.length ∧ c = xu.length - q ∧ (a || (xu.drop q).any P) = xu.any P ∧ σ = [(2, vint which), (3, .ref (.agg [vl encSig sg, .int .i64 im, vl vint gl, vl V.bool mu, .bool me])), (4, .ref (.agg [vl vint fi, vl vint fo, vl vint ts, vl encBlock bs])), (7, vl V.bool us), (8, .int .i64 n), (9, vnat k), (11, vnat j), (13, .bool a), (30, vl encBlock bs), (31, vnat bs.length), (32, vnat k), (38, vl encIns code), (39, vnat code.length), (40, vnat j), (46, vl vint xu), (47, vnat xu.length), (48, vnat q)] ∧ S' = St S [] []) xu.length ?_ ?_
      · exact ⟨0, false, by omega, rfl, by simp, by simp [Fr.only], rfl⟩
      · rintro c σ T ⟨q, a, hq, rfl, ha, rfl, rfl⟩
        by_cases hqt : q < xu.length
        · have hwq := wrapNat hqt hxu
          rw [anyL_one P hqt] at ha
          obtain ⟨v, hv⟩ : ∃ v, xu[q] = v := ⟨_, rfl⟩
          rw [hv] at ha
          by_cases h3 : a = true
          · subst h3
            repeat (first|refine QG ?_|refine QX (r:=by conv=>lhs;simp[-List.map_set,QV,hqt,hv,hwq]) (k:=?_))
            refine QA [] (h:=⟨?_, q + 1, true, hqt, rfl, by simpa using ha, by simp, by simp⟩)
            omega
          have h3' : a = false := by simpa using h3
          subst h3'
          rw [Bool.false_or] at ha
          by_cases h4 : 0 ≤ v
          case neg =>
            have hPv : P v = false := by rw [← hP]; simp [h4]
            rw [hPv, Bool.false_or] at ha
            repeat (first|refine QG ?_|refine QX (r:=by conv=>lhs;simp[-List.map_set,QV,hqt,hv,h4,hwq]) (k:=?_))
            refine QA [] (h:=⟨?_, q + 1, false, hqt, rfl, by simpa using ha, by simp, by simp⟩)
            omega
          obtain ⟨m, rfl⟩ : ∃ m : Nat, v = m := ⟨v.toNat, by omega⟩
          by_cases h5 : m < us.length
          case neg =>
            have h5' : ¬ (m : Int) < (us.length : Int) := by omega
            have hPv : P m = false := by rw [← hP]; simp [h5]
            rw [hPv, Bool.false_or] at ha
            repeat (first|refine QG ?_|refine QX (r:=by conv=>lhs;simp[-List.map_set,QV,hqt,hv,h5,h5',hwq]) (k:=?_))
            refine QA [] (h:=⟨?_, q + 1, false, hqt, rfl, by simpa using ha, by simp, by simp⟩)
            omega
          have h5' : (m : Int) < (us.length : Int) := by omega
          have hPv : P m = us[m] := by rw [← hP]; simp [h5]
          rw [hPv] at ha
          repeat (first|refine QG ?_|refine QX (r:=by conv=>lhs;simp[-List.map_set,QV,hqt,hv,h5,h5',hwq]) (k:=?_))
          refine QA [] (h:=⟨?_, q + 1, us[m], hqt, rfl, ha, by simp, by simp⟩)
          omega
        rw [anyL_end P hqt, Bool.or_false] at ha
        by_cases h3 : a = true
        case neg =>
          have h3' : a = false := by simpa using h3
          subst h3'
          repeat (first|refine QG ?_|refine QX (r:=by conv=>lhs;simp[-List.map_set,QV,hqt,hwj]) (k:=?_))
          refine QA [] (h:=⟨?_, j + 1, n, hjt, rfl, by simp, by simp⟩)
          omega
        subst h3
        have hlf := hlj (by rw [hAO, ← ha])
        by_cases hn : n = (IntKind.i64.wrap (which.tmod 8 + 8)).tmod 8
        case neg =>
          repeat (first|refine QG ?_|refine QX (r:=by conv=>lhs;simp[-List.map_set,QV,hqt,hn,hwj]) (k:=?_))
          refine QA [] (h:=⟨?_, j + 1, IntKind.i64.wrap (n + 1), hjt, rfl, by simp, by simp⟩)
          omega
        repeat (first|refine QG ?_|refine QX (r:=by conv=>lhs;simp[-List.map_set,QV,hqt,hn]) (k:=?_))
        repeat refine QS ?_
        refine QR (r:=by conv=>lhs;simp[-List.map_set,QV]) (k:=?_)
        refine vcall_any rfl (ccp' _) ?_
        rintro X T ⟨hag0, hwT, ob, cells, ids, rfl, hob, how, hnd, hids⟩
        rw [St_nil hwf] at hag0 hids
        obtain ⟨c1, c2, oc, i1, i2, hcells, hc1, rfl, hoc, hw1, hw2⟩ := blk_split how rfl hkt hbo
        simp only at hcells hob how hnd hids hoc
        have hobx : ob < T.nx := (hids ob (by simp)).2
        have hocx : oc < T.nx := (hids oc (by simp)).2
        have hne : ¬ ob = oc := by
          have := (List.nodup_cons.1 hnd).1
          intro e; subst e; exact this (by simp)
        have hne' : ¬ oc = ob := fun e => hne e.symm
        have hTT : St T [(oc, some (4, flatC encIns code)), (ob, some (6, cells))] [] = T := by
          refine Store.ext' (funext fun o => ?_) (by rw [St_nx, lid]; rfl)
          rw [St_at]
          by_cases ho : o < T.nx
          · rw [if_pos ho]
            simp only [uGet]
            by_cases e1 : o = oc
            · rw [if_pos e1, e1, hoc]
            · rw [if_neg e1]
              by_cases e2 : o = ob
              · rw [if_pos e2, e2, hob]
              · rw [if_neg e2]
          · rw [if_neg ho, hwT.gone o (by omega)]; rfl
        have hcell : cells[k * 6 + 1]? = some (.slice oc 0 code.length) := by
          rw [hcells, ← hc1, List.getElem?_append_right (by omega)]
          simp
        have hcl6 : k * 6 + 6 ≤ cells.length := by
          rw [hcells]; simp; omega
        generalize hV : vsegG Try.prog none = V1
        rw [← hTT]
        subst hV
        have oc1 := fun u l => @St_old T u l _ hocx
        have ob1 := fun u l => @St_old T u l _ hobx
        have oc2 := fun u l c => @St_updOld T u l c _ hocx
        have ob2 := fun u l c => @St_updOld T u l c _ hobx
        have oc3 := fun u l => @St_delOld T u l _ hocx
        refine QM (by conv=>lhs;simp[-List.map_set,QV]) ?_
        refine QN ?_
        refine vw_base (b' := T.nx) hag0.1 ?_
        have hj1 : (j : Int) + 1 ≤ (code.length : Int) := by omega
        have hj2 : (0 : Int) ≤ (j : Int) + 1 := by omega
        have hjn : ((j : Int) + 1).toNat = j + 1 := by omega
        have hjle : j ≤ code.length := by omega
        have hcs : k * 6 + 1 < cells.length := by omega
        generalize hnc : code.take j ++ code.drop (j + 1) = nc
        have hac : ∀ l, opAppend 4 64 (St T [(oc, some (4, flatC encIns code)), (ob, some (6, cells))] l) (.slice oc 0 j) (.slice oc ((j + 1) * 4) (code.length - (j + 1))) = some (.slice (lid T.nx l.length) 0 nc.length, St T [(oc, none), (ob, some (6, cells))] (l ++ [some (4, flatC encIns nc)])) := by
          intro l
          rw [opAppend_cut (by rw [oc1]; simp [uGet]) hjt hcl, oc3, St_add, hnc, St_nx]
          have : nc.length = j + (code.length - (j + 1)) := by rw [← hnc]; simp; omega
          rw [this]
          simp [uSet]
        repeat refine QS ?_
        refine vw_drawW (St T [(oc, none), (ob, none)] [some (4, [vl vint fi, vl vint fo, vl vint ts, .slice ob 0 bs.length])]) (St T [(oc, none), (ob, some (6, []))] [some (4, [])]) [88, 91, 97, 100] rfl (by kernel_rfl) (by conv => lhs; reduce) (by conv => lhs; reduce) (by kernel_rfl) (by kernel_rfl) (ok_St (by simp [subU, shpU, subL, shpL])) (by conv => lhs; simp [-List.map_set,QV, oc1, ob1, hne, hne', hcell, hkt, hj1, hj2, hjn, hjle, opSlice_own3, opSlice_from, hwj]) ?_
        refine vseg_write rfl (by conv => lhs; simp [-List.map_set,QV, hac]) (ok_St (by simp [subU, shpU, subL, shpL])) ?_
        refine QM (by conv=>lhs;simp[-List.map_set,QV,oc1,ob1,hne,hne',hkt]) ?_
        refine vseg_write rfl (by conv => lhs; simp [-List.map_set,QV, oc1, ob1, oc2, ob2, hne, hne', hcs, uSet]) (ok_St (by simp [subU, shpU, subL, shpL])) ?_
        refine QM (by conv=>lhs;simp[-List.map_set,QV]) ?_
        refine QN ?_
        have hcutB : Ss.cutB ⟨ps, code, ⟨tk, ta, tt, az⟩⟩ j = ⟨ps, nc, ⟨tk, ta, tt, az⟩⟩ := by rw [← hnc]; rfl
        have hcut : Ss.cut ⟨⟨fi, fo⟩, ts, bs⟩ k j = ⟨⟨fi, fo⟩, ts, bs.set k ⟨ps, nc, ⟨tk, ta, tt, az⟩⟩⟩ := by
          rw [← hcutB]; simp [Ss.cut, hkt, hx]
        have cc3 := cc2 k j
        rw [hcut] at cc3 hlf
        rw [hlf] at cc3
        obtain ⟨z, hz⟩ : ∃ z, z = false := ⟨_, rfl⟩
        rw [← hz] at cc3
        have cc4 : VPure Try.prog 11 [.agg [vl encSig sg, .int .i64 im, vl vint gl, vl V.bool mu, .bool me], .agg [vl vint fi, vl vint fo, vl vint ts, vl encBlock (bs.set k ⟨ps, nc, ⟨tk, ta, tt, az⟩⟩)]] (.bool z) := cc3
        repeat refine QS ?_
        refine QR (r:=by conv=>lhs;simp[-List.map_set,QV]) (k:=?_)
        generalize hS1 : St T [(oc, none), (ob, some (6, cells.set (k * 6 + 1) (.slice (lid T.nx 1) 0 nc.length)))] [some (4, [vl vint fi, vl vint fo, vl vint ts, .slice ob 0 bs.length]), some (4, flatC encIns nc)] = S1
        have hsame : ∀ o, o < T.nx → o ≠ ob → o ≠ oc → S1.get o = T.get o := by
          intro o ho h1 h2
          rw [← hS1, St_old ho]
          simp [uGet, h1, h2]
        have hobS : S1.get ob = some (6, c1 ++ ([vl vint ps, .slice (lid T.nx 1) 0 nc.length, vint tk, vint ta, vl encEdge tt, vl vint az] ++ c2)) := by
          rw [← hS1, ob1]
          have : cells.set (k * 6 + 1) (.slice (lid T.nx 1) 0 nc.length) = c1 ++ ([vl vint ps, .slice (lid T.nx 1) 0 nc.length, vint tk, vint ta, vl encEdge tt, vl vint az] ++ c2) := by
            rw [hcells, List.set_append_right _ _ (by omega), hc1, Nat.add_sub_cancel_left]
            rfl
          rw [this]
          simp [uGet, hne]
        have hocS : S1.get (lid T.nx 1) = some (4, flatC encIns nc) := by rw [← hS1, St_get]; rfl
        have hd2 := List.nodup_cons.1 hnd
        have hd3 := List.nodup_append.1 hd2.2
        have hd4 := List.nodup_cons.1 hd3.2.1
        have hi1 : ∀ o ∈ i1, o < T.nx ∧ o ≠ ob ∧ o ≠ oc := fun o ho => ⟨(hids o (by simp [ho])).2, fun e => hd2.1 (by rw [← e]; simp [ho]), fun e => hd3.2.2 o ho oc (by simp) e⟩
        have hi2 : ∀ o ∈ i2, o < T.nx ∧ o ≠ ob ∧ o ≠ oc := fun o ho => ⟨(hids o (by simp [ho])).2, fun e => hd2.1 (by rw [← e]; simp [ho]), fun e => hd4.1 (by rw [← e]; exact ho)⟩
        have hown : OwL S1 (reps bs.length blkT) (c1 ++ ([vl vint ps, .slice (lid T.nx 1) 0 nc.length, vint tk, vint ta, vl encEdge tt, vl vint az] ++ c2)) (flatC encBlock (bs.set k ⟨ps, nc, ⟨tk, ta, tt, az⟩⟩)) (i1 ++ lid T.nx 1 :: i2) :=
          blk_join (b := ⟨ps, nc, ⟨tk, ta, tt, az⟩⟩) (hw1.mono fun o ho => hsame o (hi1 o ho).1 (hi1 o ho).2.1 (hi1 o ho).2.2) (hw2.mono fun o ho => hsame o (hi2 o ho).1 (hi2 o ho).2.1 (hi2 o ho).2.2) rfl hkt hocS
        have hndS : (ob :: (i1 ++ lid T.nx 1 :: i2)).Nodup := by
          have hnew : ∀ o, o < T.nx → o ≠ lid T.nx 1 := fun o ho e => by rw [e, lid] at ho; omega
          refine List.nodup_cons.2 ⟨?_, List.nodup_append.2 ⟨hd3.1, List.nodup_cons.2 ⟨?_, hd4.2⟩, ?_⟩⟩
          · simp only [List.mem_append, List.mem_cons, not_or]
            exact ⟨fun h => hd2.1 (by simp [h]), hnew ob hobx, fun h => hd2.1 (by simp [h])⟩
          · exact fun h => hnew _ (hi2 _ h).1 rfl
          · intro a ha b hb
            rcases List.mem_cons.1 hb with rfl | hb
            · exact hnew a (hi1 a ha).1
            · exact hd3.2.2 a ha b (by simp [hb])
        have hg := fn_ghost (fi := fi) (fo := fo) (ts := ts) hown hobS (by simp) hndS
        have hfin : Agree S (S1.dels (ob :: (i1 ++ lid T.nx 1 :: i2))) := by
          have hle := hag0.1
          refine ⟨?_, fun o ho => ?_⟩
          · rw [dels_nx, ← hS1, St_nx, lid]; omega
          · have h3 : ∀ o' ∈ ob :: (i1 ++ oc :: i2), o ≠ o' := fun o' ho' e => by
              have := (hids o' ho').1; omega
            rw [dels_at, if_neg, hsame o (by omega) (h3 ob (by simp)) (h3 oc (by simp))]
            · exact hag0.2 o ho
            · simp only [List.mem_cons, List.mem_append, not_or]
              exact ⟨h3 ob (by simp), fun h => h3 o (by simp [h]) rfl, fun e => by rw [e, lid] at ho; omega, fun h => h3 o (by simp [h]) rfl⟩
        refine vcall_useG (xs' := [.agg [vl encSig sg, .int .i64 im, vl vint gl, vl V.bool mu, .bool me], .agg [vl vint fi, vl vint fo, vl vint ts, vl encBlock (bs.set k ⟨ps, nc, ⟨tk, ta, tt, az⟩⟩)]]) rfl (GhostArgs.one [_] [] hg) cc4 ?_
        refine QM (by conv=>lhs;simp[-List.map_set,QV,hz]) ?_
        refine vcall_useH (Alive8_v) (by rfl) ?_
        refine QM (by conv=>lhs;simp[-List.map_set,QV]) ?_
        refine QN ?_
        repeat (first|refine QG ?_|refine QX (r:=by conv=>lhs;simp[-List.map_set,QV]) (k:=?_))
        exact done_agree hwf hfin (by simp) rfl
end Go.Vw

namespace Ss
/-! ### Where values are made -/
def outsC (l : List Ins) : List Int := l.flatMap fun x => x.outs
def allB (b : Block) : List Int := b.params ++ outsC b.code
def allL (bs : List Block) : List Int := bs.flatMap allB
abbrev dAt (ds : List Def) (v : Int) : Def := ds.getD v.toNat default

theorem dAt_set {ds : List Def} {v w : Int} {d : Def} (h0 : 0 ≤ v) (h1 : v < ds.length) (hw : 0 ≤ w) : dAt (ds.set v.toNat d) w = if w = v then d else dAt ds w := by
  by_cases h : w = v
  · subst h
    rw [if_pos rfl]
    simp only [dAt, List.getD_eq_getElem?_getD]
    rw [List.getElem?_set_self (by omega)]; rfl
  · rw [if_neg h]
    simp only [dAt, List.getD_eq_getElem?_getD]
    rw [List.getElem?_set_ne (by omega)]
/-- What a list puts: new values, each once; they are made there, the others as before. -/
structure Puts (l : List Int) (ds d : List Def) : Prop where
  nd : l.Nodup
  pos : ∀ v ∈ l, 0 ≤ v
  new : ∀ v ∈ l, (dAt ds v).made = false
  keep : ∀ w, 0 ≤ w → w ∉ l → dAt d w = dAt ds w
  made : ∀ v ∈ l, (dAt d v).made = true
theorem Puts.trans {l m : List Int} {ds d d' : List Def} (h : Puts l ds d) (k : Puts m d d') : Puts (l ++ m) ds d' := by
  have hdis : ∀ v ∈ l, v ∉ m := fun v hv hm => by
    have h1 := k.new v hm
    rw [h.made v hv] at h1; cases h1
  refine ⟨List.nodup_append.2 ⟨h.nd, k.nd, fun a ha b hb e => hdis a ha (e ▸ hb)⟩, fun v hv => ?_, fun v hv => ?_, fun w h0 hw => ?_, fun v hv => ?_⟩
  · rcases List.mem_append.1 hv with hv | hv
    · exact h.pos v hv
    · exact k.pos v hv
  · rcases List.mem_append.1 hv with hv | hv
    · exact h.new v hv
    · by_cases hl : v ∈ l
      · exact absurd hv (hdis v hl)
      · rw [← h.keep v (k.pos v hv) hl]; exact k.new v hv
  · simp only [List.mem_append, not_or] at hw
    rw [k.keep w h0 hw.2, h.keep w h0 hw.1]
  · rcases List.mem_append.1 hv with hv | hv
    · rw [k.keep v (h.pos v hv) (hdis v hv)]; exact h.made v hv
    · exact k.made v hv
theorem Puts.nil (ds : List Def) : Puts [] ds ds := ⟨List.nodup_nil, by simp, by simp, fun _ _ _ => rfl, by simp⟩
theorem put_puts {block pos : Int} : ∀ {l : List Int} {ds d : List Def}, put block pos ds l = some d → Puts l ds d ∧ ∀ v ∈ l, dAt d v = ⟨true, block, pos⟩
  | [], ds, d, h => by simp only [put, Option.some.injEq] at h; subst h; exact ⟨.nil _, by simp⟩
  | v :: l, ds, d, h => by
    simp only [put] at h
    split at h
    · cases h
    · rename_i hn
      have h0 : 0 ≤ v := by omega
      have h1 : v < ds.length := by omega
      have h2 : (dAt ds v).made = false := by
        cases hm : (dAt ds v).made with
        | false => rfl
        | true => exact absurd (.inr (.inr hm)) hn
      obtain ⟨k1, k2⟩ := put_puts h
      have hp : Puts [v] ds (ds.set v.toNat ⟨true, block, pos⟩) :=
        ⟨by simp, by simpa using h0, by simpa using h2, fun w hw hnw => by rw [dAt_set h0 h1 hw, if_neg (by simpa using hnw)], fun w hw => by
          obtain rfl : w = v := by simpa using hw
          rw [dAt_set h0 h1 h0, if_pos rfl]⟩
      refine ⟨hp.trans k1, fun w hw => ?_⟩
      by_cases hl : w ∈ l
      · exact k2 w hl
      · obtain rfl : w = v := by simpa [hl] using hw
        rw [k1.keep w h0 hl, dAt_set h0 h1 h0, if_pos rfl]
theorem putCode_puts {i : Int} : ∀ {l : List Ins} {k : Nat} {ds d : List Def}, putCode i k ds l = some d → Puts (outsC l) ds d ∧ ∀ (j : Nat) (x : Ins), l[j]? = some x → ∀ v ∈ x.outs, dAt d v = ⟨true, i, ((k + j : Nat) : Int)⟩
  | [], k, ds, d, h => by simp only [putCode, Option.some.injEq] at h; subst h; exact ⟨.nil _, by simp⟩
  | x :: l, k, ds, d, h => by
    simp only [putCode] at h
    obtain ⟨d1, h1, h2⟩ := Option.bind_eq_some_iff.1 h
    obtain ⟨p1, q1⟩ := put_puts h1
    obtain ⟨p2, q2⟩ := putCode_puts h2
    refine ⟨p1.trans p2, fun j y hj v hv => ?_⟩
    cases j with
    | zero =>
      simp only [List.getElem?_cons_zero, Option.some.injEq] at hj
      subst hj
      have hn : v ∉ outsC l := fun hm => by
        have := p2.new v hm
        rw [p1.made v hv] at this; cases this
      rw [p2.keep v (p1.pos v hv) hn, q1 v hv]; rfl
    | succ j =>
      have := q2 j y (by simpa using hj) v hv
      rw [this]; congr 2; omega
theorem putBlocks_puts : ∀ {l : List Block} {i : Nat} {ds d : List Def}, putBlocks i ds l = some d → Puts (allL l) ds d ∧ ∀ (j : Nat) (b : Block), l[j]? = some b → ∀ (k : Nat) (x : Ins), b.code[k]? = some x → ∀ v ∈ x.outs, dAt d v = ⟨true, ((i + j : Nat) : Int), (k : Int)⟩
  | [], i, ds, d, h => by simp only [putBlocks, Option.some.injEq] at h; subst h; exact ⟨.nil _, by simp⟩
  | b :: l, i, ds, d, h => by
    simp only [putBlocks] at h
    obtain ⟨d2, h1, h2⟩ := Option.bind_eq_some_iff.1 h
    obtain ⟨d1, h3, h4⟩ := Option.bind_eq_some_iff.1 h1
    obtain ⟨p1, _⟩ := put_puts h3
    obtain ⟨p2, q2⟩ := putCode_puts h4
    obtain ⟨p3, q3⟩ := putBlocks_puts h2
    refine ⟨(p1.trans p2).trans p3, fun j y hj k x hk v hv => ?_⟩
    cases j with
    | zero =>
      simp only [List.getElem?_cons_zero, Option.some.injEq] at hj
      subst hj
      have hm : v ∈ outsC b.code := List.mem_flatMap.2 ⟨x, List.mem_of_getElem? hk, hv⟩
      have hn : v ∉ allL l := fun hm' => by
        have := p3.new v hm'
        rw [p2.made v hm] at this; cases this
      rw [p3.keep v (p2.pos v hm) hn, q2 k x hk v hv]; simp
    | succ j =>
      have := q3 j y (by simpa using hj) k x hk v hv
      rw [this]; congr 2; omega
theorem dAt_rep (n : Nat) (v : Int) : (dAt (List.replicate n ⟨false, 0, 0⟩) v).made = false := by
  simp only [dAt, List.getD_eq_getElem?_getD, List.getElem?_replicate]
  split <;> rfl
/-- The values made are those that stand there, each once. -/
theorem defs_made {f : Fn} {ds : List Def} (h : defsOf f = some ds) : (allL f.blocks).Nodup ∧ (∀ v, 0 ≤ v → (dAt ds v).made = true → v ∈ allL f.blocks) ∧ ∀ (i : Nat) (b : Block), f.blocks[i]? = some b → ∀ (k : Nat) (x : Ins), b.code[k]? = some x → ∀ v ∈ x.outs, dAt ds v = ⟨true, (i : Int), (k : Int)⟩ := by
  obtain ⟨p, q⟩ := putBlocks_puts h
  refine ⟨p.nd, fun v h0 hm => ?_, fun i b hb k x hx v hv => by simpa using q i b hb k x hx v hv⟩
  refine Classical.byContradiction fun hn => ?_
  rw [p.keep v h0 hn, dAt_rep] at hm
  cases hm

/-! ### Who asks -/
theorem eqF_fst {α : Type} {p : α → α → Bool} : ∀ {l m : List α}, Go.Vw.eqF p l m = true → ∀ x ∈ l, ∃ y, p x y = true
  | [], _, _, x, hx => by cases hx
  | a :: l, [], h, x, hx => by simp [Go.Vw.eqF] at h
  | a :: l, b :: m, h, x, hx => by
    simp only [Go.Vw.eqF, Bool.and_eq_true] at h
    rcases List.mem_cons.1 hx with rfl | hx
    · exact ⟨b, h.1⟩
    · exact eqF_fst h.2 x hx
theorem asks_fst {ts : List Int} {ds : List Def} {near : List Int} {block pos : Int} {l types : List Int} (h : asks ts ds near block pos l types = true) {v : Int} (hv : v ∈ l) : 0 ≤ v ∧ (dAt ds v).made = true ∧ ((dAt ds v).block = block → (dAt ds v).pos < pos) := by
  obtain ⟨t, ht⟩ := eqF_fst h v hv
  simp only [askOk, Bool.and_eq_true, decide_eq_true_eq] at ht
  refine ⟨ht.1.1.1.1, ht.1.2, fun hb => ?_⟩
  have := ht.2
  rw [if_pos hb] at this
  simpa using this
theorem checkCode_at {e : Env} {f : Fn} {ds : List Def} {near : List Int} {i : Int} : ∀ {l : List Ins} {k j : Nat} {x : Ins}, checkCode e f ds near i k l = true → l[j]? = some x → insOk e f ds near i ((k + j : Nat) : Int) x = true
  | [], k, j, x, _, hx => by simp at hx
  | y :: l, k, j, x, h, hx => by
    simp only [checkCode, Bool.and_eq_true] at h
    cases j with
    | zero => simp only [List.getElem?_cons_zero, Option.some.injEq] at hx; subst hx; exact h.1
    | succ j =>
      have := checkCode_at h.2 (j := j) (x := x) (by simpa using hx)
      rw [show k + (j + 1) = k + 1 + j by omega]; exact this
theorem checkBlocks_at {e : Env} {f : Fn} {ds : List Def} {near : List Int} : ∀ {l : List Block} {i j : Nat} {b : Block}, checkBlocks e f ds near i l = true → l[j]? = some b → checkCode e f ds near ((i + j : Nat) : Int) 0 b.code = true ∧ termOk f ds near ((i + j : Nat) : Int) b = true
  | [], i, j, b, _, hb => by simp at hb
  | y :: l, i, j, b, h, hb => by
    simp only [checkBlocks, Bool.and_eq_true] at h
    cases j with
    | zero => simp only [List.getElem?_cons_zero, Option.some.injEq] at hb; subst hb; exact h.1
    | succ j =>
      have := checkBlocks_at h.2 (j := j) (b := b) (by simpa using hb)
      rw [show i + (j + 1) = i + 1 + j by omega]; exact this
theorem insOk_asks {e : Env} {f : Fn} {ds : List Def} {near : List Int} {i k : Int} {x : Ins} (h : insOk e f ds near i k x = true) : asks f.types ds near i k x.args (form e x.op x.n (insOut f.types x)).inn = true := by
  simp only [insOk, Bool.and_eq_true] at h
  exact h.2
theorem termOk_asks {f : Fn} {ds : List Def} {near : List Int} {i : Int} {b : Block} (h : termOk f ds near i b = true) {v : Int} (hv : v ∈ asksT b.term) : 0 ≤ v ∧ (dAt ds v).made = true := by
  simp only [termOk] at h
  split at h
  · rename_i le mo rs _
    simp only [termTail, Bool.and_eq_true, List.all_eq_true] at h
    simp only [asksT, List.mem_append] at hv
    rcases hv with (hv | hv) | hv
    · split at hv
      · rename_i hk
        have hb : branches b.term = true := by
          simp only [branches, Bool.or_eq_true, decide_eq_true_eq]; exact hk
        have := h.1.1.1.1
        rw [if_pos hb] at this
        obtain ⟨h1, h2, _⟩ := asks_fst this hv
        exact ⟨h1, h2⟩
      · cases hv
    · obtain ⟨x, hx, hv⟩ := List.mem_flatMap.1 hv
      have := h.2 x hx
      simp only [edgeOk, Bool.and_eq_true] at this
      obtain ⟨h1, h2, _⟩ := asks_fst this.2 hv
      exact ⟨h1, h2⟩
    · obtain ⟨h1, h2, _⟩ := asks_fst h.1.2 hv
      exact ⟨h1, h2⟩
  · cases h
theorem check_spec {e : Env} {f : Fn} (h : check e f = true) : checkHead e f = true ∧ ∃ ds, defsOf f = some ds ∧ shapeOk f = true ∧ checkBlocks e f ds (Go.Vw.G.nearI (succs f.blocks)) 0 f.blocks = true := by
  simp only [check, Bool.and_eq_true] at h
  refine ⟨h.1, ?_⟩
  cases hd : defsOf f with
  | none => rw [hd] at h; simp at h
  | some ds =>
    rw [hd] at h
    simp only [Bool.and_eq_true] at h
    exact ⟨ds, rfl, h.2.1, h.2.2⟩
/-- Marks. -/
theorem mark_get : ∀ (l : List Int) (o : List Bool) (n : Nat), (mark o l).getD n false = true → o.getD n false = true ∨ (n : Int) ∈ l
  | [], o, n, h => .inl h
  | v :: l, o, n, h => by
    have h' : (mark (mark1 o v) l).getD n false = true := h
    rcases mark_get l _ n h' with h1 | h1
    · unfold mark1 at h1
      split at h1
      · rename_i hv
        by_cases e : v.toNat = n
        · right; rw [show (n : Int) = v by omega]; simp
        · left
          rw [List.getD_eq_getElem?_getD, List.getElem?_set_ne e] at h1
          exact h1
      · exact .inl h1
    · exact .inr (by simp [h1])
theorem rused_get {bs : List Block} : ∀ (o : List Bool) (n : Nat), (bs.foldl (fun o b => mark o (asksB b)) o).getD n false = true → o.getD n false = true ∨ ∃ b ∈ bs, (n : Int) ∈ asksB b := by
  induction bs with
  | nil => exact fun o n h => .inl h
  | cons b bs ih =>
    intro o n h
    rw [List.foldl_cons] at h
    rcases ih _ n h with h1 | ⟨b', hb, h1⟩
    · rcases mark_get _ _ n h1 with h2 | h2
      · exact .inl h2
      · exact .inr ⟨b, by simp, h2⟩
    · exact .inr ⟨b', by simp [hb], h1⟩
theorem asked_by {f : Fn} {l : List Int} (h : askedO (rusedOf f) l = true) : ∃ v ∈ l, ∃ b ∈ f.blocks, v ∈ asksB b := by
  simp only [askedO, List.any_eq_true, Bool.and_eq_true, decide_eq_true_eq] at h
  obtain ⟨v, hv, h0, h1, h2⟩ := h
  rcases rused_get _ _ h2 with h3 | ⟨b, hb, h3⟩
  · simp only [List.getD_eq_getElem?_getD, List.getElem?_replicate] at h3
    split at h3 <;> cases h3
  · rw [Int.toNat_of_nonneg h0] at h3
    exact ⟨v, hv, b, hb, h3⟩
theorem split_at {α : Type} {l : List α} {i : Nat} {a : α} (h : l[i]? = some a) : l = l.take i ++ a :: l.drop (i + 1) := by
  obtain ⟨hi, rfl⟩ := List.getElem?_eq_some_iff.1 h
  rw [List.getElem_cons_drop, List.take_append_drop]
theorem cut_blocks {f : Fn} {i k : Nat} {b : Block} (hb : f.blocks[i]? = some b) : (cut f i k).blocks = f.blocks.set i (cutB b k) := by
  simp [cut, hb]
theorem cut_count {f : Fn} {i k : Nat} {b : Block} {x : Ins} (hb : f.blocks[i]? = some b) (hx : b.code[k]? = some x) (v : Int) : (allL f.blocks).count v = (allL (cut f i k).blocks).count v + x.outs.count v := by
  rw [cut_blocks hb]
  have hi := (List.getElem?_eq_some_iff.1 hb).1
  conv => lhs; rw [split_at hb]
  rw [List.set_eq_take_append_cons_drop, if_pos hi]
  have hc : allB b = b.params ++ (outsC (b.code.take k) ++ (x.outs ++ outsC (b.code.drop (k + 1)))) := by
    conv => lhs; rw [allB, split_at hx]
    simp [outsC]
  have hc2 : allB (cutB b k) = b.params ++ (outsC (b.code.take k) ++ outsC (b.code.drop (k + 1))) := by
    simp [allB, cutB, outsC]
  simp only [allL, List.flatMap_append, List.flatMap_cons, hc, hc2, List.count_append]
  omega
/-- Without an instruction that somebody asks for, a function may not be. -/
theorem less_plain {e : Env} {f : Fn} {i k : Nat} {b : Block} {x : Ins} (h : check e f = true) (hb : f.blocks[i]? = some b) (hx : b.code[k]? = some x) (ha : askedO (rusedOf f) x.outs = true) : check e (cut f i k) = false := by
  cases hc : check e (cut f i k) with
  | false => rfl
  | true =>
  exfalso
  obtain ⟨_, ds, hd, _, hbs⟩ := check_spec h
  obtain ⟨_, dg, hdg, _, hgs⟩ := check_spec hc
  obtain ⟨hnd, _, hat⟩ := defs_made hd
  obtain ⟨_, hmg, _⟩ := defs_made hdg
  obtain ⟨v, hv, b', hb', hv'⟩ := asked_by ha
  have key : ¬ (0 ≤ v ∧ (dAt dg v).made = true) := by
    rintro ⟨h0, hm⟩
    have h1 := hmg v h0 hm
    have h2 := cut_count hb hx v
    have h3 := List.nodup_iff_count.1 hnd v
    have h4 := List.count_pos_iff.2 h1
    have h5 := List.count_pos_iff.2 hv
    omega
  obtain ⟨i', hi', hbi⟩ := List.getElem_of_mem hb'
  have hbi' : f.blocks[i']? = some b' := by rw [List.getElem?_eq_getElem hi', hbi]
  -- what a block of the cut function is
  have hgb : ∃ b'', (cut f i k).blocks[i']? = some b'' ∧ b''.term = b'.term ∧ ((i' ≠ i ∧ b'' = b') ∨ (i' = i ∧ b' = b ∧ b'' = cutB b k)) := by
    rw [cut_blocks hb]
    by_cases e1 : i' = i
    · subst e1
      rw [hb] at hbi'
      cases hbi'
      exact ⟨cutB b k, by rw [List.getElem?_set_self hi'], rfl, .inr ⟨rfl, rfl, rfl⟩⟩
    · exact ⟨b', by rw [List.getElem?_set_ne (Ne.symm e1)]; exact hbi', rfl, .inl ⟨e1, rfl⟩⟩
  obtain ⟨b'', hb2, ht, hor⟩ := hgb
  obtain ⟨g1, g2⟩ := checkBlocks_at hgs hb2
  simp only [asksB, List.mem_append] at hv'
  rcases hv' with hv' | hv'
  · exact key (termOk_asks g2 (by rw [ht]; exact hv'))
  · obtain ⟨y, hy, hvy⟩ := List.mem_flatMap.1 hv'
    have inG : y ∈ b''.code → False := fun hm => by
      obtain ⟨j, hj, hyj⟩ := List.getElem_of_mem hm
      have := checkCode_at g1 (j := j) (x := y) (by rw [List.getElem?_eq_getElem hj, hyj])
      obtain ⟨a1, a2, _⟩ := asks_fst (insOk_asks this) hvy
      exact key ⟨a1, a2⟩
    rcases hor with ⟨_, rfl⟩ | ⟨rfl, rfl, rfl⟩
    · exact inG hy
    · obtain ⟨k', hk', hyk⟩ := List.getElem_of_mem hy
      have hyk' : b'.code[k']? = some y := by rw [List.getElem?_eq_getElem hk', hyk]
      by_cases e1 : k' = k
      · subst e1
        rw [hx] at hyk'
        cases hyk'
        obtain ⟨f1, _⟩ := checkBlocks_at hbs hb
        have := checkCode_at f1 hx
        obtain ⟨_, _, a3⟩ := asks_fst (insOk_asks this) hvy
        have h6 := hat i' b' hb k' x hx v hv
        rw [h6] at a3
        have := a3 (by simp)
        simp at this
      · refine inG ?_
        simp only [cutB, List.mem_append]
        rcases Nat.lt_or_ge k' k with hlt | hge
        · left
          refine List.mem_of_getElem? (i := k') ?_
          rw [List.getElem?_take, if_pos hlt]; exact hyk'
        · right
          refine List.mem_of_getElem? (i := k' - (k + 1)) ?_
          rw [List.getElem?_drop, show k + 1 + (k' - (k + 1)) = k' by omega]; exact hyk'
theorem cut_fits {f : Fn} (hf : f.Fits) (i k : Nat) : (cut f i k).Fits := by
  by_cases hi : i < f.blocks.length
  · have hb : f.blocks[i]? = some f.blocks[i] := List.getElem?_eq_getElem hi
    have hF := hf.2.2.2 _ (List.getElem_mem hi)
    refine ⟨hf.1, hf.2.1, by rw [cut_blocks hb]; simpa using hf.2.2.1, fun b hbm => ?_⟩
    rw [cut_blocks hb] at hbm
    rcases List.mem_or_eq_of_mem_set hbm with h | rfl
    · exact hf.2.2.2 b h
    · refine ⟨hF.1, ⟨?_, fun x hx => hF.2.1.2 x ?_⟩, hF.2.2⟩
      · have := hF.2.1.1
        simp only [cutB, List.length_append, List.length_take, List.length_drop]; omega
      · simp only [cutB, List.mem_append] at hx
        rcases hx with h | h
        · exact List.mem_of_mem_take h
        · exact List.mem_of_mem_drop h
  · have : (cut f i k) = f := by
      simp [cut, List.set_eq_of_length_le (Nat.le_of_not_lt hi)]
    rw [this]; exact hf
end Ss
namespace Go.Vw
open Go.Proofs Go.RowKit
theorem LessAll_v (e : Ss.Env) (f : Ss.Fn) (which : Int) (he : e.Fits) (hf : f.Fits) : VPure Try.prog 5 [encEnv e, encFn f, vint which] (.bool true) :=
  Less_v e f which he hf (fun h _ i k b x hb hx ha => Ss.less_plain h hb hx ha) (Ss.cut_fits hf)
end Go.Vw
