import Derived.Test.YtmfpoangempgaaaC37
import Derived.Test.YtmfpoangempgaaaC16
import Derived.Test.YtmfpoangempgaaaC18
import Derived.Test.YtmfpoangempgaaaC32
/-
  Part of the proof (texts SRSame2, VThaw, SShp).
-/
set_option linter.unusedVariables false
set_option linter.unusedSimpArgs false
namespace Go.Vw
open Go.Proofs Go.RowKit
set_option maxRecDepth 10000
set_option maxHeartbeats 4000000

theorem RSame_v (f g : Ss.Fn) (hf : f.Fits) (hg : g.Fits) : VPure Try.prog 8 [encFn f, encFn g] (.bool (f.small && g.small && decide (f = g))) := by
  intro S
  have cf := RSmall_v f hf
  have cg := RSmall_v g hg
  obtain ⟨⟨⟨f1, _⟩, ⟨f2, _⟩⟩, ⟨f3, _⟩, ⟨f4, f5⟩⟩ := hf
  generalize f.small = sf at *
  generalize g.small = sg at *
  obtain ⟨⟨a1, a2⟩, a3, a4⟩ := f
  obtain ⟨⟨b1, b2⟩, b3, b4⟩ := g
  simp only at f1 f2 f3 f4 f5
  simp only [Ss.Fn.mk.injEq]
  have cf' : VPure Try.prog 9 [.agg [vl vint a1, vl vint a2, vl vint a3, vl encBlock a4]] (.bool sf) := cf
  have cg' : VPure Try.prog 9 [.agg [vl vint b1, vl vint b2, vl vint b3, vl encBlock b4]] (.bool sg) := cg
  have cs : VPure Try.prog 20 [.agg [vl vint a1, vl vint a2], .agg [vl vint b1, vl vint b2]] (.bool (decide ((⟨a1, a2⟩ : Ss.Sig) = ⟨b1, b2⟩))) := SameSig_v ⟨a1, a2⟩ ⟨b1, b2⟩ (Nat.lt_of_le_of_lt f1 (by decide)) (Nat.lt_of_le_of_lt f2 (by decide))
  have g3 : a3.length < 2^63 := by omega
  have g4 : a4.length < 2^63 := by omega
  generalize hX : (sf && sg && decide ((⟨a1, a2⟩ : Ss.Sig) = ⟨b1, b2⟩ ∧ a3 = b3 ∧ a4 = b4)) = X
  generalize hse : decide ((⟨a1, a2⟩ : Ss.Sig) = ⟨b1, b2⟩) = se at cs
  refine vcalls_start (c := bodyOf Try.f8) Try.func8 rfl rfl (by simp [Try.ntmps8]) ?_
  rw [Try.ntmps8]
  intro hwf
  repeat (first|refine QG ?_|refine QX (r:=by conv=>lhs;simp[-List.map_set,QV]) (k:=?_))
  repeat refine QS ?_
  refine QR (r:=by conv=>lhs;simp[-List.map_set,QV]) (k:=?_)
  refine vcall_useH (cf') (by rfl) ?_
  by_cases hsf : sf = true
  case neg =>
    have hsf' : sf = false := by simpa using hsf
    refine QM (by conv=>lhs;simp[-List.map_set,QV,hsf']) ?_
    refine QN ?_
    repeat (first|refine QG ?_|refine QX (r:=by conv=>lhs;simp[-List.map_set,QV]) (k:=?_))
    exact done_pure hwf (by simp [← hX, hsf']) rfl
  refine QM (by conv=>lhs;simp[-List.map_set,QV,hsf]) ?_
  refine vcall_useH (cg') (by rfl) ?_
  by_cases hsg : sg = true
  case neg =>
    have hsg' : sg = false := by simpa using hsg
    refine QM (by conv=>lhs;simp[-List.map_set,QV,hsg']) ?_
    refine QN ?_
    repeat (first|refine QG ?_|refine QX (r:=by conv=>lhs;simp[-List.map_set,QV]) (k:=?_))
    exact done_pure hwf (by simp [← hX, hsf, hsg']) rfl
  refine QM (by conv=>lhs;simp[-List.map_set,QV,hsg]) ?_
  refine vcall_useH (cs) (by rfl) ?_
  by_cases hs : se = true
  case neg =>
    have hs' : se = false := by simpa using hs
    have hne : ¬ ((⟨a1, a2⟩ : Ss.Sig) = ⟨b1, b2⟩) := by rw [hs'] at hse; simpa using hse
    have hX' : X = false := by rw [← hX]; simp only [decide_eq_false (fun h : _ ∧ _ ∧ _ => hne h.1)]; simp
    refine QM (by conv=>lhs;simp[-List.map_set,QV,hs']) ?_
    refine QN ?_
    repeat (first|refine QG ?_|refine QX (r:=by conv=>lhs;simp[-List.map_set,QV]) (k:=?_))
    exact done_pure hwf (by simp [hX']) rfl
  have hse' : (⟨a1, a2⟩ : Ss.Sig) = ⟨b1, b2⟩ := by rw [hs] at hse; simpa using hse
  refine QM (by conv=>lhs;simp[-List.map_set,QV,hs]) ?_
  refine vcall_useH (WInts_v a3 b3 g3) (by rfl) ?_
  by_cases h3 : a3 = b3
  case neg =>
    have hX' : X = false := by rw [← hX]; simp only [decide_eq_false (fun h : _ ∧ _ ∧ _ => h3 h.2.1)]; simp
    refine QM (by conv=>lhs;simp[-List.map_set,QV,h3]) ?_
    refine QN ?_
    repeat (first|refine QG ?_|refine QX (r:=by conv=>lhs;simp[-List.map_set,QV]) (k:=?_))
    exact done_pure hwf (by simp [hX']) rfl
  by_cases hlm : a4.length = b4.length
  case neg =>
    have hlm' : ¬ (a4.length : Int) = (b4.length : Int) := by omega
    have hne : ¬ a4 = b4 := by rintro rfl; exact hlm rfl
    have hX' : X = false := by rw [← hX]; simp only [decide_eq_false (fun h : _ ∧ _ ∧ _ => hne h.2.2)]; simp
    refine QM (by conv=>lhs;simp[-List.map_set,QV,h3,hlm,hlm']) ?_
    refine QN ?_
    repeat (first|refine QG ?_|refine QX (r:=by conv=>lhs;simp[-List.map_set,QV]) (k:=?_))
    exact done_pure hwf (by simp [hX']) rfl
  have hlm' : (a4.length : Int) = (b4.length : Int) := by omega
  have hXe : X = eqF (fun x y => decide (x = y)) a4 b4 := by
    rw [← hX, eqF_dec, hsf, hsg]
    by_cases h4 : a4 = b4
    · simp [h3, h4, hse']
    · simp [h4]
  generalize hp : (fun x y : Ss.Block => decide (x = y)) = p at hXe
  refine QM (by conv=>lhs;simp[-List.map_set,QV,h3,hlm,hlm']) ?_
  refine QN ?_
  repeat (first|refine QG ?_|refine QX (r:=by conv=>lhs;simp[-List.map_set,QV]) (k:=?_))
  repeat refine QS ?_
  refine vw_loopAt [2, 3, 5] rfl (fun c σ S' => ∃ (k : Nat), k ≤ a4.length ∧ c = a4.length - k ∧ eqF p (a4.drop k) (b4.drop k) = X ∧ σ = [(2, .ptr (lid S.nx 0) 0), (3, .ptr (lid S.nx 1) 0), (5, vnat k)] ∧ S' = St S [] [some (4, [vl vint a1, vl vint a2, vl vint b3, vl encBlock a4]), some (4, [vl vint b1, vl vint b2, vl vint b3, vl encBlock b4])]) a4.length ?_ ?_
  · exact ⟨0, by omega, rfl, by rw [hXe]; rfl, by simp [Fr.only], by simp [h3]⟩
  · rintro c σ T ⟨k, hk, rfl, hd, rfl, rfl⟩
    by_cases hkt : k < a4.length
    · have hkm : k < b4.length := by omega
      have hw := wrapNat hkt g4
      have hst := eqF_one (p := p) hkt hkm
      have hbf := f5 _ (List.getElem_mem hkt)
      obtain ⟨⟨x1, x2, x3⟩, hx⟩ : ∃ x, a4[k] = x := ⟨_, rfl⟩
      obtain ⟨⟨y1, y2, y3⟩, hy⟩ : ∃ y, b4[k] = y := ⟨_, rfl⟩
      rw [hx] at hbf
      have ct := sameTerm_v x3 y3 hbf.2.2
      obtain ⟨⟨q1, _⟩, ⟨q2, q3⟩, _⟩ := hbf
      simp only at q1 q2 q3
      rw [hx, hy] at hst
      have hpp : p ⟨x1, x2, x3⟩ ⟨y1, y2, y3⟩ = decide (x1 = y1 ∧ x2 = y2 ∧ x3 = y3) := by rw [← hp]; simp
      have r1 : x1.length < 2^63 := by omega
      have r2 : x2.length < 2^63 := by omega
      obtain ⟨x3, x4, x5, x6⟩ := x3
      obtain ⟨y3, y4, y5, y6⟩ := y3
      generalize hT : decide ((⟨x3, x4, x5, x6⟩ : Ss.Term) = ⟨y3, y4, y5, y6⟩) = te at ct
      have ct' : VPure Try.prog 22 [.agg [.int .i64 x3, .int .i64 x4, vl encEdge x5, vl vint x6], .agg [.int .i64 y3, .int .i64 y4, vl encEdge y5, vl vint y6]] (.bool te) := ct
      have bad : ¬ (x1 = y1 ∧ x2 = y2 ∧ (⟨x3, x4, x5, x6⟩ : Ss.Term) = ⟨y3, y4, y5, y6⟩) → X = false := by
        intro hn
        rw [← hd, hst, hpp, decide_eq_false hn]; rfl
      repeat (first|refine QG ?_|refine QX (r:=by conv=>lhs;simp[-List.map_set,QV,hkt,hkm,hx,hy]) (k:=?_))
      repeat refine QS ?_
      refine vw_drawTwo (σm := ?sm) (Sm := ?Sm) (ZZ.mk _ (St S [] [some (4, [vl vint a1, vl vint a2, vl vint b3, vl encBlock a4]), some (4, [vl vint b1, vl vint b2, vl vint b3, vl encBlock b4])]) (St S [] [some (4, [vl vint a1, vl vint a2, vl vint b3, vl encBlock a4]), some (4, [vl vint b1, vl vint b2, vl vint b3, vl encBlock b4])]) []) 10 11 [0, 1, 2, 3, 4, 5, 6, 7, 8, 9, 10, 11, 12, 13] [0, 1, 2, 3, 4, 5, 6, 7, 8, 9, 11, 10, 12, 13] rfl (by kernel_rfl) (by conv => lhs; reduce) (by kernel_rfl) (by decide) (by kernel_rfl) (by kernel_rfl) (by kernel_rfl) (by kernel_rfl) (by kernel_rfl) (by kernel_rfl) rfl (ok_St (by simp [subU, shpU, subL, shpL])) (Store.sub_refl _) (by conv => lhs; reduce) (by conv => lhs; reduce) ?H1 ?H2 ?H3
      case H1 =>
        refine QM (by conv=>lhs;simp[-List.map_set,QV,hkt,hkm,hx,hy]) ?_
        refine vseg_write rfl (by conv=>lhs;simp[-List.map_set,QV]) (ok_St (by simp [subU, shpU, subL, shpL])) ?_
        refine vseg_write rfl (by conv=>lhs;simp[-List.map_set,QV]) (ok_St (by simp [subU, shpU, subL, shpL])) ?_
        refine vseg_write rfl (by conv=>lhs;simp[-List.map_set,QV]) (ok_St (by simp [subU, shpU, subL, shpL])) ?_
        refine vseg_write rfl (by conv=>lhs;simp[-List.map_set,QV]) (ok_St (by simp [subU, shpU, subL, shpL])) ?_
        refine QN ?_
        refine reach_only [2, 3, 5, 6, 7] (Eq.trans (b := ?_) ?_ rfl)
        rotate_left
        conv => lhs; simp [Fr.only, Fr.look]
      case H2 =>
        refine QM (by conv=>lhs;simp[-List.map_set,QV,hkt,hkm,hx,hy]) ?_
        refine vseg_write rfl (by conv=>lhs;simp[-List.map_set,QV]) (ok_St (by simp [subU, shpU, subL, shpL])) ?_
        refine vseg_write rfl (by conv=>lhs;simp[-List.map_set,QV]) (ok_St (by simp [subU, shpU, subL, shpL])) ?_
        refine vseg_write rfl (by conv=>lhs;simp[-List.map_set,QV]) (ok_St (by simp [subU, shpU, subL, shpL])) ?_
        refine vseg_write rfl (by conv=>lhs;simp[-List.map_set,QV]) (ok_St (by simp [subU, shpU, subL, shpL])) ?_
        refine QN ?_
        exact reach_swap [2, 3, 5, 6, 7] [0, 1, 3, 2] (by conv => lhs; simp [Fr.only, Fr.look]) hwf (by decide) (by simp [-List.map_set]) (by conv => lhs; simp [-List.map_set]) (by conv => lhs; simp [-List.map_set]) (by conv => lhs; simp [-List.map_set])
      repeat (first|refine QG ?_|refine QX (r:=by conv=>lhs;simp[-List.map_set,QV]) (k:=?_))
      repeat refine QS ?_
      refine QR (r:=by conv=>lhs;simp[-List.map_set,QV]) (k:=?_)
      refine vcall_useH (WInts_v x1 y1 r1) (by rfl) ?_
      by_cases e1 : x1 = y1
      case neg =>
        refine QM (by conv=>lhs;simp[-List.map_set,QV,e1]) ?_
        refine QN ?_
        repeat (first|refine QG ?_|refine QX (r:=by conv=>lhs;simp[-List.map_set,QV]) (k:=?_))
        exact done_pure hwf (by have hb := bad (fun h => e1 h.1); simp [hb]) rfl
      by_cases e2 : x2.length = y2.length
      case neg =>
        have e2' : ¬ (x2.length : Int) = (y2.length : Int) := by omega
        refine QM (by conv=>lhs;simp[-List.map_set,QV,e1,e2,e2']) ?_
        refine QN ?_
        repeat (first|refine QG ?_|refine QX (r:=by conv=>lhs;simp[-List.map_set,QV]) (k:=?_))
        exact done_pure hwf (by have hb := bad (fun h => e2 (by rw [h.2.1])); simp [hb]) rfl
      have e2' : (x2.length : Int) = (y2.length : Int) := by omega
      refine QM (by conv=>lhs;simp[-List.map_set,QV,e1,e2,e2']) ?_
      refine vcall_useH (ct') (by rfl) ?_
      by_cases hte : te = true
      case neg =>
        have hte' : te = false := by simpa using hte
        refine QM (by conv=>lhs;simp[-List.map_set,QV,hte']) ?_
        refine QN ?_
        repeat (first|refine QG ?_|refine QX (r:=by conv=>lhs;simp[-List.map_set,QV]) (k:=?_))
        exact done_pure hwf (by have hb := bad (fun h => by rw [hte'] at hT; simp only [decide_eq_false_iff_not] at hT; exact hT h.2.2); simp [hb]) rfl
      have hTe : (⟨x3, x4, x5, x6⟩ : Ss.Term) = ⟨y3, y4, y5, y6⟩ := by rw [hte] at hT; simpa using hT
      refine QM (by conv=>lhs;simp[-List.map_set,QV,hte]) ?_
      refine QN ?_
      repeat (first|refine QG ?_|refine QX (r:=by conv=>lhs;simp[-List.map_set,QV]) (k:=?_))
      have hce : p ⟨x1, x2, ⟨x3, x4, x5, x6⟩⟩ ⟨y1, y2, ⟨y3, y4, y5, y6⟩⟩ = eqF (fun x y => decide (x = y)) x2 y2 := by
        rw [hpp, eqF_dec]
        by_cases h4 : x2 = y2
        · simp only [e1, h4, hTe, and_self]
        · simp [h4]
      generalize hq : (fun x y : Ss.Ins => decide (x = y)) = q at hce
      repeat refine QS ?_
      refine vw_loopAt [2, 3, 5, 6, 7, 8] rfl (fun c σ S' => ∃ (j : Nat), j ≤ x2.length ∧ c = x2.length - j ∧ eqF q (x2.drop j) (y2.drop j) = eqF q x2 y2 ∧ σ = [(2, .ptr (lid S.nx 0) 0), (3, .ptr (lid S.nx 1) 0), (5, vnat k), (6, .ptr (lid S.nx 2) 0), (7, .ptr (lid S.nx 3) 0), (8, vnat j)] ∧ S' = St S [] [some (4, [vl vint a1, vl vint a2, vl vint b3, vl encBlock a4]), some (4, [vl vint b1, vl vint b2, vl vint b3, vl encBlock b4]), some (6, [vl vint x1, vl encIns x2, .int .i64 x3, .int .i64 x4, vl encEdge x5, vl vint x6]), some (6, [vl vint y1, vl encIns y2, .int .i64 y3, .int .i64 y4, vl encEdge y5, vl vint y6])]) x2.length ?_ ?_
      · exact ⟨0, by omega, rfl, rfl, by simp [Fr.only], by simp [e1]⟩
      · rintro c σ T ⟨j, hj, rfl, hdj, rfl, rfl⟩
        by_cases hjt : j < x2.length
        · have hjm : j < y2.length := by omega
          have hwj := wrapNat hjt r2
          have hsj := eqF_one (p := q) hjt hjm
          have hif := q3 _ (List.getElem_mem hjt)
          obtain ⟨⟨u1, u2, u3, u4⟩, hu⟩ : ∃ x, x2[j] = x := ⟨_, rfl⟩
          obtain ⟨⟨v1, v2, v3, v4⟩, hv⟩ : ∃ x, y2[j] = x := ⟨_, rfl⟩
          rw [hu] at hif
          have ci := SameIns_v ⟨u1, u2, u3, u4⟩ ⟨v1, v2, v3, v4⟩ (Nat.lt_of_le_of_lt hif.2.2.1.1 (by decide)) (Nat.lt_of_le_of_lt hif.2.2.2.1 (by decide))
          rw [hu, hv, show q ⟨u1, u2, u3, u4⟩ ⟨v1, v2, v3, v4⟩ = decide ((⟨u1, u2, u3, u4⟩ : Ss.Ins) = ⟨v1, v2, v3, v4⟩) by rw [← hq]] at hsj
          generalize decide ((⟨u1, u2, u3, u4⟩ : Ss.Ins) = ⟨v1, v2, v3, v4⟩) = ie at hsj ci
          have ci' : VPure Try.prog 23 [.agg [.int .i64 u1, .int .u64 u2, vl vint u3, vl vint u4], .agg [.int .i64 v1, .int .u64 v2, vl vint v3, vl vint v4]] (.bool ie) := ci
          repeat (first|refine QG ?_|refine QX (r:=by conv=>lhs;simp[-List.map_set,QV,hjt,hjm,hu,hv]) (k:=?_))
          repeat refine QS ?_
          refine QD (r:=by conv=>lhs;simp[-List.map_set,QV,hjt,hjm,hu,hv]) (k:=?_)
          refine vcall_useH (ci') (by rfl) ?_
          by_cases hie : ie = true
          · refine QM (by conv=>lhs;simp[-List.map_set,QV,hie]) ?_
            refine QN ?_
            repeat (first|refine QG ?_|refine QX (r:=by conv=>lhs;simp[-List.map_set,QV]) (k:=?_))
            show Again _ _ _ _ _ _ _
            exact again ⟨Nat.sub_lt_sub_left hjt (Nat.lt_succ_self j), j + 1, hjt, rfl, by rw [← hdj, hsj, hie]; rfl, by simp [Fr.only, hwj], rfl⟩
          · have hie' : ie = false := by simpa using hie
            refine QM (by conv=>lhs;simp[-List.map_set,QV,hie']) ?_
            refine QN ?_
            repeat (first|refine QG ?_|refine QX (r:=by conv=>lhs;simp[-List.map_set,QV]) (k:=?_))
            exact done_pure hwf (by rw [← hd, hst, hce, ← hdj, hsj, hie']; rfl) rfl
        · rw [eqF_end hjt e2] at hdj
          have hjm : ¬ j < y2.length := by omega
          repeat (first|refine QG ?_|refine QX (r:=by conv=>lhs;simp[-List.map_set,QV,hjt,hjm]) (k:=?_))
          refine QA [0, 1] (h:=⟨?_, k + 1, hkt, rfl, by rw [← hd, hst, hce, ← hdj]; rfl, by simp [hw], rfl⟩)
          omega
    · rw [eqF_end hkt hlm] at hd
      have hkm : ¬ k < b4.length := by omega
      repeat (first|refine QG ?_|refine QX (r:=by conv=>lhs;simp[-List.map_set,QV,hkt,hkm]) (k:=?_))
      exact done_pure hwf (by simp [← hd]) rfl
end Go.Vw

/-
  Pure calls on what is owned: it stays owned. What is owned may be written to.
-/
namespace Go.Vw
open Go.RowKit

/-- A pure call that answers a bool, on what reads as closed: all is behind it as it was. -/
theorem VPure.thaw {P : Program} {f : FuncId} {xs xs' : List V} {S S' : Store} {b : Bool} (h : VPure P f xs' (.bool b)) (hg : GhostArgs xs S xs' S') (hcl : ∀ x ∈ xs', x.closed = true) : VCalls P f xs S fun r T => r = .bool b ∧ T = S := by
  intro m β w vs hS hr
  obtain ⟨m1, β1, h1, h2, h3⟩ := hg m β w vs hS hr
  have h0 : Holds ⟨fun _ => none, 0⟩ m1 (fun _ => .fresh) w :=
    ⟨h1.imm, fun o b hb => by simp [Loc.block?] at hb, fun o o' b hb => by simp [Loc.block?] at hb, fun o => by simp, fun o _ => rfl, fun o ho => absurd ho (Nat.not_lt_zero _), fun o c hc => by cases hc⟩
  have hr0 : RepL m1 (fun _ => .fresh) xs' vs := ⟨h3.1, fun i x v hx hv => .imm ((h3.2 i x v hx hv).closed (hcl x (List.mem_of_getElem? hx)))⟩
  refine (h ⟨fun _ => none, 0⟩ m1 _ w vs h0 hr0).mono ?_
  rintro e w' ⟨v, x, S2, m2, β2, he, ⟨rfl, rfl⟩, k1, k2, k3⟩
  have hheap : ∀ b, b < w.heap.size → w'.heap[b]? = w.heap[b]? := by
    intro b hb
    cases hm : m1 b with
    | some ob => rw [h1.imm b ob hm, k2.imm b ob (k3.imm b ob hm)]
    | none => exact (k3.keep b hb hm fun o => by simp [Loc.block?]).1
  have hsome : ∀ {b : Nat} {ob : Obj}, w.heap[b]? = some ob → w'.heap[b]? = some ob := by
    intro b ob hb
    have hlt : b < w.heap.size := by
      rcases Nat.lt_or_ge b w.heap.size with h | h
      · exact h
      · rw [Array.getElem?_eq_none h] at hb; cases hb
    rw [hheap b hlt, hb]
  have hbool : v = .bool b := k1.inv_bool
  refine ⟨v, .bool b, S, m, β, he, ⟨rfl, rfl⟩, by rw [hbool]; exact .imm (.bool _), ⟨fun b o hb => hsome (hS.imm b o hb), hS.apart, hS.inj, hS.fresh, hS.gone, hS.dead, fun o c hc => ?_⟩, ⟨fun _ _ h => h, fun o _ => .inl rfl, k3.size, fun b hb hm hβ => ⟨hheap b hb, hm, hβ⟩, k3.os.trans (by rfl), k3.tape, k3.output⟩⟩
  have hl := hS.live o c hc
  cases hβ : β o with
  | fresh => rw [hβ] at hl; exact hl.elim
  | dead => rw [hβ] at hl; exact hl.elim
  | void => rw [hβ] at hl; exact hl
  | lies b base s n =>
    rw [hβ] at hl
    obtain ⟨e0, arr, T, e1, e2, e3, e4⟩ := hl
    exact ⟨e0, arr, T, hsome e1, e2, e3, e4⟩
  | mp b =>
    rw [hβ] at hl
    obtain ⟨es, clock, e1, e2, e3⟩ := hl
    exact ⟨es, clock, hsome e1, e2, e3⟩

/-- Closed cells as so many elements. -/
def unflat (s : Nat) : Nat → List V → List V
  | 0, _ => []
  | n + 1, l => (if s = 1 then (l.take 1).headD .nils else .agg (l.take s)) :: unflat s n (l.drop s)
theorem unflat_spec (s : Nat) : ∀ (n : Nat) (l : List V), l.length = n * s → (∀ x ∈ l, x.closed1 = true) → (unflat s n l).length = n ∧ (unflat s n l).flatMap V.cells = l ∧ ∀ y ∈ unflat s n l, y.cells.length = s ∧ y.closed = true
  | 0, l, hl, _ => by
    have : l = [] := List.eq_nil_of_length_eq_zero (by omega)
    subst this
    exact ⟨rfl, rfl, by simp [unflat]⟩
  | n + 1, l, hl, hc => by
    have hle : s ≤ l.length := by rw [hl, Nat.succ_mul]; omega
    obtain ⟨h1, h2, h3⟩ := unflat_spec s n (l.drop s) (by rw [List.length_drop, hl, Nat.succ_mul]; omega) (fun x hx => hc x (List.mem_of_mem_drop hx))
    have key : ∀ y : V, y = (if s = 1 then (l.take 1).headD .nils else .agg (l.take s)) → y.cells = l.take s ∧ y.closed = true := by
      intro y hy
      subst hy
      by_cases hs : s = 1
      · subst hs
        cases l with
        | nil => simp at hle
        | cons x r =>
          have hx := hc x (by simp)
          refine ⟨?_, ?_⟩
          · show x.cells = [x]
            cases x <;> first | rfl | simp [V.closed1] at hx
          · show x.closed = true
            cases x <;> first | exact hx | simp [V.closed1] at hx
      · rw [if_neg hs]
        refine ⟨rfl, ?_⟩
        simp only [V.closed, List.all_eq_true]
        exact fun x hx => hc x (List.mem_of_mem_take hx)
    obtain ⟨k1, k2⟩ := key _ rfl
    refine ⟨by simp [unflat, h1], ?_, fun y hy => ?_⟩
    · rw [unflat, List.flatMap_cons, k1, h2, List.take_append_drop]
    · rw [unflat] at hy
      rcases List.mem_cons.1 hy with rfl | hy
      · exact ⟨by rw [k1, List.length_take, Nat.min_eq_left hle], k2⟩
      · exact h3 y hy
theorem flat_len {s : Nat} : ∀ {ys : List V}, (∀ y ∈ ys, y.cells.length = s) → (ys.flatMap V.cells).length = ys.length * s
  | [], _ => by simp
  | y :: ys, h => by rw [List.flatMap_cons, List.length_append, h y (by simp), flat_len fun z hz => h z (by simp [hz]), List.length_cons, Nat.succ_mul]; omega
/-- A closed cell of an object of one's own may be another one. -/
theorem OwL.write {S : Store} {ts : List Ty} {rs xs : List V} {ids : List Nat} (h : OwL S ts rs xs ids) {o s j : Nat} {cells : List V} {u v : V} (hg : S.get o = some (s, cells)) (hj : cells[j]? = some u) (hu : u.closed1 = true) (hv : v.closed1 = true) :
    ids.Nodup → ∃ xs', OwL (S.upd o (s, cells.set j v)) ts rs xs' ids := by
  induction h with
  | nil => exact fun _ => ⟨[], .nil⟩
  | c h _ ih =>
    intro hn
    obtain ⟨xs', h'⟩ := ih hn
    exact ⟨_, .c h h'⟩
  | @s tys ts rs xs cells' ys i j' o' h' hs d t ih1 ih2 =>
    intro hn
    obtain ⟨hno, hnij⟩ := List.nodup_cons.1 hn
    obtain ⟨hni, hnj, _⟩ := List.nodup_append.1 hnij
    obtain ⟨x2, t'⟩ := ih2 hnj
    by_cases e : o' = o
    · subst e
      rw [hg] at h'
      cases h'
      -- the object itself: its cells are owned in the store of before
      have hoi : o' ∉ i := fun hm => hno (by simp [hm])
      have d0 : OwL (S.upd o' (tys.length, cells.set j v)) (reps ys.length tys) cells (ys.flatMap V.cells) i := d.mono fun q hq => upd_old fun e => hoi (e ▸ hq)
      have gen : ∀ {us : List Ty} {cs zs : List V} {ii : List Nat} {T : Store} {q : Nat}, OwL T us cs zs ii → cs[q]? = some u → ∃ zs', OwL T us (cs.set q v) zs' ii := by
        intro us cs zs ii T q hh
        induction hh generalizing q with
        | nil => intro hq; simp at hq
        | c hx tt ihh =>
          intro hq
          cases q with
          | zero => exact ⟨_, .c hv tt⟩
          | succ q =>
            obtain ⟨zs', h2⟩ := ihh (q := q) (by simpa using hq)
            exact ⟨_, .c hx h2⟩
        | s ho2 hs2 d2 t2 _ ihh =>
          intro hq
          cases q with
          | zero =>
            simp only [List.getElem?_cons_zero, Option.some.injEq] at hq
            rw [← hq] at hu; simp [V.closed1] at hu
          | succ q =>
            obtain ⟨zs', h2⟩ := ihh (q := q) (by simpa using hq)
            exact ⟨_, .s ho2 hs2 d2 h2⟩
      obtain ⟨zs', d1⟩ := gen d0 hj
      have hzl : zs'.length = ys.length * tys.length := by rw [d1.len.2, reps_len]
      obtain ⟨u1, u2, u3⟩ := unflat_spec tys.length ys.length zs' hzl d1.closed
      have hw := OwL.s (S := S.upd o' (tys.length, cells.set j v)) (o := o') (tys := tys) (cells := cells.set j v) (ys := unflat tys.length ys.length zs') upd_new u3 (by rw [u1, u2]; exact d1) t'
      rw [u1] at hw
      exact ⟨_, hw⟩
    · obtain ⟨x1, d'⟩ := ih1 hni
      have hzl : x1.length = ys.length * tys.length := by rw [d'.len.2, reps_len]
      obtain ⟨u1, u2, u3⟩ := unflat_spec tys.length ys.length x1 hzl d'.closed
      have hw := OwL.s (S := S.upd o (s, cells.set j v)) (o := o') (tys := tys) (cells := cells') (ys := unflat tys.length ys.length x1) (by rw [upd_old e]; exact h') u3 (by rw [u1, u2]; exact d') t'
      rw [u1] at hw
      exact ⟨_, hw⟩
/-- One of the elements. -/
theorem OwL.elem {S : Store} {tys : List Ty} {cells xs : List V} {ids : List Nat} {n i : Nat} (h : OwL S (reps n tys) cells xs ids) (hi : i < n) : ∃ (c1 r c2 x1 x x2 : List V) (i1 ii i2 : List Nat), cells = c1 ++ (r ++ c2) ∧ c1.length = i * tys.length ∧ xs = x1 ++ (x ++ x2) ∧ ids = i1 ++ (ii ++ i2) ∧ OwL S (reps i tys) c1 x1 i1 ∧ OwL S tys r x ii ∧ OwL S (reps (n - i - 1) tys) c2 x2 i2 := by
  have e1 : reps n tys = reps i tys ++ (tys ++ reps (n - i - 1) tys) := by
    rw [← reps_succ, ← reps_add]; congr 1; omega
  rw [e1] at h
  obtain ⟨r1, r2, x1, x2, i1, i2, rfl, rfl, rfl, k1, k2⟩ := h.split
  obtain ⟨r3, r4, x3, x4, i3, i4, rfl, rfl, rfl, k3, k4⟩ := k2.split
  exact ⟨r1, r3, r4, x1, x3, x4, i1, i3, i4, rfl, by rw [k1.len.1, reps_len], rfl, rfl, k1, k3, k4⟩
end Go.Vw

namespace Go.Vw
open Go.Proofs Go.RowKit

/-- A closed cell among owned cells may be another one. -/
theorem OwL.cell {T : Store} {us : List Ty} {cs zs : List V} {ii : List Nat} {u v : V} (h : OwL T us cs zs ii) (hu : u.closed1 = true) (hv : v.closed1 = true) : ∀ {q : Nat}, cs[q]? = some u → ∃ zs', OwL T us (cs.set q v) zs' ii := by
  induction h with
  | nil => intro q hq; simp at hq
  | c hx tt ihh =>
    intro q hq
    cases q with
    | zero => exact ⟨_, .c hv tt⟩
    | succ q =>
      obtain ⟨zs', h2⟩ := ihh (q := q) (by simpa using hq)
      exact ⟨_, .c hx h2⟩
  | s ho2 hs2 d2 t2 _ ihh =>
    intro q hq
    cases q with
    | zero =>
      simp only [List.getElem?_cons_zero, Option.some.injEq] at hq
      rw [← hq] at hu; simp [V.closed1] at hu
    | succ q =>
      obtain ⟨zs', h2⟩ := ihh (q := q) (by simpa using hq)
      exact ⟨_, .s ho2 hs2 d2 h2⟩
/-- What stands in a cell. -/
def At (T : Store) (o p : Nat) (w : V) : Prop := ∃ s cs, T.get o = some (s, cs) ∧ cs[p]? = some w
theorem At.write {T : Store} {o p o' s q a b c : Nat} {cs : List V} {u v : V} (h : At T o p (.slice a b c)) (hg : T.get o' = some (s, cs)) (hq : cs[q]? = some u) (hu : u.closed1 = true) : At (T.upd o' (s, cs.set q v)) o p (.slice a b c) := by
  obtain ⟨s1, cs1, h1, h2⟩ := h
  by_cases e : o = o'
  · subst e
    rw [hg] at h1
    cases h1
    refine ⟨s, cs.set q v, upd_new, ?_⟩
    have hne : q ≠ p := fun e => by
      subst e
      rw [hq] at h2
      cases h2
      simp [V.closed1] at hu
    rw [List.getElem?_set_ne hne]; exact h2
  · exact ⟨s1, cs1, by rw [upd_old e]; exact h1, h2⟩
/-- Bounds on lists in a value. -/
inductive Lim : V → Prop
  | c {x : V} (h : ∀ ys, x ≠ .list ys) : Lim x
  | l {ys : List V} (h : ys.length ≤ 140737488355328) (k : ∀ y ∈ ys, ∀ z ∈ y.cells, Lim z) : Lim (.list ys)
def LimO (T : Store) (ids : List Nat) : Prop := ∀ o ∈ ids, ∀ w cs, T.get o = some (w, cs) → cs.length ≤ 140737488355328 * w
theorem OwL.lim {T : Store} {us : List Ty} {cs zs : List V} {ii : List Nat} (h : OwL T us cs zs ii) : (∀ z ∈ zs, Lim z) → LimO T ii := by
  induction h with
  | nil => intro _ o ho; simp at ho
  | c _ _ ih => exact fun hz => ih fun z hz' => hz z (by simp [hz'])
  | @s tys ts rs xs cells ys i j o ho hs d t ihd iht =>
    intro hz
    have h1 : Lim (.list ys) := hz _ (by simp)
    cases h1 with
    | c h => exact absurd rfl (h ys)
    | l hl hk =>
      intro o' ho' w cs hg
      rcases List.mem_cons.1 ho' with rfl | h2
      · rw [ho] at hg
        cases hg
        rw [d.len.1, reps_len]
        exact Nat.mul_le_mul_right _ hl
      · rcases List.mem_append.1 h2 with h2 | h2
        · refine ihd (fun z hz' => ?_) o' h2 w cs hg
          obtain ⟨y, hy, hzy⟩ := List.mem_flatMap.1 hz'
          exact hk y hy z hzy
        · exact iht (fun z hz' => hz z (by simp [hz'])) o' h2 w cs hg
theorem lim_vint {l : List Int} (h : l.length ≤ 140737488355328) : Lim (vl vint l) := by
  refine .l (by simpa using h) fun y hy z hz => ?_
  obtain ⟨i, _, rfl⟩ := List.mem_map.1 hy
  simp only [vint, V.cells, List.mem_singleton] at hz
  subst hz
  exact .c fun _ e => by cases e
theorem lim_block {b : Ss.Block} (h : b.Fits) : ∀ z ∈ (encBlock b).cells, Lim z := by
  obtain ⟨hp, ⟨hc, hc2⟩, _, _, ⟨ht, ht2⟩, hr⟩ := h
  intro z hz
  simp only [encBlock, V.cells, List.mem_cons, List.not_mem_nil, or_false] at hz
  rcases hz with rfl | rfl | rfl | rfl | rfl | rfl
  · exact lim_vint hp.1
  · refine .l (by simpa using hc) fun y hy z hz => ?_
    obtain ⟨x, hx, rfl⟩ := List.mem_map.1 hy
    obtain ⟨_, _, ha, ho⟩ := hc2 x hx
    simp only [encIns, V.cells, List.mem_cons, List.not_mem_nil, or_false] at hz
    rcases hz with rfl | rfl | rfl | rfl
    · exact .c fun _ e => by cases e
    · exact .c fun _ e => by cases e
    · exact lim_vint ha.1
    · exact lim_vint ho.1
  · exact .c fun _ e => by cases e
  · exact .c fun _ e => by cases e
  · refine .l (by simpa using ht) fun y hy z hz => ?_
    obtain ⟨x, hx, rfl⟩ := List.mem_map.1 hy
    obtain ⟨_, ha⟩ := ht2 x hx
    simp only [encEdge, V.cells, List.mem_cons, List.not_mem_nil, or_false] at hz
    rcases hz with rfl | rfl
    · exact .c fun _ e => by cases e
    · exact lim_vint ha.1
  · exact lim_vint hr.1
/-- The shape of what is owned, in a store that turns. -/
structure Shp (S T0 : Store) (ob n : Nat) (ids : List Nat) (T1 : Store) : Prop where
  nx : T1.nx = T0.nx
  wf : T1.Wf
  old : ∀ o, o < S.nx → T1.get o = S.get o
  own : ∃ cells xs, T1.get ob = some (6, cells) ∧ OwL T1 (reps n blkD) cells xs ids
  lim : LimO T1 ids
theorem Shp.write {S T0 T1 : Store} {ob n o s q : Nat} {ids : List Nat} {cs : List V} {u v : V} (h : Shp S T0 ob n ids T1) (hnd : (ob :: ids).Nodup) (hid : ∀ o ∈ ob :: ids, S.nx ≤ o ∧ o < T0.nx) (ho : o ∈ ob :: ids) (hg : T1.get o = some (s, cs)) (hq : cs[q]? = some u) (hu : u.closed1 = true) (hv : v.closed1 = true) :
    Shp S T0 ob n ids (T1.upd o (s, cs.set q v)) := by
  obtain ⟨h1, h2, h3, ⟨cells, xs, h4, h5⟩, h7⟩ := h
  have hon := hid o ho
  have hcw : V.idsL (fun o => decide (o < T1.nx)) (cs.set q v) = true := by
    have := h2.ids o _ hg
    simp only [idsL_eq, List.all_eq_true] at this ⊢
    intro x hx
    rcases List.mem_or_eq_of_mem_set hx with hx | rfl
    · exact this x hx
    · exact closed1_ids hv _
  refine ⟨h1, upd_wf h2 (by omega) hcw, fun o' ho' => ?_, ?_, fun o' ho' w c hgo => ?_⟩
  · rw [upd_old (by omega)]; exact h3 o' ho'
  · have hn2 := List.nodup_cons.1 hnd
    by_cases e : o = ob
    · subst e
      rw [hg] at h4
      cases h4
      obtain ⟨xs', h6⟩ := h5.cell hu hv hq
      exact ⟨cs.set q v, xs', upd_new, h6.mono fun o' ho' => upd_old fun e => hn2.1 (e ▸ ho')⟩
    · obtain ⟨xs', h6⟩ := h5.write hg hq hu hv hn2.2
      exact ⟨cells, xs', by rw [upd_old (fun e' => e e'.symm)]; exact h4, h6⟩
  · by_cases e : o' = o
    · subst e
      rw [upd_new] at hgo
      cases hgo
      rw [List.length_set]
      exact h7 o' ho' _ _ hg
    · rw [upd_old e] at hgo
      exact h7 o' ho' w c hgo
theorem insD_inv {T : Store} {r x : List V} {ii : List Nat} (h : OwL T insD r x ii) : ∃ (u v : V) (oa na ou nu : Nat) (ca : List V), r = [u, v, .slice oa 0 na, .slice ou 0 nu] ∧ u.closed1 = true ∧ oa ∈ ii ∧ T.get oa = some (1, ca) ∧ ca.length = na ∧ ∀ c ∈ ca, c.closed1 = true := by
  cases h with
  | c h1 h => cases h with
    | c h2 h => cases h with
      | @s _ _ _ _ ca ys i j oa ho hs d h => cases h with
        | s ho2 hs2 d2 h => cases h with
          | nil =>
            have hl : ca.length = ys.length := by rw [d.len.1, reps_len]; simp
            have e := own_closed (n := ys.length * 1) (by rw [← reps_c]; exact d)
            exact ⟨_, _, oa, _, _, _, ca, rfl, h1, by simp, ho, hl, by rw [e.1]; exact d.closed⟩
theorem edgeD_inv {T : Store} {r x : List V} {ii : List Nat} (h : OwL T edgeD r x ii) : ∃ (u : V) (oa na : Nat), r = [u, .slice oa 0 na] ∧ u.closed1 = true := by
  cases h with
  | c h1 h => cases h with
    | s ho hs d h => cases h with
      | nil => exact ⟨_, _, _, rfl, h1⟩
theorem blkD_inv {T : Store} {r x : List V} {ii : List Nat} (h : OwL T blkD r x ii) : ∃ (op np oc nc oe ne : Nat) (u a z : V) (cc ce xi xe : List V) (ci ei : List Nat), r = [.slice op 0 np, .slice oc 0 nc, u, a, .slice oe 0 ne, z] ∧ u.closed1 = true ∧ oc ∈ ii ∧ T.get oc = some (4, cc) ∧ OwL T (reps nc insD) cc xi ci ∧ (∀ o ∈ ci, o ∈ ii) ∧
    oe ∈ ii ∧ T.get oe = some (2, ce) ∧ OwL T (reps ne edgeD) ce xe ei := by
  cases h with
  | s ho hs d h => cases h with
    | s ho2 hs2 d2 h => cases h with
      | c h1 h => cases h with
        | c h2 h => cases h with
          | s ho3 hs3 d3 h => cases h with
            | c h3 h => cases h with
              | nil => exact ⟨_, _, _, _, _, _, _, _, _, _, _, _, _, _, _, rfl, h1, by simp, ho2, d2, fun o ho => by simp [ho], by simp, ho3, d3⟩
theorem mid_get {c1 r c2 : List V} {i m p : Nat} {w : V} (hc : c1.length = i * m) (hr : r[p]? = some w) : (c1 ++ (r ++ c2))[i * m + p]? = some w := by
  have hp : p < r.length := (List.getElem?_eq_some_iff.1 hr).1
  rw [← hc, List.getElem?_append_right (by omega), Nat.add_sub_cancel_left, List.getElem?_append_left hp]
  exact hr
/-- What a block's cells are. -/
theorem Shp.block {S T0 T1 : Store} {ob n k : Nat} {ids : List Nat} (h : Shp S T0 ob n ids T1) (hk : k < n) : ∃ (cells : List V) (oc nc oe ne : Nat) (u : V) (cc ce : List V), T1.get ob = some (6, cells) ∧ cells[k * 6 + 1]? = some (.slice oc 0 nc) ∧ cells[k * 6 + 2]? = some u ∧ u.closed1 = true ∧ cells[k * 6 + 4]? = some (.slice oe 0 ne) ∧
    oc ∈ ids ∧ T1.get oc = some (4, cc) ∧ oe ∈ ids ∧ T1.get oe = some (2, ce) ∧ nc ≤ 140737488355328 ∧ ne ≤ 140737488355328 ∧ (∀ j < nc, ∃ (u : V) (oa na : Nat) (ca : List V), cc[j * 4]? = some u ∧ u.closed1 = true ∧ cc[j * 4 + 2]? = some (.slice oa 0 na) ∧ oa ∈ ids ∧ T1.get oa = some (1, ca) ∧ ca.length = na ∧ na ≤ 140737488355328 ∧ ∀ c ∈ ca, c.closed1 = true) ∧ ∀ q < ne, ∃ u : V, ce[q * 2]? = some u ∧ u.closed1 = true := by
  obtain ⟨cells, xs, h4, h5⟩ := h.own
  obtain ⟨c1, r, c2, x1, x, x2, i1, ii, i2, rfl, hl, rfl, rfl, k1, k2, k3⟩ := h5.elem hk
  obtain ⟨op, np, oc, nc, oe, ne, u, a, z, cc, ce, xi, xe, ci, ei, rfl, hu, hoc, hcc, hci, hcs, hoe, hce, hei⟩ := blkD_inv k2
  refine ⟨_, oc, nc, oe, ne, u, cc, ce, h4, mid_get (m := 6) (p := 1) hl rfl, mid_get (m := 6) (p := 2) hl rfl, hu, mid_get (m := 6) (p := 4) hl rfl, by simp [hoc], hcc, by simp [hoe], hce, ?_, ?_, fun j hj => ?_, fun q hq => ?_⟩
  · have h8 := h.lim oc (by simp [hoc]) _ _ hcc
    have h9 : cc.length = nc * 4 := by rw [hci.len.1, reps_len]; rfl
    omega
  · have h8 := h.lim oe (by simp [hoe]) _ _ hce
    have h9 : ce.length = ne * 2 := by rw [hei.len.1, reps_len]; rfl
    omega
  · obtain ⟨d1, s, d2, y1, y, y2, j1, jj, j2, rfl, hl2, rfl, rfl, m1, m2, m3⟩ := hci.elem hj
    obtain ⟨u', v', oa, na, ou, nu, ca, rfl, hu', hoa, hca, hcl, hcc'⟩ := insD_inv m2
    exact ⟨u', oa, na, ca, by have := mid_get (m := 4) (p := 0) (c2 := d2) hl2 (r := [u', v', .slice oa 0 na, .slice ou 0 nu]) rfl; simpa using this, hu', mid_get (m := 4) (p := 2) hl2 rfl, by have := hcs oa (by simp [hoa]); simp [this], hca, hcl, by have := h.lim oa (by have := hcs oa (by simp [hoa]); simp [this]) _ _ hca; omega, hcc'⟩
  · obtain ⟨d1, s, d2, y1, y, y2, j1, jj, j2, rfl, hl2, rfl, rfl, m1, m2, m3⟩ := hei.elem hq
    obtain ⟨u', oa, na, rfl, hu'⟩ := edgeD_inv m2
    exact ⟨u', by have := mid_get (m := 2) (p := 0) (c2 := d2) hl2 (r := [u', .slice oa 0 na]) rfl; simpa using this, hu'⟩
theorem At.same {T : Store} {o p s : Nat} {cs : List V} {w w' : V} (h : At T o p w) (hg : T.get o = some (s, cs)) (hw : cs[p]? = some w') : w' = w := by
  obtain ⟨s1, cs1, h1, h2⟩ := h
  rw [hg] at h1
  cases h1
  rw [hw] at h2
  exact Option.some.inj h2
theorem St_updB {B : Store} {o : Nat} {c : Nat × List V} {l : List (Option (Nat × List V))} (ho : o < B.nx) : (St B [] l).upd o c = St (B.upd o c) [] l := by
  refine Store.ext' (funext fun o' => ?_) rfl
  have e : (B.upd o c).nx = B.nx := rfl
  rw [upd_at, St_at, St_at, e, upd_at]
  by_cases h : o' = o
  · subst h; simp [ho, uGet]
  · by_cases h2 : o' < B.nx
    · simp [h, h2, uGet]
    · simp [h, h2, uGet]
/-- A base that was written to. -/
theorem St_updBase {B : Store} {o : Nat} {c : Nat × List V} {l : List (Option (Nat × List V))} (ho : o < B.nx) : St B [(o, some c)] l = St (B.upd o c) [] l := by
  refine Store.ext' (funext fun o' => ?_) rfl
  rw [St_at, St_at]
  have e : (B.upd o c).nx = B.nx := rfl
  rw [e]
  by_cases h : o' < B.nx
  · rw [if_pos h, if_pos h, upd_at]
    simp only [uGet]
  · rw [if_neg h, if_neg h]
end Go.Vw
