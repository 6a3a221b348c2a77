import Derived.Test.YtmfpoangempgaaaGreatC18
import Derived.Test.YtmfpoangempgaaaGreatC23
import Derived.Test.YtmfpoangempgaaaGreatC14
import Derived.Test.YtmfpoangempgaaaGreatC30
import Derived.Test.YtmfpoangempgaaaGreatC29
import Derived.Test.YtmfpoangempgaaaGreatC16
/-
  Part of the proof (texts SBlk, SSame2, SAlive, CCirc).
-/
set_option linter.unusedVariables false
set_option linter.unusedSimpArgs false
namespace Go.Vw
open Go.Proofs Go.RowKit
set_option maxRecDepth 10000
set_option maxHeartbeats 8000000

theorem EqIns_v (l m : List Ss.Ins) (hl : l.length < 2^63) (hm : ∀ x ∈ l, x.Fits) : VPure Tryz.prog 87 [vl encIns l, vl encIns m, .func 88 []] (.bool (decide (l = m))) := by
  rw [← eqF_dec]
  exact EqFN_v l m _ _ rfl hl fun _ k h1 h2 => sameIns_v _ _ (by have := (hm _ (List.getElem_mem h1)).2.2.1.1; omega) (by have := (hm _ (List.getElem_mem h1)).2.2.2.1; omega)
theorem EqEdge_v (l m : List Ss.Edge) (hl : l.length < 2^63) (hm : ∀ x ∈ l, x.Fits) : VPure Tryz.prog 89 [vl encEdge l, vl encEdge m, .func 90 []] (.bool (decide (l = m))) := by
  rw [← eqF_dec]
  exact EqFE_v l m _ _ rfl hl fun _ k h1 h2 => sameEdge_v _ _ (by have := (hm _ (List.getElem_mem h1)).2.1; omega)

theorem sameBlock_v (x y : Ss.Block) (hx : x.Fits) : VPure Tryz.prog 64 [encBlock x, encBlock y] (.bool (decide (x = y))) := by
  intro S
  obtain ⟨a1, a2, ⟨a3, a4, a5, a6⟩⟩ := x
  obtain ⟨b1, b2, ⟨b3, b4, b5, b6⟩⟩ := y
  obtain ⟨⟨f1, _⟩, ⟨f2, f3⟩, _, _, ⟨f4, f5⟩, ⟨f6, _⟩⟩ := hx
  simp only at f1 f2 f3 f4 f5 f6
  simp only [Ss.Block.mk.injEq, Ss.Term.mk.injEq] at *
  have g1 : a1.length < 2^63 := by omega
  have g2 : a2.length < 2^63 := by omega
  have g5 : a5.length < 2^63 := by omega
  have g6 : a6.length < 2^63 := by omega
  refine vcalls_start (c := bodyOf Tryz.f64) Tryz.func64 rfl rfl (by simp [Tryz.ntmps64]) ?_
  rw [Tryz.ntmps64]
  intro hwf
  repeat (first|refine QG ?_|refine QX (r:=by conv=>lhs;simp[-List.map_set,QV]) (k:=?_))
  repeat refine QS ?_
  refine vw_drawTwo (σm := ?sm) (Sm := ?Sm) (ZZ.mk _ (St S [] [some (6, [vl vint a1, vl encIns a2, vint a3, vint a4, vl encEdge a5, vl vint a6]), some (6, [vl vint b1, vl encIns b2, vint b3, vint b4, vl encEdge b5, vl vint b6])]) (St S [] [some (6, [vl vint a1, vl encIns a2, vint a3, vint a4, vl encEdge a5, vl vint a6]), some (6, [vl vint b1, vl encIns b2, vint b3, vint b4, vl encEdge b5, vl vint b6])]) []) 4 5 [0, 1, 2, 3, 4, 5, 6, 7] [0, 1, 2, 3, 5, 4, 6, 7] rfl (by kernel_rfl) (by conv => lhs; reduce) (by kernel_rfl) (by decide) (by kernel_rfl) (by kernel_rfl) (by kernel_rfl) (by kernel_rfl) (by kernel_rfl) (by kernel_rfl) rfl (ok_St (by simp [subU, shpU, subL, shpL])) (Store.sub_refl _) (by conv => lhs; reduce) (by conv => lhs; reduce) ?H1 ?H2 ?H3
  case H1 =>
    refine QM (by conv=>lhs;simp[-List.map_set,QV]) ?_
    refine vseg_write rfl (by conv=>lhs;simp[-List.map_set,QV]) (ok_St (by simp [subU, shpU, subL, shpL])) ?_
    refine vseg_write rfl (by conv=>lhs;simp[-List.map_set,QV]) (ok_St (by simp [subU, shpU, subL, shpL])) ?_
    refine vseg_write rfl (by conv=>lhs;simp[-List.map_set,QV]) (ok_St (by simp [subU, shpU, subL, shpL])) ?_
    refine vseg_write rfl (by conv=>lhs;simp[-List.map_set,QV]) (ok_St (by simp [subU, shpU, subL, shpL])) ?_
    refine QN ?_
    refine reach_only [2, 3, 5, 6] (Eq.trans (b := ?_) ?_ rfl)
    rotate_left
    conv => lhs; simp [Fr.only, Fr.look]
  case H2 =>
    refine QM (by conv=>lhs;simp[-List.map_set,QV]) ?_
    refine vseg_write rfl (by conv=>lhs;simp[-List.map_set,QV]) (ok_St (by simp [subU, shpU, subL, shpL])) ?_
    refine vseg_write rfl (by conv=>lhs;simp[-List.map_set,QV]) (ok_St (by simp [subU, shpU, subL, shpL])) ?_
    refine vseg_write rfl (by conv=>lhs;simp[-List.map_set,QV]) (ok_St (by simp [subU, shpU, subL, shpL])) ?_
    refine vseg_write rfl (by conv=>lhs;simp[-List.map_set,QV]) (ok_St (by simp [subU, shpU, subL, shpL])) ?_
    refine QN ?_
    exact reach_swap [2, 3, 5, 6] [0, 1, 3, 2] (by conv => lhs; simp [Fr.only, Fr.look]) hwf (by decide) (by simp [-List.map_set]) (by conv => lhs; simp [-List.map_set]) (by conv => lhs; simp [-List.map_set]) (by conv => lhs; simp [-List.map_set])
  repeat (first|refine QG ?_|refine QX (r:=by conv=>lhs;simp[-List.map_set,QV]) (k:=?_))
  repeat refine QS ?_
  refine QR (r:=by conv=>lhs;simp[-List.map_set,QV]) (k:=?_)
  refine vcall_use rfl (Equal_v a1 b1 g1) ?_
  by_cases h1 : a1 = b1
  · refine QM (by conv=>lhs;simp[-List.map_set,QV,h1]) ?_
    refine vcall_use rfl (EqIns_v a2 b2 g2 f3) ?_
    by_cases h2 : a2 = b2
    · by_cases h3 : a3 = b3
      · by_cases h4 : a4 = b4
        · refine QM (by conv=>lhs;simp[-List.map_set,QV,h2,h3,h4]) ?_
          refine vcall_use rfl (Equal_v a6 b6 g6) ?_
          by_cases h6 : a6 = b6
          · refine QM (by conv=>lhs;simp[-List.map_set,QV,h6]) ?_
            refine vcall_use rfl (EqEdge_v a5 b5 g5 f5) ?_
            refine QM (by conv=>lhs;simp[-List.map_set,QV]) ?_
            refine QN ?_
            repeat (first|refine QG ?_|refine QX (r:=by conv=>lhs;simp[-List.map_set,QV]) (k:=?_))
            exact done_pure hwf (by simp [h1, h2, h3, h4, h6]) rfl
          · refine QM (by conv=>lhs;simp[-List.map_set,QV,h6]) ?_
            refine QN ?_
            repeat (first|refine QG ?_|refine QX (r:=by conv=>lhs;simp[-List.map_set,QV]) (k:=?_))
            exact done_pure hwf (by simp [h6]) rfl
        · refine QM (by conv=>lhs;simp[-List.map_set,QV,h2,h3,h4]) ?_
          refine QN ?_
          repeat (first|refine QG ?_|refine QX (r:=by conv=>lhs;simp[-List.map_set,QV]) (k:=?_))
          exact done_pure hwf (by simp [h4]) rfl
      · refine QM (by conv=>lhs;simp[-List.map_set,QV,h2,h3]) ?_
        refine QN ?_
        repeat (first|refine QG ?_|refine QX (r:=by conv=>lhs;simp[-List.map_set,QV]) (k:=?_))
        exact done_pure hwf (by simp [h3]) rfl
    · refine QM (by conv=>lhs;simp[-List.map_set,QV,h2]) ?_
      refine QN ?_
      repeat (first|refine QG ?_|refine QX (r:=by conv=>lhs;simp[-List.map_set,QV]) (k:=?_))
      exact done_pure hwf (by simp [h2]) rfl
  · refine QM (by conv=>lhs;simp[-List.map_set,QV,h1]) ?_
    refine QN ?_
    repeat (first|refine QG ?_|refine QX (r:=by conv=>lhs;simp[-List.map_set,QV]) (k:=?_))
    exact done_pure hwf (by simp [h1]) rfl

end Go.Vw

namespace Go.Vw
open Go.Proofs Go.RowKit
set_option maxRecDepth 10000
set_option maxHeartbeats 2000000

theorem EqBlock_v (l m : List Ss.Block) (hl : l.length < 2^63) (hm : ∀ x ∈ l, x.Fits) : VPure Tryz.prog 63 [vl encBlock l, vl encBlock m, .func 64 []] (.bool (decide (l = m))) := by
  rw [← eqF_dec]
  exact EqFB_v l m _ _ rfl hl fun _ k h1 h2 => sameBlock_v _ _ (hm _ (List.getElem_mem h1))

/-- The same functions, both short enough. -/
def sameFn (f g : Ss.Fn) : Bool := f.small && g.small && decide (f = g)

theorem Same_v (f g : Ss.Fn) (hf : f.Fits) (hg : g.Fits) : VPure Tryz.prog 39 [encFn f, encFn g] (.bool (sameFn f g)) := by
  intro S
  have cf := small_v f hf
  have cg := small_v g hg
  unfold sameFn
  obtain ⟨⟨⟨f1, _⟩, ⟨f2, _⟩⟩, ⟨f3, _⟩, ⟨f4, f5⟩⟩ := hf
  generalize f.small = sf at *
  generalize g.small = sg at *
  obtain ⟨⟨a1, a2⟩, a3, a4⟩ := f
  obtain ⟨⟨b1, b2⟩, b3, b4⟩ := g
  simp only at f1 f2 f3 f4 f5
  simp only [Ss.Fn.mk.injEq, Ss.Sig.mk.injEq]
  have cf' : VPure Tryz.prog 15 [.agg [vl vint a1, vl vint a2, vl vint a3, vl encBlock a4]] (.bool sf) := cf
  have cg' : VPure Tryz.prog 15 [.agg [vl vint b1, vl vint b2, vl vint b3, vl encBlock b4]] (.bool sg) := cg
  have g1 : a1.length < 2^63 := by omega
  have g2 : a2.length < 2^63 := by omega
  have g3 : a3.length < 2^63 := by omega
  have g4 : a4.length < 2^63 := by omega
  generalize hX : (sf && sg && decide ((a1 = b1 ∧ a2 = b2) ∧ a3 = b3 ∧ a4 = b4)) = X
  refine vcalls_start (c := bodyOf Tryz.f39) Tryz.func39 rfl rfl (by simp [Tryz.ntmps39]) ?_
  rw [Tryz.ntmps39]
  intro hwf
  repeat (first|refine QG ?_|refine QX (r:=by conv=>lhs;simp[-List.map_set,QV]) (k:=?_))
  repeat refine QS ?_
  refine QR (r:=by conv=>lhs;simp[-List.map_set,QV]) (k:=?_)
  refine vcall_useH (cf') (by rfl) ?_
  by_cases hsf : sf = true
  case neg =>
    have hsf' : sf = false := by simpa using hsf
    refine QM (by conv=>lhs;simp[-List.map_set,QV,hsf']) ?_
    refine QN ?_
    repeat (first|refine QG ?_|refine QX (r:=by conv=>lhs;simp[-List.map_set,QV]) (k:=?_))
    exact done_pure hwf (by simp [← hX, hsf']) rfl
  refine QM (by conv=>lhs;simp[-List.map_set,QV,hsf]) ?_
  refine vcall_useH (cg') (by rfl) ?_
  by_cases hsg : sg = true
  case neg =>
    have hsg' : sg = false := by simpa using hsg
    refine QM (by conv=>lhs;simp[-List.map_set,QV,hsg']) ?_
    refine QN ?_
    repeat (first|refine QG ?_|refine QX (r:=by conv=>lhs;simp[-List.map_set,QV]) (k:=?_))
    exact done_pure hwf (by simp [← hX, hsf, hsg']) rfl
  refine QM (by conv=>lhs;simp[-List.map_set,QV,hsg]) ?_
  refine vcall_useH (Equal_v a1 b1 g1) (by rfl) ?_
  by_cases h1 : a1 = b1
  · refine QM (by conv=>lhs;simp[-List.map_set,QV,h1]) ?_
    refine vcall_useH (Equal_v a2 b2 g2) (by rfl) ?_
    by_cases h2 : a2 = b2
    · refine QM (by conv=>lhs;simp[-List.map_set,QV,h2]) ?_
      refine vcall_useH (Equal_v a3 b3 g3) (by rfl) ?_
      by_cases h3 : a3 = b3
      · refine QM (by conv=>lhs;simp[-List.map_set,QV,h3]) ?_
        refine vcall_useH (EqBlock_v a4 b4 g4 f5) (by rfl) ?_
        refine QM (by conv=>lhs;simp[-List.map_set,QV]) ?_
        refine QN ?_
        repeat (first|refine QG ?_|refine QX (r:=by conv=>lhs;simp[-List.map_set,QV]) (k:=?_))
        exact done_pure hwf (by simp [← hX, hsf, hsg, h1, h2, h3]) rfl
      · refine QM (by conv=>lhs;simp[-List.map_set,QV,h3]) ?_
        refine QN ?_
        repeat (first|refine QG ?_|refine QX (r:=by conv=>lhs;simp[-List.map_set,QV]) (k:=?_))
        exact done_pure hwf (by simp [← hX, hsf, hsg, h3]) rfl
    · refine QM (by conv=>lhs;simp[-List.map_set,QV,h2]) ?_
      refine QN ?_
      repeat (first|refine QG ?_|refine QX (r:=by conv=>lhs;simp[-List.map_set,QV]) (k:=?_))
      exact done_pure hwf (by simp [← hX, hsf, hsg, h2]) rfl
  · refine QM (by conv=>lhs;simp[-List.map_set,QV,h1]) ?_
    refine QN ?_
    repeat (first|refine QG ?_|refine QX (r:=by conv=>lhs;simp[-List.map_set,QV]) (k:=?_))
    exact done_pure hwf (by simp [← hX, hsf, hsg, h1]) rfl
end Go.Vw

namespace Ss
/-- A function that answers 5. -/
def smallF : Fn := ⟨⟨[], [127]⟩, [127], [⟨[], [⟨258, 0, [], []⟩, ⟨256, 5, [], [0]⟩], ⟨4, 0, [], [0]⟩⟩]⟩
def env0 : Env := ⟨[], 0, [], [], false⟩
end Ss
namespace Go.Vw
open Go.Proofs Go.RowKit
set_option maxRecDepth 10000
set_option maxHeartbeats 4000000

theorem Reach.nilCell {N b0 : Nat} {σ : Fr} {B : Store} {u : Upds} {l : List (Option (Nat × List V))} {k i s : Nat} {cs : List V} (hk : k < l.length) (hck : (l[k]?).join = some (s, cs)) (hi : cs[i]? = some .nils) :
    Reach N b0 σ (St B u l) σ (St B u (l.set k (some (s, cs.set i (.list []))))) := by
  have := Reach.cell (N := N) (b0 := b0) (σ := σ) (o := lid B.nx k) (i := i) (s := s) (cs := cs) (Ghost.nils_list (St B u l)) (by simp [V.one]) (by rw [St_get]; exact hck) hi (by rw [St_get]; exact hck)
  rw [St_upd hk] at this
  exact this

theorem small0_v : VPure Tryz.prog 35 [] (encFn Ss.smallF) := by
  intro S
  have hr4 : rep0 [V.int .i64 0, .int .u64 0, .nils, .nils] 2 = [.int .i64 0, .int .u64 0, .nils, .nils, .int .i64 0, .int .u64 0, .nils, .nils] := rfl
  have hr6 : rep0 [V.nils, .nils, .int .i64 0, .int .i64 0, .nils, .nils] 1 = [.nils, .nils, .int .i64 0, .int .i64 0, .nils, .nils] := rfl
  refine vcalls_startC (c := bodyOf Tryz.f35) Tryz.func35 rfl (by conv => lhs; reduce) (by simp [Tryz.ntmps35]) ?_
  rw [Tryz.ntmps35]
  intro hwf
  repeat refine QS ?_
  refine QR (r:=by conv=>lhs;simp[-List.map_set,QV]) (k:=?_)
  refine QN ?_
  repeat refine QS ?_
  refine QR (r:=by conv=>lhs;simp[-List.map_set,QV,hr4,hr6]) (k:=?_)
  refine QN ?_
  apply vw_reach
  · exact Reach.nilCell (k := 4) (i := 2) (by simp) (by rfl) (by rfl)
  simp only [List.set_cons_succ, List.set_cons_zero]
  apply vw_reach
  · exact Reach.nilCell (k := 4) (i := 3) (by simp) (by rfl) (by rfl)
  simp only [List.set_cons_succ, List.set_cons_zero]
  apply vw_reach
  · exact Reach.nilCell (k := 4) (i := 6) (by simp) (by rfl) (by rfl)
  simp only [List.set_cons_succ, List.set_cons_zero]
  apply vw_reach
  · exact Reach.frzCell (k := 4) (j := 3) (i := 7) (by decide) (by simp) (by simp) (by rfl) (by rfl) (by rfl) (by rfl) (by rfl)
  simp only [List.set_cons_succ, List.set_cons_zero]
  apply vw_reach
  · exact Reach.nilCell (k := 6) (i := 0) (by simp) (by rfl) (by rfl)
  simp only [List.set_cons_succ, List.set_cons_zero]
  apply vw_reach
  · exact Reach.nilCell (k := 6) (i := 4) (by simp) (by rfl) (by rfl)
  simp only [List.set_cons_succ, List.set_cons_zero]
  apply vw_reach
  · exact Reach.frzCellS (enc := encIns) (s := 4) (fun _ => rfl) encIns_closed (k := 6) (j := 4) (i := 1) [⟨258, 0, [], []⟩, ⟨256, 5, [], [0]⟩] (by decide) (by simp) (by simp) (by rfl) (by rfl) (by rfl)
  simp only [List.set_cons_succ, List.set_cons_zero]
  apply vw_reach
  · exact Reach.frzCell (k := 6) (j := 5) (i := 5) (by decide) (by simp) (by simp) (by rfl) (by rfl) (by rfl) (by rfl) (by rfl)
  simp only [List.set_cons_succ, List.set_cons_zero]
  apply vw_reach
  · exact Reach.nilCell (k := 0) (i := 0) (by simp) (by rfl) (by rfl)
  simp only [List.set_cons_succ, List.set_cons_zero]
  apply vw_reach
  · exact Reach.frzCell (k := 0) (j := 1) (i := 1) (by decide) (by simp) (by simp) (by rfl) (by rfl) (by rfl) (by rfl) (by rfl)
  simp only [List.set_cons_succ, List.set_cons_zero]
  apply vw_reach
  · exact Reach.frzCell (k := 0) (j := 2) (i := 2) (by decide) (by simp) (by simp) (by rfl) (by rfl) (by rfl) (by rfl) (by rfl)
  simp only [List.set_cons_succ, List.set_cons_zero]
  apply vw_reach
  · exact Reach.frzCellS (enc := encBlock) (s := 6) (fun _ => rfl) encBlock_closed (k := 0) (j := 6) (i := 3) [⟨[], [⟨258, 0, [], []⟩, ⟨256, 5, [], [0]⟩], ⟨4, 0, [], [0]⟩⟩] (by decide) (by simp) (by simp) (by rfl) (by rfl) (by rfl)
  simp only [List.set_cons_succ, List.set_cons_zero]
  repeat (first|refine QG ?_|refine QX (r:=by conv=>lhs;simp[-List.map_set,QV]) (k:=?_))
  exact doneC (by simp; rfl) (done_pure hwf (by simp [Ss.smallF, vl]) rfl)

theorem small0_fits : Ss.smallF.Fits := by
  simp [Ss.smallF, Ss.Fn.Fits, Ss.Sig.Fits, Ss.Ints, Ss.Block.Fits, Ss.Ins.Fits, Ss.Term.Fits, Ss.I64]
theorem env0_fits : Ss.env0.Fits := by
  simp [Ss.env0, Ss.Env.Fits, Ss.Ints, Ss.I64]
theorem small0_small : Ss.smallF.small = true := by decide
theorem small0_used : Ss.usedOf Ss.smallF = [true] := by decide
theorem small0_defs : Ss.defsOf Ss.smallF = some [⟨true, 0, 1⟩] := by decide
theorem small0_succs : Ss.succs Ss.smallF.blocks = [[]] := by decide
theorem small0_rings : Ss.rings Ss.smallF.blocks [[]] = false := by
  simp [Ss.rings, Ss.smallF, Ss.tickB, Ss.ringM, Ss.ringW, List.range_succ]
theorem small0_shape : Ss.shapeOk Ss.smallF = true := by
  have h1 : G.right [[]] = true := by decide
  have h2 : G.ordI [[]] = [0] := by decide
  have h3 : G.nats [[]] = [[]] := rfl
  simp only [Ss.shapeOk, small0_succs, h1, h2, h3, small0_rings]
  decide
theorem small0_check : Ss.check Ss.env0 Ss.smallF = true := by
  have h1 : Ss.checkHead Ss.env0 Ss.smallF = true := by decide
  simp only [Ss.check, h1, small0_defs, small0_shape, Bool.true_and]
  generalize G.nearI (Ss.succs Ss.smallF.blocks) = near
  simp [Ss.smallF, Ss.checkBlocks, Ss.checkCode, Ss.insOk, Ss.form, Ss.insOut, Ss.typesOf, Ss.asks, eqF, Ss.termOk, Ss.termHead, Ss.termTail, Ss.branches, Ss.askOk]
end Go.Vw

namespace Ss
/-- From a number every way ends. -/
inductive Ends (G : List (List Nat)) : Nat → Prop
  | mk (i : Nat) (h : ∀ k ∈ G.getD i [], Ends G k) : Ends G i
/-- Rows without those of blocks that tick. -/
def msk (bs : List Block) (G : List (List Nat)) : List (List Nat) := List.zipWith (fun b r => if tickB b then [] else r) bs G
theorem msk_len {bs : List Block} {G : List (List Nat)} (h : G.length = bs.length) : (msk bs G).length = bs.length := by simp [msk, h]
theorem part_set {α : Type} {M G : List α} {k : Nat} (h1 : k < M.length) (h2 : k < G.length) (x : α) (hx : x = M[k]) : (M.take k ++ G.drop k).set k x = M.take (k + 1) ++ G.drop (k + 1) := by
  subst hx
  rw [List.drop_eq_getElem_cons h2, List.set_append_right _ _ (by simp; omega)]
  have e : k - (M.take k).length = 0 := by simp; omega
  rw [e, List.set_cons_zero, List.take_succ_eq_append_getElem h1, List.append_assoc]
  rfl
theorem part_same {α : Type} {M G : List α} {k : Nat} (h1 : k < M.length) (h2 : k < G.length) (hx : M[k] = G[k]) : M.take k ++ G.drop k = M.take (k + 1) ++ G.drop (k + 1) := by
  rw [List.drop_eq_getElem_cons h2, List.take_succ_eq_append_getElem h1, List.append_assoc, hx]
  rfl
theorem part_get {α : Type} {M G : List α} {k : Nat} (h1 : k ≤ M.length) (h2 : k < G.length) : (M.take k ++ G.drop k)[k]? = some G[k] := by
  rw [List.getElem?_append_right (by simp; omega)]
  have e : k - (M.take k).length = 0 := by simp; omega
  rw [e]; simp [h2]
def fals : List Bool → Nat
  | [] => 0
  | b :: bs => (if b then 0 else 1) + fals bs
theorem fals_set : ∀ {l : List Bool} {i : Nat}, l[i]? = some false → fals (l.set i true) + 1 = fals l
  | [], i, h => by simp at h
  | b :: bs, 0, h => by
    have hb : b = false := by simpa using h
    simp only [hb, List.set_cons_zero, fals]; simp; omega
  | b :: bs, i + 1, h => by
    have := fals_set (l := bs) (i := i) (by simpa using h)
    simp only [List.set_cons_succ, fals]; omega
/-- Gone numbers end; what is left goes on. -/
structure GoneOk (M : List (List Nat)) (gone : List Bool) : Prop where
  len : gone.length = M.length
  ends : ∀ i, gone[i]? = some true → Ends M i
def Shut (M : List (List Nat)) (gone : List Bool) (i : Nat) : Prop := (∀ k ∈ M.getD i [], gone.getD k false = true) → gone.getD i false = true
theorem shut_ends {M : List (List Nat)} {gone : List Bool} (h : ∀ i < M.length, Shut M gone i) (hr : ∀ r ∈ M, ∀ k ∈ r, k < M.length) {i : Nat} (he : Ends M i) : i < M.length → gone.getD i false = true := by
  induction he with
  | mk i _ ih =>
    intro hi
    refine h i hi fun k hk => ih k hk ?_
    have e : M.getD i [] = M[i] := by simp [hi]
    rw [e] at hk
    exact hr _ (List.getElem_mem hi) k hk
end Ss
namespace Go.Vw
open Go.Proofs Go.RowKit
set_option maxRecDepth 10000
set_option maxHeartbeats 8000000

theorem doneB {S : Store} {l : List (Option (Nat × List V))} (hwf : S.Wf) (b : Bool) {p : Bool → Prop} (hp : p b) : PostB S.nx (fun r T => ∃ b, r = .bool b ∧ p b ∧ T = S) (.bool b) (St S [] l) := by
  obtain ⟨x, S', hg, h1, h2⟩ := done_pure (l := l) (r := .bool b) hwf rfl rfl
  exact ⟨x, S', hg, b, h1, hp, h2⟩
theorem any_take {α : Type} (p : α → Bool) {l : List α} {j : Nat} (h : j < l.length) : (l.take (j + 1)).any p = ((l.take j).any p || p l[j]) := by
  rw [List.take_add_one, List.getElem?_eq_getElem h, List.any_append]; simp
theorem St_St0 {B : Store} {u : Upds} {l : List (Option (Nat × List V))} {d : Nat × List V} : St (St B u l) [] [some d] = (St B u l).add d := by
  refine Store.ext' (funext fun o' => ?_) rfl
  rw [St_at, add_at]
  by_cases h : o' < (St B u l).nx
  · rw [if_pos h, if_neg (by omega)]
    simp only [uGet]
  · rw [if_neg h]
    by_cases e : o' = (St B u l).nx
    · subst e
      rw [if_pos rfl]; simp
    · rw [if_neg e, St_at]
      have hnx : (St B u l).nx = B.nx + l.length := by rw [St_nx]; rfl
      rw [if_neg (by omega), List.getElem?_eq_none (l := l) (by omega), List.getElem?_eq_none (by rw [List.length_singleton]; omega)]
theorem circles_v (f : Ss.Fn) (hf : f.Fits) (hs : f.small = true) (G : List (List Nat)) (hG : (Ss.succs f.blocks).map (vl vint) = G.map (vl vnat)) (hrow : ∀ r ∈ G, r.length < 2^62 ∧ ∀ k ∈ r, k < G.length) (S : Store) :
    VCalls Tryz.prog 30 [encFn f] S (fun r T => ∃ b, r = .bool b ∧ (b = false ↔ ∀ i < G.length, Ss.Ends (Ss.msk f.blocks G) i) ∧ T = S) := by
  have hso := fun S => RSuccO_v S f hf hs
  have hGl : G.length = f.blocks.length := by have := congrArg List.length hG; simpa [Ss.succs] using this.symm
  obtain ⟨_, hbl, hbf, _⟩ := small_blocks hs
  have htv : ∀ (k : Nat) (h : k < f.blocks.length), VPure Tryz.prog 58 [encBlock f.blocks[k]] (.bool (Ss.tickB f.blocks[k])) := fun k h => ticks_v _ (by have := (hbf _ (List.getElem_mem h)).2.2; omega)
  rw [hG] at hso
  obtain ⟨⟨fi, fo⟩, ts, bs⟩ := f
  simp only at hGl hbl hso htv ⊢
  obtain ⟨M, hM⟩ : ∃ M, Ss.msk bs G = M := ⟨_, rfl⟩
  have hMl : M.length = bs.length := by rw [← hM]; exact Ss.msk_len hGl
  have hMk : ∀ (k : Nat) (h1 : k < bs.length) (h2 : k < G.length) (h3 : k < M.length), M[k] = if Ss.tickB bs[k] then [] else G[k] := fun k h1 h2 h3 => by simp [← hM, Ss.msk]
  rw [hM]
  clear hG
  refine vcalls_start (c := bodyOf Tryz.f30) Tryz.func30 rfl rfl (by simp [Tryz.ntmps30]) ?_
  rw [Tryz.ntmps30]
  intro hwf
  repeat (first|refine QG ?_|refine QX (r:=by conv=>lhs;simp[-List.map_set,QV]) (k:=?_))
  repeat refine QS ?_
  refine QR (r:=by conv=>lhs;simp[-List.map_set,QV]) (k:=?_)
  refine vcall_any (xs := [.agg [vl vint fi, vl vint fo, vl vint ts, vl encBlock bs]]) rfl (hso _) ?_
  rintro X S' ⟨rfl, rfl⟩
  rw [St_St0, St_add, St_nx, lid_lid]
  simp only [List.cons_append, List.nil_append, List.length_cons, List.length_nil, Nat.zero_add, Nat.add_zero]
  refine QM (by conv=>lhs;simp[-List.map_set,QV]) ?_
  refine QN ?_
  repeat (first|refine QG ?_|refine QX (r:=by conv=>lhs;simp[-List.map_set,QV]) (k:=?_))
  repeat refine QS ?_
  refine vw_loopAt [1, 3, 4] rfl (fun c σ S' => ∃ (k : Nat), k ≤ bs.length ∧ c = bs.length - k ∧ σ = [(1, .ptr (lid S.nx 0) 0), (3, .slice (lid S.nx 1) 0 bs.length), (4, vnat k)] ∧ S' = St S [] [some (4, [vl vint fi, vl vint fo, vl vint ts, vl encBlock bs]), some (1, (M.take k ++ G.drop k).map (vl vnat))]) bs.length ?_ ?_
  · exact ⟨0, by omega, rfl, by simp [Fr.only], by simp⟩
  · rintro c σ T ⟨k, hk, rfl, rfl, rfl⟩
    by_cases hkt : k < bs.length
    · have hw := wrapNat hkt (by omega)
      have hkG : k < G.length := by omega
      have hkM : k < M.length := by omega
      have h1 := hMk k hkt hkG hkM
      have hget := Ss.part_get (M := M) (G := G) (k := k) (by omega) hkG
      have hset := Ss.part_set (M := M) (G := G) hkM hkG
      have hsame := Ss.part_same (M := M) (G := G) hkM hkG
      have hRl : (M.take k ++ G.drop k).length = bs.length := by simp; omega
      generalize M.take k ++ G.drop k = R at *
      have ct := htv k hkt
      obtain ⟨⟨ps, code, ⟨tk, ta, to, az⟩⟩, hx⟩ : ∃ b, bs[k] = b := ⟨_, rfl⟩
      rw [hx] at ct h1
      generalize Ss.tickB ⟨ps, code, ⟨tk, ta, to, az⟩⟩ = tb at *
      have ct' : VPure Tryz.prog 58 [.agg [vl vint ps, vl encIns code, .int .i64 tk, .int .i64 ta, vl encEdge to, vl vint az]] (.bool tb) := ct
      repeat (first|refine QG ?_|refine QX (r:=by conv=>lhs;simp[-List.map_set,QV,hkt,hx]) (k:=?_))
      repeat refine QS ?_
      refine QR (r:=by conv=>lhs;simp[-List.map_set,QV,hkt,hx]) (k:=?_)
      refine vcall_useH (ct') (by rfl) ?_
      by_cases htb : tb = true
      · rw [htb, if_pos rfl] at h1
        have hs := hset [] h1.symm
        refine QM (by conv=>lhs;simp[-List.map_set,QV,htb]) ?_
        refine QN ?_
        repeat refine QS ?_
        refine vw_condT rfl rfl rfl ?_
        repeat refine QS ?_
        refine QR (r:=by conv=>lhs;simp[-List.map_set,QV,hkt,hRl]) (k:=?_)
        refine QN ?_
        apply vw_reach
        · exact Reach.nilCell (k := 1) (i := k) (by simp) (by rfl) (by simp [hkt, hRl])
        simp only [List.set_cons_succ, List.set_cons_zero]
        repeat (first|refine QG ?_|refine QX (r:=by conv=>lhs;simp[-List.map_set,QV,hw]) (k:=?_))
        show Again _ _ _ _ _ _ _
        exact again ⟨by omega, k + 1, by omega, rfl, by simp [Fr.only], by rw [← hs, List.map_set]; rfl⟩
      · rw [if_neg htb] at h1
        have hs := hsame h1
        have htb' : tb = false := by simpa using htb
        refine QM (by conv=>lhs;simp[-List.map_set,QV,htb']) ?_
        refine QN ?_
        repeat (first|refine QG ?_|refine QX (r:=by conv=>lhs;simp[-List.map_set,QV,hw]) (k:=?_))
        show Again _ _ _ _ _ _ _
        exact again ⟨by omega, k + 1, by omega, rfl, by simp [Fr.only], by rw [hs]⟩
    · have hke : k = bs.length := by omega
      subst hke
      have hMt : M.take bs.length ++ G.drop bs.length = M := by rw [← hMl, List.take_length, hMl, ← hGl, List.drop_length, List.append_nil]
      rw [hMt]
      have hMr : ∀ r ∈ M, r.length < 2^62 ∧ ∀ k ∈ r, k < M.length := fun r hr => by
        obtain ⟨j, hj, rfl⟩ := List.getElem_of_mem hr
        rw [hMk j (by omega) (by omega) hj]
        split
        · simp
        · have := hrow _ (List.getElem_mem (show j < G.length by omega))
          exact ⟨this.1, fun k hk => by have := this.2 k hk; omega⟩
      rw [show G.length = M.length by omega]
      have hnl : bs.length < 2^62 := by omega
      have hb1 : bs.length * 1 ≤ 140737488355328 := by omega
      have hb2 : bs.length ≤ 140737488355328 := by omega
      have hrep : rep0 [V.bool false] bs.length = (List.replicate bs.length false).map V.bool := by simp [rep0_one]
      repeat (first|refine QG ?_|refine QX (r:=by conv=>lhs;simp[-List.map_set,QV,hkt,hb1,hb2,hrep]) (k:=?_))
      repeat refine QS ?_
      refine vw_loopAt [3, 5, 6] rfl (fun c σ S' => ∃ (gone : List Bool) (t : Bool), c = 2 * Ss.fals gone + (if t then 1 else 0) ∧ Ss.GoneOk M gone ∧ (t = false → ∀ i < M.length, Ss.Shut M gone i) ∧ σ = [(3, .slice (lid S.nx 1) 0 bs.length), (5, .slice (lid S.nx 2) 0 bs.length), (6, .bool t)] ∧ S' = St S [] [some (4, [vl vint fi, vl vint fo, vl vint ts, vl encBlock bs]), some (1, M.map (vl vnat)), some (1, gone.map V.bool)]) (2 * Ss.fals (List.replicate bs.length false) + 1) ?_ ?_
      · exact ⟨List.replicate bs.length false, true, rfl, ⟨by simp [hMl], fun i h => by simp [List.getElem?_replicate] at h⟩, (fun h => by cases h), by simp [Fr.only], by simp⟩
      · rintro c σ T ⟨gone, t, rfl, hok, hsh, rfl, rfl⟩
        have hgl : gone.length = bs.length := by rw [hok.len, hMl]
        by_cases ht : t = true
        · subst ht
          repeat (first|refine QG ?_|refine QX (r:=by conv=>lhs;simp[-List.map_set,QV]) (k:=?_))
          repeat refine QS ?_
          refine vw_loopAt [3, 5, 6, 7] rfl (fun c σ S' => ∃ (k : Nat) (g : List Bool) (t : Bool), k ≤ bs.length ∧ c = bs.length - k ∧ Ss.GoneOk M g ∧ (t = true → Ss.fals g < Ss.fals gone) ∧ (t = false → g = gone ∧ ∀ i < k, Ss.Shut M gone i) ∧ σ = [(3, .slice (lid S.nx 1) 0 bs.length), (5, .slice (lid S.nx 2) 0 bs.length), (6, .bool t), (7, vnat k)] ∧ S' = St S [] [some (4, [vl vint fi, vl vint fo, vl vint ts, vl encBlock bs]), some (1, M.map (vl vnat)), some (1, g.map V.bool)]) bs.length ?_ ?_
          · exact ⟨0, gone, false, by omega, rfl, hok, (fun h => by cases h), fun _ => ⟨rfl, fun i hi => by omega⟩, by simp [Fr.only], rfl⟩
          · rintro c σ T ⟨k, g, t, hk, rfl, hokg, hlt, heq, rfl, rfl⟩
            have hgl : g.length = bs.length := by rw [hokg.len, hMl]
            by_cases hkt : k < bs.length
            · have hkM : k < M.length := by omega
              have hw := wrapNat hkt (by omega)
              obtain ⟨row, hrow'⟩ : ∃ r, M[k] = r := ⟨_, rfl⟩
              have hrd : M.getD k [] = row := by simp [hkM, hrow']
              obtain ⟨hrl, hrk⟩ := hMr _ (List.getElem_mem hkM)
              rw [hrow'] at hrl hrk
              obtain ⟨P, hP⟩ : ∃ P : Nat → Bool, (fun x => !g.getD x false) = P := ⟨_, rfl⟩
              have hPx : ∀ x, P x = !g.getD x false := fun x => by rw [← hP]
              repeat (first|refine QG ?_|refine QX (r:=by conv=>lhs;simp[-List.map_set,QV,hkt,hkM,hrow']) (k:=?_))
              repeat refine QS ?_
              refine vw_loopAt [3, 5, 6, 7, 8, 9] rfl (fun c σ S' => ∃ (j : Nat) (s : Bool), j ≤ row.length ∧ c = row.length - j ∧ s = (row.take j).any P ∧ σ = [(3, .slice (lid S.nx 1) 0 bs.length), (5, .slice (lid S.nx 2) 0 bs.length), (6, .bool t), (7, vnat k), (8, .bool s), (9, vnat j)] ∧ S' = St S [] [some (4, [vl vint fi, vl vint fo, vl vint ts, vl encBlock bs]), some (1, M.map (vl vnat)), some (1, g.map V.bool)]) row.length ?_ ?_
              · exact ⟨0, false, by omega, rfl, by simp, by simp [Fr.only], rfl⟩
              · rintro c σ T ⟨j, s, hj, rfl, hs, rfl, rfl⟩
                by_cases hjt : j < row.length
                · have hwj := wrapNat hjt (by omega)
                  have hst := any_take P hjt
                  have hxl := hrk _ (List.getElem_mem hjt)
                  obtain ⟨x, hx⟩ : ∃ x, row[j] = x := ⟨_, rfl⟩
                  rw [hx] at hst hxl
                  have hxg : x < g.length := by omega
                  have hxb : x < bs.length := by omega
                  obtain ⟨y, hy⟩ : ∃ y, g[x] = y := ⟨_, rfl⟩
                  have hyd : P x = !y := by rw [hPx]; simp [hxg, hy]
                  rw [hyd, ← hs] at hst
                  by_cases h1 : s = true
                  · rw [h1, Bool.true_or] at hst
                    repeat (first|refine QG ?_|refine QX (r:=by conv=>lhs;simp[-List.map_set,QV,hkt,hkM,hrow',hjt,h1,hwj]) (k:=?_))
                    show Again _ _ _ _ _ _ _
                    exact again ⟨by omega, j + 1, true, by omega, rfl, hst.symm, by simp [Fr.only], rfl⟩
                  · have h1' : s = false := by simpa using h1
                    rw [h1', Bool.false_or] at hst
                    repeat (first|refine QG ?_|refine QX (r:=by conv=>lhs;simp[-List.map_set,QV,hkt,hkM,hrow',hjt,h1',hx,hxg,hxb,hy,hwj]) (k:=?_))
                    show Again _ _ _ _ _ _ _
                    exact again ⟨by omega, j + 1, !y, by omega, rfl, hst.symm, by simp [Fr.only], rfl⟩
                · have hje : j = row.length := by omega
                  subst hje
                  rw [List.take_length] at hs
                  have hkg : k < g.length := by omega
                  obtain ⟨y, hy⟩ : ∃ y, g[k] = y := ⟨_, rfl⟩
                  have hyd : g.getD k false = y := by simp [hkg, hy]
                  by_cases h1 : s = true
                  · have hsk : Ss.Shut M g k := fun h => by
                      rw [hrd] at h
                      rw [h1] at hs
                      obtain ⟨x, hx1, hx2⟩ := List.any_eq_true.1 hs.symm
                      rw [hPx, h x hx1] at hx2
                      cases hx2
                    have heq' : t = false → g = gone ∧ ∀ i < k + 1, Ss.Shut M gone i := fun h => by
                      obtain ⟨h2, h3⟩ := heq h
                      refine ⟨h2, fun i hi => ?_⟩
                      rcases Nat.lt_succ_iff_lt_or_eq.1 hi with h4 | h4
                      · exact h3 i h4
                      · rw [h4, ← h2]; exact hsk
                    repeat (first|refine QG ?_|refine QX (r:=by conv=>lhs;simp[-List.map_set,QV,hkt,hkM,hrow',hjt,h1,hw]) (k:=?_))
                    show Again _ _ _ _ _ _ _
                    exact again ⟨by omega, k + 1, g, t, by omega, rfl, hokg, hlt, heq', by simp [Fr.only], rfl⟩
                  have h1' : s = false := by simpa using h1
                  have hall : ∀ x ∈ row, g.getD x false = true := fun x hx => by
                    rw [h1'] at hs
                    have := List.any_eq_false.1 hs.symm x hx
                    rw [hPx] at this
                    simpa using this
                  by_cases h2 : y = true
                  · have hsk : Ss.Shut M g k := fun _ => by rw [hyd]; exact h2
                    have heq' : t = false → g = gone ∧ ∀ i < k + 1, Ss.Shut M gone i := fun h => by
                      obtain ⟨h2, h3⟩ := heq h
                      refine ⟨h2, fun i hi => ?_⟩
                      rcases Nat.lt_succ_iff_lt_or_eq.1 hi with h4 | h4
                      · exact h3 i h4
                      · rw [h4, ← h2]; exact hsk
                    repeat (first|refine QG ?_|refine QX (r:=by conv=>lhs;simp[-List.map_set,QV,hkt,hkM,hrow',hjt,h1',hkg,hy,h2,hw]) (k:=?_))
                    show Again _ _ _ _ _ _ _
                    exact again ⟨by omega, k + 1, g, t, by omega, rfl, hokg, hlt, heq', by simp [Fr.only], rfl⟩
                  · have h2' : y = false := by simpa using h2
                    have hf := Ss.fals_set (l := g) (i := k) (by rw [List.getElem?_eq_getElem hkg, hy, h2'])
                    have hok' : Ss.GoneOk M (g.set k true) := ⟨by rw [List.length_set]; exact hokg.len, fun i hi => by
                      by_cases hik : i = k
                      · subst hik
                        refine Ss.Ends.mk i fun x hx => ?_
                        rw [hrd] at hx
                        have h4 := hall x hx
                        have hxg : x < g.length := by have := hrk x hx; omega
                        exact hokg.ends x (by rw [List.getElem?_eq_getElem hxg]; simpa [hxg] using h4)
                      · rw [List.getElem?_set_ne (fun h => hik h.symm)] at hi
                        exact hokg.ends i hi⟩
                    have hlt' : true = true → Ss.fals (g.set k true) < Ss.fals gone := fun _ => by
                      cases t with
                      | true => have := hlt rfl; omega
                      | false => obtain ⟨rfl, _⟩ := heq rfl; omega
                    repeat (first|refine QG ?_|refine QX (r:=by conv=>lhs;simp[-List.map_set,QV,hkt,hkM,hrow',hjt,h1',hkg,hy,h2',hw]) (k:=?_))
                    show Again _ _ _ _ _ _ _
                    exact again ⟨by omega, k + 1, g.set k true, true, by omega, rfl, hok', hlt', (fun h => by cases h), by simp [Fr.only], by simp⟩
            · have hke : k = bs.length := by omega
              subst hke
              repeat (first|refine QG ?_|refine QX (r:=by conv=>lhs;simp[-List.map_set,QV,hkt]) (k:=?_))
              show Again _ _ _ _ _ _ _
              exact again ⟨by cases t with | true => (have := hlt rfl; simp; omega) | false => (obtain ⟨rfl, _⟩ := heq rfl; simp), g, t, rfl, hokg, (fun h => by obtain ⟨rfl, h2⟩ := heq h; rw [hMl]; exact h2), by simp [Fr.only], rfl⟩
        · have ht' : t = false := by simpa using ht
          subst ht'
          have hsh' := hsh rfl
          repeat (first|refine QG ?_|refine QX (r:=by conv=>lhs;simp[-List.map_set,QV]) (k:=?_))
          repeat refine QS ?_
          refine vw_loopAt [3, 5, 10] rfl (fun c σ S' => ∃ (k : Nat), k ≤ bs.length ∧ c = bs.length - k ∧ (∀ i < k, gone.getD i false = true) ∧ σ = [(3, .slice (lid S.nx 1) 0 bs.length), (5, .slice (lid S.nx 2) 0 bs.length), (10, vnat k)] ∧ S' = St S [] [some (4, [vl vint fi, vl vint fo, vl vint ts, vl encBlock bs]), some (1, M.map (vl vnat)), some (1, gone.map V.bool)]) bs.length ?_ ?_
          · exact ⟨0, by omega, rfl, fun i hi => by omega, by simp [Fr.only], rfl⟩
          · rintro c σ T ⟨k, hk, rfl, hall, rfl, rfl⟩
            by_cases hkt : k < bs.length
            · have hkg : k < gone.length := by omega
              have hw := wrapNat hkt (by omega)
              obtain ⟨y, hy⟩ : ∃ y, gone[k] = y := ⟨_, rfl⟩
              have hyd : gone.getD k false = y := by simp [hkg, hy]
              by_cases h1 : y = true
              · have hall' : ∀ i < k + 1, gone.getD i false = true := by
                  intro i hi
                  rcases Nat.lt_succ_iff_lt_or_eq.1 hi with h | h
                  · exact hall i h
                  · rw [h, hyd]; exact h1
                repeat (first|refine QG ?_|refine QX (r:=by conv=>lhs;simp[-List.map_set,QV,hkt,hkg,hy,h1,hw]) (k:=?_))
                show Again _ _ _ _ _ _ _
                exact again ⟨by omega, k + 1, by omega, rfl, hall', by simp [Fr.only], rfl⟩
              · have h1' : y = false := by simpa using h1
                have hno : ¬ ∀ i < M.length, Ss.Ends M i := fun h => by
                  have := Ss.shut_ends hsh' (fun r hr => (hMr r hr).2) (h k (by omega)) (by omega)
                  rw [hyd] at this
                  exact h1 this
                repeat (first|refine QG ?_|refine QX (r:=by conv=>lhs;simp[-List.map_set,QV,hkt,hkg,hy,h1']) (k:=?_))
                exact doneB hwf true ⟨(fun h => by cases h), fun h => absurd h hno⟩
            · have hke : k = bs.length := by omega
              subst hke
              have hyes : ∀ i < M.length, Ss.Ends M i := fun i hi => hok.ends i (by
                have h1 := hall i (by omega)
                have hig : i < gone.length := by omega
                simp only [List.getD_eq_getElem?_getD, List.getElem?_eq_getElem hig, Option.getD_some] at h1
                rw [List.getElem?_eq_getElem hig, h1])
              repeat (first|refine QG ?_|refine QX (r:=by conv=>lhs;simp[-List.map_set,QV,hkt]) (k:=?_))
              exact doneB hwf false ⟨fun _ => hyes, fun _ => rfl⟩

open Classical in
noncomputable def _root_.Ss.circ (M : List (List Nat)) : Bool := decide (¬ ∀ i < M.length, Ss.Ends M i)
open Classical in
theorem circlesP_v (f : Ss.Fn) (hf : f.Fits) (hs : f.small = true) (G : List (List Nat)) (hG : (Ss.succs f.blocks).map (vl vint) = G.map (vl vnat)) (hrow : ∀ r ∈ G, r.length < 2^62 ∧ ∀ k ∈ r, k < G.length) :
    VPure Tryz.prog 30 [encFn f] (.bool (Ss.circ (Ss.msk f.blocks G))) := fun S => by
  have hGl : G.length = f.blocks.length := by have := congrArg List.length hG; simpa [Ss.succs] using this.symm
  refine (circles_v f hf hs G hG hrow S).mono ?_
  rintro r T ⟨b, rfl, hb, rfl⟩
  refine ⟨?_, rfl⟩
  congr 1
  have e : (Ss.msk f.blocks G).length = G.length := by rw [Ss.msk_len hGl, hGl]
  unfold Ss.circ
  rw [e]
  cases b with
  | false =>
    have h1 := hb.1 rfl
    exact (decide_eq_false (p := ¬ _) (not_not_intro h1)).symm
  | true =>
    have h1 : ¬ ∀ i < G.length, Ss.Ends (Ss.msk f.blocks G) i := fun h => by have := hb.2 h; cases this
    exact (decide_eq_true (p := ¬ _) h1).symm
end Go.Vw
