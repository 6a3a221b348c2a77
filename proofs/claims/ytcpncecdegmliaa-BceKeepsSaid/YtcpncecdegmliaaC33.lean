import Derived.Test.YtcpncecdegmliaaC31
import Derived.Test.YtcpncecdegmliaaC32
import Derived.Test.YtcpncecdegmliaaC25
/-
  Part of the proof (texts BAlive, BLKeeps).
-/
set_option linter.unusedVariables false
set_option linter.unusedSimpArgs false
namespace Ss
def smallB : Fn := ⟨⟨[127, 127], [127]⟩, [127, 127], [⟨[0, 1], [⟨258, 0, [], []⟩, ⟨257, 8, [0], []⟩, ⟨257, 4, [0], []⟩, ⟨257, 4, [1], []⟩], ⟨4, 0, [], [0]⟩⟩]⟩
def smallB' : Fn := ⟨⟨[127, 127], [127]⟩, [127, 127], [⟨[0, 1], [⟨258, 0, [], []⟩, ⟨257, 8, [0], []⟩, ⟨257, 4, [1], []⟩], ⟨4, 0, [], [0]⟩⟩]⟩
def envB : Env := ⟨[], 0, [], [], true⟩
theorem smallB_defs : defsOf smallB = some [⟨true, 0, -1⟩, ⟨true, 0, -1⟩] := by decide
theorem smallB_succs : succs smallB.blocks = [[]] := by decide
theorem smallB_rings : rings smallB.blocks [[]] = false := by
 simp [rings, smallB, tickB, ringM, ringW, List.range_succ]
theorem smallB_shape : shapeOk smallB = true := by
 have h1 : Go.Vw.G.right [[]] = true := by decide
 have h2 : Go.Vw.G.ordI [[]] = [0] := by decide
 have h3 : Go.Vw.G.nats [[]] = [[]] := rfl
 simp only [shapeOk, smallB_succs, h1, h2, h3, smallB_rings]
 decide
theorem numSig_257 : numSig 257 = ((numSig 257).1, (numSig 257).2.1, false) := by
 have : (numSig 257).2.2 = false := by decide
 rw [← this]
theorem smallB_check : check envB smallB = true := by
 have h1 : checkHead envB smallB = true := by decide
 have hf : ∀ n o, form envB 257 n o = ⟨[127], [], 8589934592, true⟩ := fun n o => by
  have e0 : form envB 257 n o = formNum envB 257 := by simp [form]
  rw [e0]
  unfold formNum
  rw [numSig_257]
  simp [envB, formMem]
 have hf2 : ∀ n o, form envB 258 n o = ⟨[], [], 0, true⟩ := fun n o => by simp [form]
 simp only [check, h1, smallB_defs, smallB_shape, Bool.true_and]
 generalize Go.Vw.G.nearI (succs smallB.blocks) = near
 simp [smallB, checkBlocks, checkCode, insOk, hf, hf2, insOut, typesOf, asks, Go.Vw.eqF, termOk, termHead, termTail, branches, askOk]
theorem smallB_bce : bceF smallB = smallB' := by
 have h1 : Go.Vw.G.order (Go.Vw.G.nats (succs smallB.blocks)) = [0] := by decide
 have h2 : Go.Vw.G.rNear (Go.Vw.G.nats (succs smallB.blocks)) = [-1] := by decide
 rw [bceF, h1, h2]
 decide
theorem smallB_out : bceOut envB smallB = (smallB', 0) := by rw [bceOut_t smallB_check, smallB_bce]
theorem smallB_fits : smallB.Fits := by
 simp [smallB, Fn.Fits, Sig.Fits, Ints, Block.Fits, Ins.Fits, Term.Fits, I64]
theorem envB_fits : envB.Fits := by
 simp [envB, Env.Fits, Ints, I64]
end Ss
namespace Go.Vw
open Go.Proofs Go.RowKit
set_option maxRecDepth 10000
set_option maxHeartbeats 8000000
theorem envB_ghost (S : Store) : Ghost (.agg [.nils, .int .i64 0, .nils, .nils, .bool true]) S (encEnv Ss.envB) S := by
 refine Ghost.agg_nl rfl fun i x y hx hy => ?_
 match i, hx, hy with
 | 0, hx, hy => cases hx; cases hy; exact .inr ⟨rfl, rfl⟩
 | 1, hx, hy => cases hx; cases hy; exact .inl rfl
 | 2, hx, hy => cases hx; cases hy; exact .inr ⟨rfl, rfl⟩
 | 3, hx, hy => cases hx; cases hy; exact .inr ⟨rfl, rfl⟩
 | 4, hx, hy => cases hx; cases hy; exact .inl rfl
theorem small13_v : VPure Try.prog 37 [.int .i64 0, .nils, .list [.agg [.int .i64 257, .int .u64 8, .list [.int .i64 0], .nils], .agg [.int .i64 257, .int .u64 4, .list [.int .i64 0], .nils], .agg [.int .i64 257, .int .u64 4, .list [.int .i64 1], .nils]]] (encFn Ss.smallB) := by
 intro S
 have hcv : ∀ l, (vl encIns l).closed1 = true := fun _ => rfl
 have hk1 : ∀ k n, (V.int k n).closed1 = true := fun _ _ => rfl
 have hk2 : ∀ l, (V.list l).closed1 = true := fun _ => rfl
 have hr2 : rep0 [V.int .i64 0] 2 = [.int .i64 0, .int .i64 0] := rfl
 have hr1 : rep0 [V.int .i64 0] 1 = [.int .i64 0] := rfl
 have hr4 : rep0 [V.int .i64 0, .int .u64 0, .nils, .nils] 1 = [.int .i64 0, .int .u64 0, .nils, .nils] := rfl
 have hr6 : rep0 [V.nils, .nils, .int .i64 0, .int .i64 0, .nils, .nils] 1 = [.nils, .nils, .int .i64 0, .int .i64 0, .nils, .nils] := rfl
 refine vcalls_startC (c := bodyOf Try.f37) Try.func37 rfl (by conv => lhs; reduce) (by simp [Try.ntmps37]) ?_
 rw [Try.ntmps37]
 intro hwf
 repeat refine QS ?_
 refine QR (r:=by conv=>lhs;simp[-List.map_set,QV]) (k:=?_)
 refine QN ?_
 repeat refine QS ?_
 refine QR (r:=by conv=>lhs;simp[-List.map_set,QV,hr2,hr1,hr4,hr6,opAppend,srcCells]) (k:=?_)
 refine QN ?_
 apply vw_reach
 ·exact Reach.nilCell (k := 3) (i := 2) (by simp) (by rfl) (by rfl)
 simp only [List.set_cons_succ, List.set_cons_zero]
 apply vw_reach
 ·exact Reach.nilCell (k := 3) (i := 3) (by simp) (by rfl) (by rfl)
 simp only [List.set_cons_succ, List.set_cons_zero]
 apply vw_reach
 ·exact Reach.nilCell (k := 3) (i := 7) (by simp) (by rfl) (by rfl)
 simp only [List.set_cons_succ, List.set_cons_zero]
 apply vw_reach
 ·exact Reach.nilCell (k := 3) (i := 11) (by simp) (by rfl) (by rfl)
 simp only [List.set_cons_succ, List.set_cons_zero]
 apply vw_reach
 ·exact Reach.nilCell (k := 3) (i := 15) (by simp) (by rfl) (by rfl)
 simp only [List.set_cons_succ, List.set_cons_zero]
 apply vw_reach
 ·exact Reach.frzCellS (enc := encIns) (s := 4) (fun _ => rfl) encIns_closed (k := 5) (j := 3) (i := 1) [⟨258, 0, [], []⟩, ⟨257, 8, [0], []⟩, ⟨257, 4, [0], []⟩, ⟨257, 4, [1], []⟩] (by decide) (by simp) (by simp) (by rfl) (by rfl) (by rfl)
 simp only [List.set_cons_succ, List.set_cons_zero]
 apply vw_reach
 ·exact Reach.frzCell (k := 5) (j := 1) (i := 0) (by decide) (by simp) (by simp) (by rfl) (by rfl) (by rfl) (by rfl) (by rfl)
 simp only [List.set_cons_succ, List.set_cons_zero]
 apply vw_reach
 ·exact Reach.nilCell (k := 5) (i := 4) (by simp) (by rfl) (by rfl)
 simp only [List.set_cons_succ, List.set_cons_zero]
 apply vw_reach
 ·exact Reach.frzCell (k := 5) (j := 4) (i := 5) (by decide) (by simp) (by simp) (by rfl) (by rfl) (by rfl) (by rfl) (by rfl)
 simp only [List.set_cons_succ, List.set_cons_zero]
 repeat refine QS ?_
 refine vw_drawFrz (ZZ.mk _ (St S [] [none, none, none, none, none, some (6, [.list [.int .i64 0, .int .i64 1], vl encIns [⟨258, 0, [], []⟩, ⟨257, 8, [0], []⟩, ⟨257, 4, [0], []⟩, ⟨257, 4, [1], []⟩], .int .i64 4, .int .i64 0, .list [], .list [.int .i64 0]])]) (St S [] [none, none, none, none, none, some (6, [.list [.int .i64 0, .int .i64 1], vl encIns [⟨258, 0, [], []⟩, ⟨257, 8, [0], []⟩, ⟨257, 4, [0], []⟩, ⟨257, 4, [1], []⟩], .int .i64 4, .int .i64 0, .list [], .list [.int .i64 0]])]) []) [17, 18, 24] rfl (by kernel_rfl) (by conv => lhs; reduce) (by conv => lhs; reduce) (by conv => lhs; reduce) (by kernel_rfl) (by kernel_rfl) (ok_St (by simp [subU, shpU, subL, shpL])) (Store.sub_refl _) (by conv => lhs; simp [-List.map_set,QV, hr2, hr1, hr6, hk1, hk2]) ?_
 refine vseg_write rfl (by conv=>lhs;simp[-List.map_set,QV,hr2]) (ok_St (by simp [subU, shpU, subL, shpL])) ?_
 refine QM (by conv=>lhs;simp[-List.map_set,QV]) ?_
 refine vseg_write rfl (by conv=>lhs;simp[-List.map_set,QV,opAppend,srcCells]) (ok_St (by simp [subU, shpU, subL, shpL])) ?_
 refine QM (by conv=>lhs;simp[-List.map_set,QV,hr6,hk1,hk2,hcv]) ?_
 refine vseg_write rfl (by conv=>lhs;simp[-List.map_set,QV]) (ok_St (by simp [subU, shpU, subL, shpL])) ?_
 refine QN ?_
 apply vw_reach
 ·exact Reach.frzCell (k := 0) (j := 7) (i := 2) (by decide) (by simp) (by simp) (by rfl) (by rfl) (by rfl) (by rfl) (by rfl)
 simp only [List.set_cons_succ, List.set_cons_zero]
 repeat (first|refine QG ?_|refine QX (r:=by conv=>lhs;simp[-List.map_set,QV]) (k:=?_))
 exact doneC (by simp; rfl) (done_pure hwf (by simp [Ss.smallB, vl]) rfl)
theorem ghost_single {x x' : V} {S S' : Store} (h : GhostArgs [x] S [x'] S') : Ghost x S x' S' := by
 intro m β w v hS hr
 obtain ⟨m', β', h1, h2, h3⟩ := h m β w [v] hS ((RepL.nil m β).cons hr)
 exact ⟨m', β', h1, h2, h3.2 0 x' v rfl rfl⟩
theorem code13_ghost {S : Store} {oc a b c : Nat} (hc : S.get oc = some (4, [.int .i64 257, .int .u64 8, .slice a 0 1, .nils, .int .i64 257, .int .u64 4, .slice b 0 1, .nils, .int .i64 257, .int .u64 4, .slice c 0 1, .nils])) (ha : S.get a = some (1, [.int .i64 0])) (hb : S.get b = some (1, [.int .i64 0])) (hcc : S.get c = some (1, [.int .i64 1])) (hd : [oc, a, b, c].Nodup) :
  Ghost (.slice oc 0 3) S (.list [.agg [.int .i64 257, .int .u64 8, .list [.int .i64 0], .nils], .agg [.int .i64 257, .int .u64 4, .list [.int .i64 0], .nils], .agg [.int .i64 257, .int .u64 4, .list [.int .i64 1], .nils]]) (S.dels [oc, a, b, c]) := by
 have hw : OwL S (reps 3 [.c, .c, .s (List.replicate 1 .c), .c]) [.int .i64 257, .int .u64 8, .slice a 0 1, .nils, .int .i64 257, .int .u64 4, .slice b 0 1, .nils, .int .i64 257, .int .u64 4, .slice c 0 1, .nils] [.int .i64 257, .int .u64 8, vl vint [0], .nils, .int .i64 257, .int .u64 4, vl vint [0], .nils, .int .i64 257, .int .u64 4, vl vint [1], .nils] [a, b, c] := by
  refine .c rfl (.c rfl (OwL.slice (enc := vint) (fun _ => rfl) (fun _ => rfl) [0] (by rw [flatC_vint]; exact ha) (.c rfl ?_)))
  refine .c rfl (.c rfl (OwL.slice (enc := vint) (fun _ => rfl) (fun _ => rfl) [0] (by rw [flatC_vint]; exact hb) (.c rfl ?_)))
  exact .c rfl (.c rfl (OwL.slice (enc := vint) (fun _ => rfl) (fun _ => rfl) [1] (by rw [flatC_vint]; exact hcc) (.c rfl .nil)))
 have := OwL.s (S := S) (o := oc) (tys := [.c, .c, .s (List.replicate 1 .c), .c]) (cells := [.int .i64 257, .int .u64 8, .slice a 0 1, .nils, .int .i64 257, .int .u64 4, .slice b 0 1, .nils, .int .i64 257, .int .u64 4, .slice c 0 1, .nils]) (ys := [.agg [.int .i64 257, .int .u64 8, .list [.int .i64 0], .nils], .agg [.int .i64 257, .int .u64 4, .list [.int .i64 0], .nils], .agg [.int .i64 257, .int .u64 4, .list [.int .i64 1], .nils]]) (i := [a, b, c]) (j := []) hc (fun y hy => by
  simp only [List.mem_cons, List.not_mem_nil, or_false] at hy
  rcases hy with rfl | rfl | rfl <;> exact ⟨rfl, rfl⟩) hw .nil
 exact ghost_single (this.freeze hd S fun _ _ => rfl)
theorem Alive13_v : VPure Try.prog 8 [] (.bool true) := by
 intro S
 have hr1 : rep0 [V.int .i64 0] 1 = [.int .i64 0] := rfl
 have hr3 : rep0 [V.int .i64 0, .int .u64 0, .nils, .nils] 3 = [.int .i64 0, .int .u64 0, .nils, .nils, .int .i64 0, .int .u64 0, .nils, .nils, .int .i64 0, .int .u64 0, .nils, .nils] := rfl
 have cs := small13_v
 have cb := BceP_v Ss.envB Ss.smallB Ss.envB_fits Ss.smallB_fits
 rw [Ss.smallB_out] at cb
 have hF' : encFn Ss.smallB' = .agg [vl vint [127, 127], vl vint [127], vl vint [127, 127], vl encBlock [⟨[0, 1], [⟨258, 0, [], []⟩, ⟨257, 8, [0], []⟩, ⟨257, 4, [1], []⟩], ⟨4, 0, [], [0]⟩⟩]] := rfl
 obtain ⟨f1, f2, f3, f4, hF, o1, o2, o3, o4⟩ : ∃ f1 f2 f3 f4, encFn Ss.smallB = .agg [f1, f2, f3, f4] ∧ f1.one = true ∧ f2.one = true ∧ f3.one = true ∧ f4.one = true := ⟨_, _, _, _, rfl, rfl, rfl, rfl, rfl⟩
 rw [hF] at cs cb
 rw [hF'] at cb
 refine vcalls_start (c := bodyOf Try.f8) Try.func8 rfl rfl (by simp [Try.ntmps8]) ?_
 rw [Try.ntmps8]
 intro hwf
 repeat refine QS ?_
 refine QR (r:=by conv=>lhs;simp[-List.map_set,QV]) (k:=?_)
 refine QN ?_
 repeat refine QS ?_
 refine QR (r:=by conv=>lhs;simp[-List.map_set,QV]) (k:=?_)
 refine QN ?_
 refine vw_ghost' 1 rfl ((refSt (k := 0) (by simp) (by rfl) (by rfl) (by simp))) (by conv => lhs; simp [Fr.set]) ?_
 simp only [List.set_cons_succ, List.set_cons_zero]
 repeat refine QS ?_
 refine QR (r:=by conv=>lhs;simp[-List.map_set,QV,hr1,hr3]) (k:=?_)
 have hg := @code13_ghost (St S [] [none, some (1, [.int .i64 0]), some (1, [.int .i64 0]), some (1, [.int .i64 1]), some (4, [.int .i64 257, .int .u64 8, .slice (lid S.nx 1) 0 1, .nils, .int .i64 257, .int .u64 4, .slice (lid S.nx 2) 0 1, .nils, .int .i64 257, .int .u64 4, .slice (lid S.nx 3) 0 1, .nils])]) (lid S.nx 4) (lid S.nx 1) (lid S.nx 2) (lid S.nx 3) (by rw [St_get]; rfl) (by rw [St_get]; rfl) (by rw [St_get]; rfl) (by rw [St_get]; rfl) (by simp [lid])
 refine vcall_useG rfl (GhostArgs.one [_, _] [] hg) cs ?_
 have hdl : (St S [] [none, some (1, [.int .i64 0]), some (1, [.int .i64 0]), some (1, [.int .i64 1]), some (4, [.int .i64 257, .int .u64 8, .slice (lid S.nx 1) 0 1, .nils, .int .i64 257, .int .u64 4, .slice (lid S.nx 2) 0 1, .nils, .int .i64 257, .int .u64 4, .slice (lid S.nx 3) 0 1, .nils])]).dels [lid S.nx 4, lid S.nx 1, lid S.nx 2, lid S.nx 3] = St S [] [none, none, none, none, none] := by
  simp [Store.dels, St_del]
 rw [hdl]
 refine QM (by conv=>lhs;simp[-List.map_set,QV,o1,o2,o3,o4]) ?_
 refine QN ?_
 repeat refine QS ?_
 refine QR (r:=by conv=>lhs;simp[-List.map_set,QV,o1,o2,o3,o4]) (k:=?_)
 refine vcall_useG rfl (GhostArgs.one [] [_] (envB_ghost _)) cb ?_
 refine QM (by conv=>lhs;simp[-List.map_set,QV]) ?_
 refine QN ?_
 have hix : ∀ S, opIndex 4 S (vl encIns [⟨258, 0, [], []⟩, ⟨257, 8, [0], []⟩, ⟨257, 4, [1], []⟩]) (.int .i64 1) = some (.ref (encIns ⟨257, 8, [0], []⟩)) := fun _ => rfl
 repeat (first|refine QG ?_|refine QX (r:=by conv=>lhs;simp[-List.map_set,QV,hix]) (k:=?_))
 exact done_pure (X := .bool true) hwf (by simp) rfl
end Go.Vw

namespace Ss
theorem strip_small {f : Fn} (h : f.small = true) : (strip f).small = true := by
 obtain ⟨h1, h2, h3⟩ := (small_iff f).1 h
 refine (small_iff _).2 ⟨?_, fun c hc => ?_, ?_⟩
 ·simp only [Fn.heads, strip, List.length_map] at h1 ⊢
  exact h1
 ·obtain ⟨b, hb, rfl⟩ := List.mem_map.1 hc
  have := h2 b hb
  simp only [Block.small, stripB, Bool.and_eq_true] at this ⊢
  obtain ⟨⟨⟨⟨a1, a2⟩, a3⟩, a4⟩, a5⟩ := this
  exact ⟨⟨⟨⟨a1, a2⟩, a3⟩, List.all_eq_true.2 fun x hx => List.all_eq_true.1 a4 x (List.mem_filter.1 hx).1⟩, a5⟩
 ·have : ∀ l : List Block, count (l.map stripB) ≤ count l := fun l => by
   induction l with
   | nil => exact Nat.le_refl _
   | cons b l ih =>
    have := List.length_filter_le notChk b.code
    simp only [count, List.map_cons, List.sum_cons, stripB] at ih ⊢
    omega
  exact Nat.le_trans (this _) h3
theorem strip_fits {f : Fn} (h : f.Fits) : (strip f).Fits := by
 obtain ⟨h1, h2, h3, h4⟩ := h
 refine ⟨h1, h2, by simpa [strip] using h3, fun c hc => ?_⟩
 obtain ⟨b, hb, rfl⟩ := List.mem_map.1 hc
 obtain ⟨k1, ⟨k2, k3⟩, k4⟩ := h4 b hb
 exact ⟨k1, ⟨Nat.le_trans (List.length_filter_le _ _) k2, fun x hx => k3 x (List.mem_filter.1 hx).1⟩, k4⟩
theorem ThinL.strip {l m : List Block} (h : ThinL l m) : m.map stripB = l.map stripB := by
 apply List.ext_getElem?
 intro i
 rw [List.getElem?_map, List.getElem?_map]
 by_cases hi : i < l.length
 ·have hi2 : i < m.length := by rw [h.1]; exact hi
  rw [List.getElem?_eq_getElem hi, List.getElem?_eq_getElem hi2]
  obtain ⟨h1, h2, h3, h4⟩ := h.2 i l[i] m[i] (List.getElem?_eq_getElem hi) (List.getElem?_eq_getElem hi2)
  simp only [Option.map_some, Option.some.injEq, stripB, h1, h2]
  have : m[i].code.filter notChk = l[i].code.filter notChk := h4
  rw [this]
 ·rw [List.getElem?_eq_none (by rw [h.1]; omega), List.getElem?_eq_none (by omega)]
theorem bce_strip (f : Fn) : strip (bceF f) = strip f := by
 have := (bceF_thin f).strip
 simp only [strip]
 rw [this]; rfl
end Ss
namespace Go.Vw
open Go.Proofs Go.RowKit
set_option maxRecDepth 10000
set_option maxHeartbeats 2000000
theorem BceKeeps_v (e : Ss.Env) (f : Ss.Fn) (he : e.Fits) (hf : f.Fits) : VPure Try.prog 5 [encEnv e, encFn f] (.bool true) := by
 intro S
 have cb := BceP_v e f he hf
 have cal := Alive13_v
 cases hc : Ss.check e f with
 | false =>
  rw [Ss.bceOut_f hc] at cb
  obtain ⟨⟨fi, fo⟩, ts, bs⟩ := f
  obtain ⟨sg, im, gl, mu, me⟩ := e
  have cb' : VPure Try.prog 6 [.agg [vl encSig sg, vint im, vl vint gl, vl V.bool mu, .bool me], .agg [vl vint fi, vl vint fo, vl vint ts, vl encBlock bs]] (.tuple [.agg [vl vint [], vl vint [], vl vint [], vl encBlock []], vint 6]) := cb
  refine vcalls_start (c := bodyOf Try.f5) Try.func5 rfl rfl (by simp [Try.ntmps5]) ?_
  rw [Try.ntmps5]
  intro hwf
  repeat refine QS ?_
  refine QR (r:=by conv=>lhs;simp[-List.map_set,QV]) (k:=?_)
  refine QN ?_
  refine vw_ghost' 2 rfl ((refSt (k := 0) (by simp) (by rfl) (by rfl) (by simp))) (by conv => lhs; simp [Fr.set]) ?_
  simp only [List.set_cons_succ, List.set_cons_zero]
  refine vw_ghost' 3 rfl ((refSt (k := 1) (by simp) (by rfl) (by rfl) (by simp))) (by conv => lhs; simp [Fr.set]) ?_
  simp only [List.set_cons_succ, List.set_cons_zero]
  repeat refine QS ?_
  refine QR (r:=by conv=>lhs;simp[-List.map_set,QV]) (k:=?_)
  refine vcall_useH (cb') (by rfl) ?_
  refine QM (by conv=>lhs;simp[-List.map_set,QV]) ?_
  refine QN ?_
  repeat (first|refine QG ?_|refine QX (r:=by conv=>lhs;simp[-List.map_set,QV]) (k:=?_))
  repeat refine QS ?_
  refine QR (r:=by conv=>lhs;simp[-List.map_set,QV]) (k:=?_)
  refine vcall_useH (cal) (by rfl) ?_
  refine QM (by conv=>lhs;simp[-List.map_set,QV]) ?_
  refine QN ?_
  repeat (first|refine QG ?_|refine QX (r:=by conv=>lhs;simp[-List.map_set,QV]) (k:=?_))
  exact done_pure (X := .bool true) hwf (by simp) rfl
 | true =>
  rw [Ss.bceOut_t hc] at cb
  have hs := Ss.check_small hc
  have hgf := Ss.bceF_fits hf
  have hth := Ss.bceF_thin f
  have hgs : (Ss.bceF f).small = true := hth.small rfl rfl hs
  have h257 := fun b hb x hx ho => @Ss.check_257 e f hc b hb x hx ho
  have ha1 : ∀ b ∈ f.blocks, ∀ x ∈ b.code, x.op = 257 → x.args ≠ [] := fun b hb x hx ho => by
   have := h257 b hb x hx ho
   exact fun e => by rw [e] at this; simp at this
  have ha2 : ∀ c ∈ (Ss.bceF f).blocks, ∀ x ∈ c.code, x.op = 257 → x.args ≠ [] := fun c hc x hx ho => by
   obtain ⟨i, hi⟩ := List.mem_iff_getElem?.1 hc
   have hil : i < f.blocks.length := by rw [← hth.1]; exact (List.getElem?_eq_some_iff.1 hi).1
   exact ha1 _ (List.getElem_mem hil) x ((hth.2 i _ c (List.getElem?_eq_getElem hil) hi).sub.subset hx) ho
  have c1 := Strip_v f hf hs ha1
  have c2 := Strip_v (Ss.bceF f) hgf hgs ha2
  rw [Ss.bce_strip] at c2
  have c3 := RSame_v (Ss.strip f) (Ss.strip f) (Ss.strip_fits hf) (Ss.strip_fits hf)
  have e3 : ((Ss.strip f).small && (Ss.strip f).small && decide (Ss.strip f = Ss.strip f)) = true := by simp [Ss.strip_small hs]
  rw [e3] at c3
  have k1 := RCount_v f hf hs
  have k2 := RCount_v (Ss.bceF f) hgf hgs
  have hle : Ss.count (Ss.bceF f).blocks ≤ Ss.count f.blocks := hth.count
  generalize Ss.bceF f = g at *
  generalize Ss.strip f = st at *
  obtain ⟨al, hal⟩ : ∃ al, al = true := ⟨_, rfl⟩
  rw [← hal] at cal
  obtain ⟨sm, hsm⟩ : ∃ sm, sm = true := ⟨_, rfl⟩
  rw [← hsm] at c3
  generalize Ss.count g.blocks = m2 at *
  generalize Ss.count f.blocks = m1 at *
  have hle2 : (m2 : Int) ≤ (m1 : Int) := by omega
  obtain ⟨⟨fi, fo⟩, ts, bs⟩ := f
  obtain ⟨⟨gi, go⟩, gt, gb⟩ := g
  obtain ⟨⟨si, so⟩, stt, sb⟩ := st
  obtain ⟨sg, im, gl, mu, me⟩ := e
  have cb' : VPure Try.prog 6 [.agg [vl encSig sg, vint im, vl vint gl, vl V.bool mu, .bool me], .agg [vl vint fi, vl vint fo, vl vint ts, vl encBlock bs]] (.tuple [.agg [vl vint gi, vl vint go, vl vint gt, vl encBlock gb], vint 0]) := cb
  have c1' : VPure Try.prog 14 [.agg [vl vint fi, vl vint fo, vl vint ts, vl encBlock bs]] (.agg [vl vint si, vl vint so, vl vint stt, vl encBlock sb]) := c1
  have c2' : VPure Try.prog 14 [.agg [vl vint gi, vl vint go, vl vint gt, vl encBlock gb]] (.agg [vl vint si, vl vint so, vl vint stt, vl encBlock sb]) := c2
  have c3' : VPure Try.prog 9 [.agg [vl vint si, vl vint so, vl vint stt, vl encBlock sb], .agg [vl vint si, vl vint so, vl vint stt, vl encBlock sb]] (.bool sm) := c3
  have k1' : VPure Try.prog 16 [.agg [vl vint fi, vl vint fo, vl vint ts, vl encBlock bs]] (vnat m1) := k1
  have k2' : VPure Try.prog 16 [.agg [vl vint gi, vl vint go, vl vint gt, vl encBlock gb]] (vnat m2) := k2
  refine vcalls_start (c := bodyOf Try.f5) Try.func5 rfl rfl (by simp [Try.ntmps5]) ?_
  rw [Try.ntmps5]
  intro hwf
  repeat refine QS ?_
  refine QR (r:=by conv=>lhs;simp[-List.map_set,QV]) (k:=?_)
  refine QN ?_
  refine vw_ghost' 2 rfl ((refSt (k := 0) (by simp) (by rfl) (by rfl) (by simp))) (by conv => lhs; simp [Fr.set]) ?_
  simp only [List.set_cons_succ, List.set_cons_zero]
  refine vw_ghost' 3 rfl ((refSt (k := 1) (by simp) (by rfl) (by rfl) (by simp))) (by conv => lhs; simp [Fr.set]) ?_
  simp only [List.set_cons_succ, List.set_cons_zero]
  repeat refine QS ?_
  refine QR (r:=by conv=>lhs;simp[-List.map_set,QV]) (k:=?_)
  refine vcall_useH (cb') (by rfl) ?_
  refine QM (by conv=>lhs;simp[-List.map_set,QV]) ?_
  refine QN ?_
  repeat (first|refine QG ?_|refine QX (r:=by conv=>lhs;simp[-List.map_set,QV]) (k:=?_))
  repeat refine QS ?_
  refine QD (r:=by conv=>lhs;simp[-List.map_set,QV]) (k:=?_)
  refine vcallv_useH (c1') (by rfl) (by rfl) (by rfl) ?_
  refine QM (by conv=>lhs;simp[-List.map_set,QV]) ?_
  refine vcallv_useH (c2') (by rfl) (by rfl) (by rfl) ?_
  refine QM (by conv=>lhs;simp[-List.map_set,QV]) ?_
  refine vcall_useH (c3') (by rfl) ?_
  refine QM (by conv=>lhs;simp[-List.map_set,QV,hsm]) ?_
  refine vcall_useH (k2') (by rfl) ?_
  refine QM (by conv=>lhs;simp[-List.map_set,QV]) ?_
  refine vcall_useH (k1') (by rfl) ?_
  refine QM (by conv=>lhs;simp[-List.map_set,QV,hle2]) ?_
  refine vcall_useH (cal) (by rfl) ?_
  refine QM (by conv=>lhs;simp[-List.map_set,QV,hal]) ?_
  refine QN ?_
  repeat (first|refine QG ?_|refine QX (r:=by conv=>lhs;simp[-List.map_set,QV]) (k:=?_))
  exact done_pure (X := .bool true) hwf (by simp) rfl
end Go.Vw
