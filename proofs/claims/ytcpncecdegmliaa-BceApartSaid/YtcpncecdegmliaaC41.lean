import Derived.Test.YtcpncecdegmliaaC33
import Derived.Test.YtcpncecdegmliaaC32
import Derived.Test.YtcpncecdegmliaaC39
import Derived.Test.YtcpncecdegmliaaC40
/-
  Part of the proof (texts BAlive, BLRight, BLApart).
-/
set_option linter.unusedVariables false
set_option linter.unusedSimpArgs false
namespace Ss
def smallB : Fn := ⟨⟨[127, 127], [127]⟩, [127, 127], [⟨[0, 1], [⟨258, 0, [], []⟩, ⟨257, 8, [0], []⟩, ⟨257, 4, [0], []⟩, ⟨257, 4, [1], []⟩], ⟨4, 0, [], [0]⟩⟩]⟩
def smallB' : Fn := ⟨⟨[127, 127], [127]⟩, [127, 127], [⟨[0, 1], [⟨258, 0, [], []⟩, ⟨257, 8, [0], []⟩, ⟨257, 4, [1], []⟩], ⟨4, 0, [], [0]⟩⟩]⟩
def envB : Env := ⟨[], 0, [], [], true⟩
theorem smallB_defs : defsOf smallB = some [⟨true, 0, -1⟩, ⟨true, 0, -1⟩] := by decide
theorem smallB_succs : succs smallB.blocks = [[]] := by decide
theorem smallB_rings : rings smallB.blocks [[]] = false := by
 simp [rings, smallB, tickB, ringM, ringW, List.range_succ]
theorem smallB_shape : shapeOk smallB = true := by
 have h1 : Go.Vw.G.right [[]] = true := by decide
 have h2 : Go.Vw.G.ordI [[]] = [0] := by decide
 have h3 : Go.Vw.G.nats [[]] = [[]] := rfl
 simp only [shapeOk, smallB_succs, h1, h2, h3, smallB_rings]
 decide
theorem numSig_257 : numSig 257 = ((numSig 257).1, (numSig 257).2.1, false) := by
 have : (numSig 257).2.2 = false := by decide
 rw [← this]
theorem smallB_check : check envB smallB = true := by
 have h1 : checkHead envB smallB = true := by decide
 have hf : ∀ n o, form envB 257 n o = ⟨[127], [], 8589934592, true⟩ := fun n o => by
  have e0 : form envB 257 n o = formNum envB 257 := by simp [form]
  rw [e0]
  unfold formNum
  rw [numSig_257]
  simp [envB, formMem]
 have hf2 : ∀ n o, form envB 258 n o = ⟨[], [], 0, true⟩ := fun n o => by simp [form]
 simp only [check, h1, smallB_defs, smallB_shape, Bool.true_and]
 generalize Go.Vw.G.nearI (succs smallB.blocks) = near
 simp [smallB, checkBlocks, checkCode, insOk, hf, hf2, insOut, typesOf, asks, Go.Vw.eqF, termOk, termHead, termTail, branches, askOk]
theorem smallB_bce : bceF smallB = smallB' := by
 have h1 : Go.Vw.G.order (Go.Vw.G.nats (succs smallB.blocks)) = [0] := by decide
 have h2 : Go.Vw.G.rNear (Go.Vw.G.nats (succs smallB.blocks)) = [-1] := by decide
 rw [bceF, h1, h2]
 decide
theorem smallB_out : bceOut envB smallB = (smallB', 0) := by rw [bceOut_t smallB_check, smallB_bce]
theorem smallB_fits : smallB.Fits := by
 simp [smallB, Fn.Fits, Sig.Fits, Ints, Block.Fits, Ins.Fits, Term.Fits, I64]
theorem envB_fits : envB.Fits := by
 simp [envB, Env.Fits, Ints, I64]
end Ss
namespace Go.Vw
open Go.Proofs Go.RowKit
set_option maxRecDepth 10000
set_option maxHeartbeats 8000000
theorem envB_ghost (S : Store) : Ghost (.agg [.nils, .int .i64 0, .nils, .nils, .bool true]) S (encEnv Ss.envB) S := by
 refine Ghost.agg_nl rfl fun i x y hx hy => ?_
 match i, hx, hy with
 | 0, hx, hy => cases hx; cases hy; exact .inr ⟨rfl, rfl⟩
 | 1, hx, hy => cases hx; cases hy; exact .inl rfl
 | 2, hx, hy => cases hx; cases hy; exact .inr ⟨rfl, rfl⟩
 | 3, hx, hy => cases hx; cases hy; exact .inr ⟨rfl, rfl⟩
 | 4, hx, hy => cases hx; cases hy; exact .inl rfl
theorem small13_v : VPure Try.prog 37 [.int .i64 0, .nils, .list [.agg [.int .i64 257, .int .u64 8, .list [.int .i64 0], .nils], .agg [.int .i64 257, .int .u64 4, .list [.int .i64 0], .nils], .agg [.int .i64 257, .int .u64 4, .list [.int .i64 1], .nils]]] (encFn Ss.smallB) := by
 intro S
 have hcv : ∀ l, (vl encIns l).closed1 = true := fun _ => rfl
 have hk1 : ∀ k n, (V.int k n).closed1 = true := fun _ _ => rfl
 have hk2 : ∀ l, (V.list l).closed1 = true := fun _ => rfl
 have hr2 : rep0 [V.int .i64 0] 2 = [.int .i64 0, .int .i64 0] := rfl
 have hr1 : rep0 [V.int .i64 0] 1 = [.int .i64 0] := rfl
 have hr4 : rep0 [V.int .i64 0, .int .u64 0, .nils, .nils] 1 = [.int .i64 0, .int .u64 0, .nils, .nils] := rfl
 have hr6 : rep0 [V.nils, .nils, .int .i64 0, .int .i64 0, .nils, .nils] 1 = [.nils, .nils, .int .i64 0, .int .i64 0, .nils, .nils] := rfl
 refine vcalls_startC (c := bodyOf Try.f37) Try.func37 rfl (by conv => lhs; reduce) (by simp [Try.ntmps37]) ?_
 rw [Try.ntmps37]
 intro hwf
 repeat refine QS ?_
 refine QR (r:=by conv=>lhs;simp[-List.map_set,QV]) (k:=?_)
 refine QN ?_
 repeat refine QS ?_
 refine QR (r:=by conv=>lhs;simp[-List.map_set,QV,hr2,hr1,hr4,hr6,opAppend,srcCells]) (k:=?_)
 refine QN ?_
 apply vw_reach
 ·exact Reach.nilCell (k := 3) (i := 2) (by simp) (by rfl) (by rfl)
 simp only [List.set_cons_succ, List.set_cons_zero]
 apply vw_reach
 ·exact Reach.nilCell (k := 3) (i := 3) (by simp) (by rfl) (by rfl)
 simp only [List.set_cons_succ, List.set_cons_zero]
 apply vw_reach
 ·exact Reach.nilCell (k := 3) (i := 7) (by simp) (by rfl) (by rfl)
 simp only [List.set_cons_succ, List.set_cons_zero]
 apply vw_reach
 ·exact Reach.nilCell (k := 3) (i := 11) (by simp) (by rfl) (by rfl)
 simp only [List.set_cons_succ, List.set_cons_zero]
 apply vw_reach
 ·exact Reach.nilCell (k := 3) (i := 15) (by simp) (by rfl) (by rfl)
 simp only [List.set_cons_succ, List.set_cons_zero]
 apply vw_reach
 ·exact Reach.frzCellS (enc := encIns) (s := 4) (fun _ => rfl) encIns_closed (k := 5) (j := 3) (i := 1) [⟨258, 0, [], []⟩, ⟨257, 8, [0], []⟩, ⟨257, 4, [0], []⟩, ⟨257, 4, [1], []⟩] (by decide) (by simp) (by simp) (by rfl) (by rfl) (by rfl)
 simp only [List.set_cons_succ, List.set_cons_zero]
 apply vw_reach
 ·exact Reach.frzCell (k := 5) (j := 1) (i := 0) (by decide) (by simp) (by simp) (by rfl) (by rfl) (by rfl) (by rfl) (by rfl)
 simp only [List.set_cons_succ, List.set_cons_zero]
 apply vw_reach
 ·exact Reach.nilCell (k := 5) (i := 4) (by simp) (by rfl) (by rfl)
 simp only [List.set_cons_succ, List.set_cons_zero]
 apply vw_reach
 ·exact Reach.frzCell (k := 5) (j := 4) (i := 5) (by decide) (by simp) (by simp) (by rfl) (by rfl) (by rfl) (by rfl) (by rfl)
 simp only [List.set_cons_succ, List.set_cons_zero]
 repeat refine QS ?_
 refine vw_drawFrz (ZZ.mk _ (St S [] [none, none, none, none, none, some (6, [.list [.int .i64 0, .int .i64 1], vl encIns [⟨258, 0, [], []⟩, ⟨257, 8, [0], []⟩, ⟨257, 4, [0], []⟩, ⟨257, 4, [1], []⟩], .int .i64 4, .int .i64 0, .list [], .list [.int .i64 0]])]) (St S [] [none, none, none, none, none, some (6, [.list [.int .i64 0, .int .i64 1], vl encIns [⟨258, 0, [], []⟩, ⟨257, 8, [0], []⟩, ⟨257, 4, [0], []⟩, ⟨257, 4, [1], []⟩], .int .i64 4, .int .i64 0, .list [], .list [.int .i64 0]])]) []) [17, 18, 24] rfl (by kernel_rfl) (by conv => lhs; reduce) (by conv => lhs; reduce) (by conv => lhs; reduce) (by kernel_rfl) (by kernel_rfl) (ok_St (by simp [subU, shpU, subL, shpL])) (Store.sub_refl _) (by conv => lhs; simp [-List.map_set,QV, hr2, hr1, hr6, hk1, hk2]) ?_
 refine vseg_write rfl (by conv=>lhs;simp[-List.map_set,QV,hr2]) (ok_St (by simp [subU, shpU, subL, shpL])) ?_
 refine QM (by conv=>lhs;simp[-List.map_set,QV]) ?_
 refine vseg_write rfl (by conv=>lhs;simp[-List.map_set,QV,opAppend,srcCells]) (ok_St (by simp [subU, shpU, subL, shpL])) ?_
 refine QM (by conv=>lhs;simp[-List.map_set,QV,hr6,hk1,hk2,hcv]) ?_
 refine vseg_write rfl (by conv=>lhs;simp[-List.map_set,QV]) (ok_St (by simp [subU, shpU, subL, shpL])) ?_
 refine QN ?_
 apply vw_reach
 ·exact Reach.frzCell (k := 0) (j := 7) (i := 2) (by decide) (by simp) (by simp) (by rfl) (by rfl) (by rfl) (by rfl) (by rfl)
 simp only [List.set_cons_succ, List.set_cons_zero]
 repeat (first|refine QG ?_|refine QX (r:=by conv=>lhs;simp[-List.map_set,QV]) (k:=?_))
 exact doneC (by simp; rfl) (done_pure hwf (by simp [Ss.smallB, vl]) rfl)
theorem ghost_single {x x' : V} {S S' : Store} (h : GhostArgs [x] S [x'] S') : Ghost x S x' S' := by
 intro m β w v hS hr
 obtain ⟨m', β', h1, h2, h3⟩ := h m β w [v] hS ((RepL.nil m β).cons hr)
 exact ⟨m', β', h1, h2, h3.2 0 x' v rfl rfl⟩
theorem code13_ghost {S : Store} {oc a b c : Nat} (hc : S.get oc = some (4, [.int .i64 257, .int .u64 8, .slice a 0 1, .nils, .int .i64 257, .int .u64 4, .slice b 0 1, .nils, .int .i64 257, .int .u64 4, .slice c 0 1, .nils])) (ha : S.get a = some (1, [.int .i64 0])) (hb : S.get b = some (1, [.int .i64 0])) (hcc : S.get c = some (1, [.int .i64 1])) (hd : [oc, a, b, c].Nodup) :
  Ghost (.slice oc 0 3) S (.list [.agg [.int .i64 257, .int .u64 8, .list [.int .i64 0], .nils], .agg [.int .i64 257, .int .u64 4, .list [.int .i64 0], .nils], .agg [.int .i64 257, .int .u64 4, .list [.int .i64 1], .nils]]) (S.dels [oc, a, b, c]) := by
 have hw : OwL S (reps 3 [.c, .c, .s (List.replicate 1 .c), .c]) [.int .i64 257, .int .u64 8, .slice a 0 1, .nils, .int .i64 257, .int .u64 4, .slice b 0 1, .nils, .int .i64 257, .int .u64 4, .slice c 0 1, .nils] [.int .i64 257, .int .u64 8, vl vint [0], .nils, .int .i64 257, .int .u64 4, vl vint [0], .nils, .int .i64 257, .int .u64 4, vl vint [1], .nils] [a, b, c] := by
  refine .c rfl (.c rfl (OwL.slice (enc := vint) (fun _ => rfl) (fun _ => rfl) [0] (by rw [flatC_vint]; exact ha) (.c rfl ?_)))
  refine .c rfl (.c rfl (OwL.slice (enc := vint) (fun _ => rfl) (fun _ => rfl) [0] (by rw [flatC_vint]; exact hb) (.c rfl ?_)))
  exact .c rfl (.c rfl (OwL.slice (enc := vint) (fun _ => rfl) (fun _ => rfl) [1] (by rw [flatC_vint]; exact hcc) (.c rfl .nil)))
 have := OwL.s (S := S) (o := oc) (tys := [.c, .c, .s (List.replicate 1 .c), .c]) (cells := [.int .i64 257, .int .u64 8, .slice a 0 1, .nils, .int .i64 257, .int .u64 4, .slice b 0 1, .nils, .int .i64 257, .int .u64 4, .slice c 0 1, .nils]) (ys := [.agg [.int .i64 257, .int .u64 8, .list [.int .i64 0], .nils], .agg [.int .i64 257, .int .u64 4, .list [.int .i64 0], .nils], .agg [.int .i64 257, .int .u64 4, .list [.int .i64 1], .nils]]) (i := [a, b, c]) (j := []) hc (fun y hy => by
  simp only [List.mem_cons, List.not_mem_nil, or_false] at hy
  rcases hy with rfl | rfl | rfl <;> exact ⟨rfl, rfl⟩) hw .nil
 exact ghost_single (this.freeze hd S fun _ _ => rfl)
theorem Alive13_v : VPure Try.prog 8 [] (.bool true) := by
 intro S
 have hr1 : rep0 [V.int .i64 0] 1 = [.int .i64 0] := rfl
 have hr3 : rep0 [V.int .i64 0, .int .u64 0, .nils, .nils] 3 = [.int .i64 0, .int .u64 0, .nils, .nils, .int .i64 0, .int .u64 0, .nils, .nils, .int .i64 0, .int .u64 0, .nils, .nils] := rfl
 have cs := small13_v
 have cb := BceP_v Ss.envB Ss.smallB Ss.envB_fits Ss.smallB_fits
 rw [Ss.smallB_out] at cb
 have hF' : encFn Ss.smallB' = .agg [vl vint [127, 127], vl vint [127], vl vint [127, 127], vl encBlock [⟨[0, 1], [⟨258, 0, [], []⟩, ⟨257, 8, [0], []⟩, ⟨257, 4, [1], []⟩], ⟨4, 0, [], [0]⟩⟩]] := rfl
 obtain ⟨f1, f2, f3, f4, hF, o1, o2, o3, o4⟩ : ∃ f1 f2 f3 f4, encFn Ss.smallB = .agg [f1, f2, f3, f4] ∧ f1.one = true ∧ f2.one = true ∧ f3.one = true ∧ f4.one = true := ⟨_, _, _, _, rfl, rfl, rfl, rfl, rfl⟩
 rw [hF] at cs cb
 rw [hF'] at cb
 refine vcalls_start (c := bodyOf Try.f8) Try.func8 rfl rfl (by simp [Try.ntmps8]) ?_
 rw [Try.ntmps8]
 intro hwf
 repeat refine QS ?_
 refine QR (r:=by conv=>lhs;simp[-List.map_set,QV]) (k:=?_)
 refine QN ?_
 repeat refine QS ?_
 refine QR (r:=by conv=>lhs;simp[-List.map_set,QV]) (k:=?_)
 refine QN ?_
 refine vw_ghost' 1 rfl ((refSt (k := 0) (by simp) (by rfl) (by rfl) (by simp))) (by conv => lhs; simp [Fr.set]) ?_
 simp only [List.set_cons_succ, List.set_cons_zero]
 repeat refine QS ?_
 refine QR (r:=by conv=>lhs;simp[-List.map_set,QV,hr1,hr3]) (k:=?_)
 have hg := @code13_ghost (St S [] [none, some (1, [.int .i64 0]), some (1, [.int .i64 0]), some (1, [.int .i64 1]), some (4, [.int .i64 257, .int .u64 8, .slice (lid S.nx 1) 0 1, .nils, .int .i64 257, .int .u64 4, .slice (lid S.nx 2) 0 1, .nils, .int .i64 257, .int .u64 4, .slice (lid S.nx 3) 0 1, .nils])]) (lid S.nx 4) (lid S.nx 1) (lid S.nx 2) (lid S.nx 3) (by rw [St_get]; rfl) (by rw [St_get]; rfl) (by rw [St_get]; rfl) (by rw [St_get]; rfl) (by simp [lid])
 refine vcall_useG rfl (GhostArgs.one [_, _] [] hg) cs ?_
 have hdl : (St S [] [none, some (1, [.int .i64 0]), some (1, [.int .i64 0]), some (1, [.int .i64 1]), some (4, [.int .i64 257, .int .u64 8, .slice (lid S.nx 1) 0 1, .nils, .int .i64 257, .int .u64 4, .slice (lid S.nx 2) 0 1, .nils, .int .i64 257, .int .u64 4, .slice (lid S.nx 3) 0 1, .nils])]).dels [lid S.nx 4, lid S.nx 1, lid S.nx 2, lid S.nx 3] = St S [] [none, none, none, none, none] := by
  simp [Store.dels, St_del]
 rw [hdl]
 refine QM (by conv=>lhs;simp[-List.map_set,QV,o1,o2,o3,o4]) ?_
 refine QN ?_
 repeat refine QS ?_
 refine QR (r:=by conv=>lhs;simp[-List.map_set,QV,o1,o2,o3,o4]) (k:=?_)
 refine vcall_useG rfl (GhostArgs.one [] [_] (envB_ghost _)) cb ?_
 refine QM (by conv=>lhs;simp[-List.map_set,QV]) ?_
 refine QN ?_
 have hix : ∀ S, opIndex 4 S (vl encIns [⟨258, 0, [], []⟩, ⟨257, 8, [0], []⟩, ⟨257, 4, [1], []⟩]) (.int .i64 1) = some (.ref (encIns ⟨257, 8, [0], []⟩)) := fun _ => rfl
 repeat (first|refine QG ?_|refine QX (r:=by conv=>lhs;simp[-List.map_set,QV,hix]) (k:=?_))
 exact done_pure (X := .bool true) hwf (by simp) rfl
end Go.Vw

namespace Go.Vw
open Go.Proofs Go.RowKit
set_option maxRecDepth 10000
set_option maxHeartbeats 2000000
end Go.Vw

namespace Go.Vw
open Go.Proofs Go.RowKit
set_option maxRecDepth 10000
set_option maxHeartbeats 4000000
theorem BceApart_v (e : Ss.Env) (f : Ss.Fn) (he : e.Fits) (hf : f.Fits) : VPure Try.prog 4 [encEnv e, encFn f] (.bool true) := by
 intro S
 have cb := BceP_v e f he hf
 have cal := Alive13_v
 obtain ⟨al, hal⟩ : ∃ al, al = true := ⟨_, rfl⟩
 rw [← hal] at cal
 cases hc : Ss.check e f with
 | false =>
  rw [Ss.bceOut_f hc] at cb
  obtain ⟨⟨fi, fo⟩, ts, bs⟩ := f
  obtain ⟨sg, im, gl, mu, me⟩ := e
  have cb' : VPure Try.prog 6 [.agg [vl encSig sg, vint im, vl vint gl, vl V.bool mu, .bool me], .agg [vl vint fi, vl vint fo, vl vint ts, vl encBlock bs]] (.tuple [.agg [vl vint [], vl vint [], vl vint [], vl encBlock []], vint 6]) := cb
  refine vcalls_start (c := bodyOf Try.f4) Try.func4 rfl rfl (by simp [Try.ntmps4]) ?_
  rw [Try.ntmps4]
  intro hwf
  repeat refine QS ?_
  refine QR (r:=by conv=>lhs;simp[-List.map_set,QV]) (k:=?_)
  refine QN ?_
  refine vw_ghost' 2 rfl ((refSt (k := 0) (by simp) (by rfl) (by rfl) (by simp))) (by conv => lhs; simp [Fr.set]) ?_
  simp only [List.set_cons_succ, List.set_cons_zero]
  refine vw_ghost' 3 rfl ((refSt (k := 1) (by simp) (by rfl) (by rfl) (by simp))) (by conv => lhs; simp [Fr.set]) ?_
  simp only [List.set_cons_succ, List.set_cons_zero]
  repeat refine QS ?_
  refine QR (r:=by conv=>lhs;simp[-List.map_set,QV]) (k:=?_)
  refine vcall_useH (cb') (by rfl) ?_
  refine QM (by conv=>lhs;simp[-List.map_set,QV]) ?_
  refine QN ?_
  repeat (first|refine QG ?_|refine QX (r:=by conv=>lhs;simp[-List.map_set,QV]) (k:=?_))
  repeat refine QS ?_
  refine QR (r:=by conv=>lhs;simp[-List.map_set,QV]) (k:=?_)
  refine vcall_useH (cal) (by rfl) ?_
  refine QM (by conv=>lhs;simp[-List.map_set,QV,hal]) ?_
  refine QN ?_
  repeat (first|refine QG ?_|refine QX (r:=by conv=>lhs;simp[-List.map_set,QV]) (k:=?_))
  exact done_pure (X := .bool true) hwf (by simp) rfl
 | true =>
  rw [Ss.bceOut_t hc] at cb
  have hgc := Ss.bceF_check hc
  have hid := Ss.bceF_idem hc
  have hgf := Ss.bceF_fits hf
  have hap := Ss.apart hgc hgf hid
  have hgr := Ss.graphic hgc
  have hgs : (Ss.bceF f).small = true := Ss.check_small hgc
  have cck := RCheck_v e (Ss.bceF f) he hgf
  rw [Ss.check_agrees hgf] at cck
  have csu := RSucc_v (Ss.bceF f) hgf hgs
  have cne := RNearI_v (Ss.succs (Ss.bceF f).blocks) (succs_fits hgf).1 (succs_fits hgf).2 hgr.right
  rw [hgr.near] at cne
  have hnl := hgr.nlen
  have hbl := hgr.blocks
  have hargs : ∀ b ∈ (Ss.bceF f).blocks, ∀ x ∈ b.code, x.op = 257 → x.args ≠ [] := fun b hb x hx ho => by
   have := Ss.check_257 hgc hb hx ho
   exact fun e => by rw [e] at this; simp at this
  have hsm := (Ss.small_iff _).1 hgs
  have hlen : ∀ b ∈ (Ss.bceF f).blocks, b.code.length ≤ 4096 := fun b hb => by
   have h1 := hsm.2.2
   have := count_mem hb
   omega
  generalize Ss.check e (Ss.bceF f) = ck at *
  generalize G.rNear (G.nats (Ss.succs (Ss.bceF f).blocks)) = near at *
  generalize Ss.succs (Ss.bceF f).blocks = sc at *
  generalize Ss.bceF f = g at *
  obtain ⟨⟨fi, fo⟩, ts, bs⟩ := f
  obtain ⟨⟨gi, go⟩, gt, gb⟩ := g
  obtain ⟨sg, im, gl, mu, me⟩ := e
  simp only at *
  have cb' : VPure Try.prog 6 [.agg [vl encSig sg, vint im, vl vint gl, vl V.bool mu, .bool me], .agg [vl vint fi, vl vint fo, vl vint ts, vl encBlock bs]] (.tuple [.agg [vl vint gi, vl vint go, vl vint gt, vl encBlock gb], vint 0]) := cb
  have cck' : VPure Try.prog 7 [.agg [vl encSig sg, vint im, vl vint gl, vl V.bool mu, .bool me], .agg [vl vint gi, vl vint go, vl vint gt, vl encBlock gb]] (.bool ck) := cck
  have csu' : VPure Try.prog 11 [.agg [vl vint gi, vl vint go, vl vint gt, vl encBlock gb]] (vl (vl vint) sc) := csu
  refine vcalls_start (c := bodyOf Try.f4) Try.func4 rfl rfl (by simp [Try.ntmps4]) ?_
  rw [Try.ntmps4]
  intro hwf
  repeat refine QS ?_
  refine QR (r:=by conv=>lhs;simp[-List.map_set,QV]) (k:=?_)
  refine QN ?_
  refine vw_ghost' 2 rfl ((refSt (k := 0) (by simp) (by rfl) (by rfl) (by simp))) (by conv => lhs; simp [Fr.set]) ?_
  simp only [List.set_cons_succ, List.set_cons_zero]
  refine vw_ghost' 3 rfl ((refSt (k := 1) (by simp) (by rfl) (by rfl) (by simp))) (by conv => lhs; simp [Fr.set]) ?_
  simp only [List.set_cons_succ, List.set_cons_zero]
  repeat refine QS ?_
  refine QR (r:=by conv=>lhs;simp[-List.map_set,QV]) (k:=?_)
  refine vcall_useH (cb') (by rfl) ?_
  refine QM (by conv=>lhs;simp[-List.map_set,QV]) ?_
  refine QN ?_
  refine vw_ghost' 5 rfl ((refSt (k := 2) (by simp) (by rfl) (by rfl) (by simp))) (by conv => lhs; simp [Fr.set]) ?_
  simp only [List.set_cons_succ, List.set_cons_zero]
  repeat refine QS ?_
  refine QR (r:=by conv=>lhs;simp[-List.map_set,QV]) (k:=?_)
  refine vcall_useH (cck') (by rfl) ?_
  refine QM (by conv=>lhs;simp[-List.map_set,QV,hgc]) ?_
  refine QN ?_
  repeat (first|refine QG ?_|refine QX (r:=by conv=>lhs;simp[-List.map_set,QV]) (k:=?_))
  repeat refine QS ?_
  refine QR (r:=by conv=>lhs;simp[-List.map_set,QV]) (k:=?_)
  refine vcall_useH (csu') (by rfl) ?_
  refine QM (by conv=>lhs;simp[-List.map_set,QV]) ?_
  refine vcall_useH (cne) (by rfl) ?_
  refine QM (by conv=>lhs;simp[-List.map_set,QV]) ?_
  refine QN ?_
  refine vw_only' [5, 7] (by conv => lhs; simp [Fr.only, Fr.look]) ?_
  refine vw_gc [] hwf (by decide) (by simp [-List.map_set]) (by conv => lhs; simp [-List.map_set]) (by conv => lhs; simp [-List.map_set]) (by conv => lhs; simp [-List.map_set]) ?_
  repeat (first|refine QG ?_|refine QX (r:=by conv=>lhs;simp[-List.map_set,QV]) (k:=?_))
  repeat refine QS ?_
  refine vw_loopAt [5, 7, 45, 46, 47] rfl (fun c σ S' => ∃ (i : Nat), i ≤ gb.length ∧ c = gb.length - i ∧ σ = [(5, .ref (.agg [vl vint gi, vl vint go, vl vint gt, vl encBlock gb])), (7, vl vint near), (45, vl encBlock gb), (46, vnat gb.length), (47, vnat i)] ∧ S' = St S [] []) gb.length ?_ ?_
  ·exact ⟨0, by omega, rfl, by simp [Fr.only, Fr.look], rfl⟩
  rintro c σ S' ⟨i, hi, rfl, rfl, rfl⟩
  by_cases hit : i < gb.length
  case neg =>
   repeat (first|refine QG ?_|refine QX (r:=by conv=>lhs;simp[-List.map_set,QV,hit]) (k:=?_))
   repeat refine QS ?_
   refine QR (r:=by conv=>lhs;simp[-List.map_set,QV]) (k:=?_)
   refine vcall_useH (cal) (by rfl) ?_
   refine QM (by conv=>lhs;simp[-List.map_set,QV,hal]) ?_
   refine QN ?_
   repeat (first|refine QG ?_|refine QX (r:=by conv=>lhs;simp[-List.map_set,QV]) (k:=?_))
   exact done_pure (X := .bool true) hwf (by simp) rfl
  have hwi := wrapNat hit (by omega)
  obtain ⟨b, hb⟩ : ∃ b, gb[i] = b := ⟨_, rfl⟩
  have hgi : gb[i]? = some b := by rw [List.getElem?_eq_getElem hit, hb]
  have hapi := hap i b hgi
  have hbm : b ∈ gb := hb ▸ List.getElem_mem hit
  have hbargs := hargs b hbm
  have hbl2 := hlen b hbm
  obtain ⟨bp, code, ⟨tk, ta, tt, tz⟩⟩ := b
  simp only at hapi hbargs hbl2
  repeat (first|refine QG ?_|refine QX (r:=by conv=>lhs;simp[-List.map_set,QV,hit,hb]) (k:=?_))
  refine vw_ghost' 10 rfl ((refSt (k := 0) (by simp) (by rfl) (by rfl) (by simp))) (by conv => lhs; simp [Fr.set]) ?_
  simp only [List.set_cons_succ, List.set_cons_zero]
  refine vw_only' [5, 7, 9, 10, 45, 46, 47, 53, 54, 55] (by conv => lhs; simp [Fr.only, Fr.look]) ?_
  refine vw_gc [] hwf (by decide) (by simp [-List.map_set]) (by conv => lhs; simp [-List.map_set]) (by conv => lhs; simp [-List.map_set]) (by conv => lhs; simp [-List.map_set]) ?_
  repeat refine QS ?_
  refine vw_loopAt [5, 7, 9, 10, 45, 46, 47, 53, 54, 55] rfl (fun c σ S' => ∃ (k : Nat), k ≤ code.length ∧ c = code.length - k ∧ σ = [(5, .ref (.agg [vl vint gi, vl vint go, vl vint gt, vl encBlock gb])), (7, vl vint near), (9, vnat i), (10, .ref (encBlock ⟨bp, code, ⟨tk, ta, tt, tz⟩⟩)), (45, vl encBlock gb), (46, vnat gb.length), (47, vnat i), (53, vl encIns code), (54, vnat code.length), (55, vnat k)] ∧ S' = St S [] []) code.length ?_ ?_
  ·exact ⟨0, by omega, rfl, by simp [Fr.only, Fr.look], rfl⟩
  rintro c σ S' ⟨k, hk, rfl, rfl, rfl⟩
  by_cases hkt : k < code.length
  case neg =>
   repeat (first|refine QG ?_|refine QX (r:=by conv=>lhs;simp[-List.map_set,QV,hkt,hwi]) (k:=?_))
   show Again _ _ _ _ _ _ _
   exact again ⟨Nat.sub_lt_sub_left hit (Nat.lt_succ_self i), i + 1, hit, rfl, by simp [Fr.only, Fr.look], rfl⟩
  have hwk := wrapNat hkt (by omega)
  obtain ⟨x, hx⟩ : ∃ x, code[k] = x := ⟨_, rfl⟩
  obtain ⟨hap1, hap2⟩ := hapi k x (by rw [List.getElem?_eq_getElem hkt, hx])
  have hxargs : x.op = 257 → x.args ≠ [] := hbargs x (hx ▸ List.getElem_mem hkt)
  obtain ⟨xo, xn, xa, xu⟩ := x
  have hks : (k : Int) ≤ (code.length : Int) := by omega
  repeat (first|refine QG ?_|refine QX (r:=by conv=>lhs;simp[-List.map_set,QV,hkt,hx]) (k:=?_))
  refine vw_ghost' 12 rfl ((refSt (k := 0) (by simp) (by rfl) (by rfl) (by simp))) (by conv => lhs; simp [Fr.set]) ?_
  simp only [List.set_cons_succ, List.set_cons_zero]
  refine vw_only' [5, 7, 9, 10, 11, 12, 45, 46, 47, 53, 54, 55] (by conv => lhs; simp [Fr.only, Fr.look]) ?_
  refine vw_gc [] hwf (by decide) (by simp [-List.map_set]) (by conv => lhs; simp [-List.map_set]) (by conv => lhs; simp [-List.map_set]) (by conv => lhs; simp [-List.map_set]) ?_
  have hmin : min k code.length = k := by omega
  have htl : (code.take k).length = k := by rw [List.length_take]; omega
  repeat (first|refine QG ?_|refine QX (r:=by conv=>lhs;simp[-List.map_set,QV,hk,htl]) (k:=?_))
  have hcv1 : ∀ d ∈ code.take k, VPure Try.prog 12 [encIns d, encIns ⟨xo, xn, xa, xu⟩] (.bool false) := fun d hd => by
   have := Covers_v d ⟨xo, xn, xa, xu⟩ (hbargs d (List.mem_of_mem_take hd)) hxargs
   rwa [hap1 d hd] at this
  generalize code.take k = cs at *
  repeat refine QS ?_
  refine vw_loopAt [5, 7, 9, 10, 12, 45, 46, 47, 53, 54, 55, 63, 64, 65] rfl (fun c σ S' => ∃ (a : Nat), a ≤ k ∧ c = k - a ∧ σ = [(5, .ref (.agg [vl vint gi, vl vint go, vl vint gt, vl encBlock gb])), (7, vl vint near), (9, vnat i), (10, .ref (encBlock ⟨bp, code, ⟨tk, ta, tt, tz⟩⟩)), (12, .ref (encIns ⟨xo, xn, xa, xu⟩)), (45, vl encBlock gb), (46, vnat gb.length), (47, vnat i), (53, vl encIns code), (54, vnat code.length), (55, vnat k), (63, vl encIns cs), (64, vnat k), (65, vnat a)] ∧ S' = St S [] []) k ?_ ?_
  ·exact ⟨0, by omega, rfl, by simp [Fr.only, Fr.look], rfl⟩
  rintro c σ S' ⟨a, ha, rfl, rfl, rfl⟩
  by_cases hat : a < k
  case pos =>
   have hwa := wrapNat hat (by omega)
   have hac : a < cs.length := by omega
   obtain ⟨d, hd⟩ : ∃ d, cs[a] = d := ⟨_, rfl⟩
   have cdv := hcv1 d (hd ▸ List.getElem_mem hac)
   obtain ⟨do', dn, da, du⟩ := d
   repeat (first|refine QG ?_|refine QX (r:=by conv=>lhs;simp[-List.map_set,QV,hat,hac,hd]) (k:=?_))
   refine vw_ghost' 14 rfl ((refSt (k := 0) (by simp) (by rfl) (by rfl) (by simp))) (by conv => lhs; simp [Fr.set]) ?_
   simp only [List.set_cons_succ, List.set_cons_zero]
   repeat refine QS ?_
   refine QR (r:=by conv=>lhs;simp[-List.map_set,QV]) (k:=?_)
   refine vcall_useH (cdv) (by rfl) ?_
   refine QM (by conv=>lhs;simp[-List.map_set,QV]) ?_
   refine QN ?_
   repeat (first|refine QG ?_|refine QX (r:=by conv=>lhs;simp[-List.map_set,QV,hwa]) (k:=?_))
   refine QA [] (h:=⟨?_, a + 1, hat, rfl, by simp, by simp⟩)
   omega
  have hae : a = k := by omega
  subst hae
  repeat (first|refine QG ?_|refine QX (r:=by conv=>lhs;simp[-List.map_set,QV,hat]) (k:=?_))
  repeat refine QS ?_
  refine vw_loopAt [5, 7, 9, 10, 12, 45, 46, 47, 53, 54, 55, 74, 75, 76] rfl (fun c σ S' => ∃ (j : Nat), j ≤ gb.length ∧ c = gb.length - j ∧ σ = [(5, .ref (.agg [vl vint gi, vl vint go, vl vint gt, vl encBlock gb])), (7, vl vint near), (9, vnat i), (10, .ref (encBlock ⟨bp, code, ⟨tk, ta, tt, tz⟩⟩)), (12, .ref (encIns ⟨xo, xn, xa, xu⟩)), (45, vl encBlock gb), (46, vnat gb.length), (47, vnat i), (53, vl encIns code), (54, vnat code.length), (55, vnat a), (74, vl encBlock gb), (75, vnat gb.length), (76, vnat j)] ∧ S' = St S [] []) gb.length ?_ ?_
  ·exact ⟨0, by omega, rfl, by simp [Fr.only, Fr.look], rfl⟩
  rintro c σ S' ⟨j, hj, rfl, rfl, rfl⟩
  by_cases hjt : j < gb.length
  case neg =>
   repeat (first|refine QG ?_|refine QX (r:=by conv=>lhs;simp[-List.map_set,QV,hjt,hwk]) (k:=?_))
   show Again _ _ _ _ _ _ _
   exact again ⟨Nat.sub_lt_sub_left hkt (Nat.lt_succ_self a), a + 1, hkt, rfl, by simp [Fr.only, Fr.look], rfl⟩
  have hwj := wrapNat hjt (by omega)
  obtain ⟨o, ho⟩ : ∃ o, gb[j] = o := ⟨_, rfl⟩
  have hap3 := hap2 j o (by rw [List.getElem?_eq_getElem hjt, ho])
  have hom : o ∈ gb := ho ▸ List.getElem_mem hjt
  have hoargs := hargs o hom
  have hol := hlen o hom
  obtain ⟨op', oc, ⟨ok, oa, ot, oz⟩⟩ := o
  simp only at hap3 hoargs hol
  have hcv2 : j ≠ i → G.dominates near j i = true → ∀ d ∈ oc, VPure Try.prog 12 [encIns d, encIns ⟨xo, xn, xa, xu⟩] (.bool false) := fun h1 h2 d hd => by
   have := Covers_v d ⟨xo, xn, xa, xu⟩ (hoargs d hd) hxargs
   rwa [hap3 h1 h2 d hd] at this
  have cdm := RDominates_v near j i (by omega)
  repeat (first|refine QG ?_|refine QX (r:=by conv=>lhs;simp[-List.map_set,QV,hjt,ho]) (k:=?_))
  refine vw_ghost' 16 rfl ((refSt (k := 0) (by simp) (by rfl) (by rfl) (by simp))) (by conv => lhs; simp [Fr.set]) ?_
  simp only [List.set_cons_succ, List.set_cons_zero]
  by_cases hji : j = i
  case pos =>
   have hji' : ((j : Nat) : Int) = (i : Int) := by rw [hji]
   repeat (first|refine QG ?_|refine QX (r:=by conv=>lhs;simp[-List.map_set,QV,hji',hwi]) (k:=?_))
   refine QA [] (h:=⟨?_, j + 1, hjt, rfl, by simp [hji], by simp⟩)
   omega
  have hji' : ¬ ((j : Nat) : Int) = (i : Int) := by omega
  obtain ⟨dm, hdm⟩ : ∃ dm, G.dominates near j i = dm := ⟨_, rfl⟩
  rw [hdm] at cdm hcv2
  repeat (first|refine QG ?_|refine QX (r:=by conv=>lhs;simp[-List.map_set,QV,hji']) (k:=?_))
  repeat refine QS ?_
  refine QR (r:=by conv=>lhs;simp[-List.map_set,QV,hji']) (k:=?_)
  refine vcall_useH (cdm) (by rfl) ?_
  by_cases hy : dm = true
  case neg =>
   have hy' : dm = false := by simpa using hy
   refine QM (by conv=>lhs;simp[-List.map_set,QV,hy']) ?_
   refine QN ?_
   repeat (first|refine QG ?_|refine QX (r:=by conv=>lhs;simp[-List.map_set,QV,hwj]) (k:=?_))
   refine QA [] (h:=⟨?_, j + 1, hjt, rfl, by simp, by simp⟩)
   omega
  refine QM (by conv=>lhs;simp[-List.map_set,QV,hy]) ?_
  refine QN ?_
  repeat (first|refine QG ?_|refine QX (r:=by conv=>lhs;simp[-List.map_set,QV]) (k:=?_))
  have cov2 := hcv2 hji hy
  refine vw_only' [5, 7, 9, 10, 12, 45, 46, 47, 53, 54, 55, 74, 75, 76, 92, 93, 94] (by conv => lhs; simp [Fr.only, Fr.look]) ?_
  refine vw_gc [] hwf (by decide) (by simp [-List.map_set]) (by conv => lhs; simp [-List.map_set]) (by conv => lhs; simp [-List.map_set]) (by conv => lhs; simp [-List.map_set]) ?_
  repeat refine QS ?_
  refine vw_loopAt [5, 7, 9, 10, 12, 45, 46, 47, 53, 54, 55, 74, 75, 76, 92, 93, 94] rfl (fun c σ S' => ∃ (m : Nat), m ≤ oc.length ∧ c = oc.length - m ∧ σ = [(5, .ref (.agg [vl vint gi, vl vint go, vl vint gt, vl encBlock gb])), (7, vl vint near), (9, vnat i), (10, .ref (encBlock ⟨bp, code, ⟨tk, ta, tt, tz⟩⟩)), (12, .ref (encIns ⟨xo, xn, xa, xu⟩)), (45, vl encBlock gb), (46, vnat gb.length), (47, vnat i), (53, vl encIns code), (54, vnat code.length), (55, vnat a), (74, vl encBlock gb), (75, vnat gb.length), (76, vnat j), (92, vl encIns oc), (93, vnat oc.length), (94, vnat m)] ∧ S' = St S [] []) oc.length ?_ ?_
  ·exact ⟨0, by omega, rfl, by simp [Fr.only, Fr.look], rfl⟩
  rintro c σ S' ⟨m, hm, rfl, rfl, rfl⟩
  by_cases hmt : m < oc.length
  case neg =>
   repeat (first|refine QG ?_|refine QX (r:=by conv=>lhs;simp[-List.map_set,QV,hmt,hwj]) (k:=?_))
   show Again _ _ _ _ _ _ _
   exact again ⟨Nat.sub_lt_sub_left hjt (Nat.lt_succ_self j), j + 1, hjt, rfl, by simp [Fr.only, Fr.look], rfl⟩
  have hwm := wrapNat hmt (by omega)
  obtain ⟨d, hd⟩ : ∃ d, oc[m] = d := ⟨_, rfl⟩
  have cdv := cov2 d (hd ▸ List.getElem_mem hmt)
  obtain ⟨do', dn, da, du⟩ := d
  repeat (first|refine QG ?_|refine QX (r:=by conv=>lhs;simp[-List.map_set,QV,hmt,hd]) (k:=?_))
  refine vw_ghost' 18 rfl ((refSt (k := 0) (by simp) (by rfl) (by rfl) (by simp))) (by conv => lhs; simp [Fr.set]) ?_
  simp only [List.set_cons_succ, List.set_cons_zero]
  repeat refine QS ?_
  refine QR (r:=by conv=>lhs;simp[-List.map_set,QV]) (k:=?_)
  refine vcall_useH (cdv) (by rfl) ?_
  refine QM (by conv=>lhs;simp[-List.map_set,QV]) ?_
  refine QN ?_
  repeat (first|refine QG ?_|refine QX (r:=by conv=>lhs;simp[-List.map_set,QV,hwm]) (k:=?_))
  refine QA [] (h:=⟨?_, m + 1, hmt, rfl, by simp, by simp⟩)
  omega
end Go.Vw
