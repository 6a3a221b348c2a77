import Derived.Test.YtcpncecdegmliaaGreatC34
import Derived.Test.YtcpncecdegmliaaGreatC42
import Derived.Test.YtcpncecdegmliaaGreatC30
import Derived.Test.YtcpncecdegmliaaGreatC33
/-
  Part of the proof (texts BThin, BRPure, BAlive, BShp, BChkP).
-/
set_option linter.unusedVariables false
set_option linter.unusedSimpArgs false
namespace Ss
structure ThinB (b c : Block) : Prop where
 params : c.params = b.params
 term : c.term = b.term
 sub : c.code.Sublist b.code
 keep : c.code.filter (fun x => decide (x.op ≠ 257)) = b.code.filter fun x => decide (x.op ≠ 257)
theorem ThinB.refl (b : Block) : ThinB b b := ⟨rfl, rfl, List.Sublist.refl _, rfl⟩
theorem ThinB.trans {a b c : Block} (h : ThinB a b) (k : ThinB b c) : ThinB a c := ⟨k.params.trans h.params, k.term.trans h.term, k.sub.trans h.sub, k.keep.trans h.keep⟩
def ThinL (l m : List Block) : Prop := m.length = l.length ∧ ∀ (i : Nat) (b c : Block), l[i]? = some b → m[i]? = some c → ThinB b c
theorem ThinL.refl (l : List Block) : ThinL l l := ⟨rfl, fun i b c h1 h2 => by rw [h1] at h2; cases h2; exact .refl b⟩
theorem ThinL.trans {l m n : List Block} (h : ThinL l m) (k : ThinL m n) : ThinL l n := by
 refine ⟨k.1.trans h.1, fun i b c h1 h2 => ?_⟩
 have hi : i < m.length := by rw [h.1]; exact (List.getElem?_eq_some_iff.1 h1).1
 exact (h.2 i b m[i] h1 (List.getElem?_eq_getElem hi)).trans (k.2 i m[i] c (List.getElem?_eq_getElem hi) h2)
theorem pcode_thin (near : List Int) (n : Int) : ∀ (code : List Ins) (M : Far), (pcode near n M code).1.Sublist code ∧ (pcode near n M code).1.filter (fun x => decide (x.op ≠ 257)) = code.filter fun x => decide (x.op ≠ 257)
 | [], M => ⟨List.Sublist.refl _, rfl⟩
 | x :: r, M => by
  obtain ⟨h1, h2⟩ := pcode_thin near n r (pnext near n M x)
  rw [pcode]
  by_cases hp : pcov near n M x = true
  ·rw [if_pos hp]
   have ho : x.op = 257 := by
    unfold pcov at hp
    simp only [Bool.and_eq_true, decide_eq_true_eq] at hp
    exact hp.1
   exact ⟨.cons _ h1, by rw [h2, List.filter_cons_of_neg (by simp [ho])]⟩
  ·rw [if_neg hp]
   refine ⟨.cons_cons _ h1, ?_⟩
   by_cases ho : x.op = 257
   ·rw [List.filter_cons_of_neg (by simp [ho]), List.filter_cons_of_neg (by simp [ho]), h2]
   ·rw [List.filter_cons_of_pos (by simp [ho]), List.filter_cons_of_pos (by simp [ho]), h2]
theorem pstep_thin (near : List Int) (bs : List Block) (M : Far) (n : Nat) : ThinL bs (pstep near (bs, M) n).1 := by
 refine ⟨by simp [pstep], fun i b c h1 h2 => ?_⟩
 simp only [pstep] at h2
 by_cases e : n = i
 ·subst e
  have hn : n < bs.length := (List.getElem?_eq_some_iff.1 h1).1
  rw [List.getElem?_set_self hn] at h2
  have hgd : bs.getD n default = b := by rw [List.getD_eq_getElem?_getD, h1]; rfl
  cases h2
  rw [hgd]
  obtain ⟨k1, k2⟩ := pcode_thin near n b.code M
  exact ⟨rfl, rfl, k1, k2⟩
 ·rw [List.getElem?_set_ne e] at h2
  rw [h1] at h2; cases h2; exact .refl b
theorem fold_thin (near : List Int) : ∀ (order : List Nat) (bs : List Block) (M : Far), ThinL bs (order.foldl (pstep near) (bs, M)).1
 | [], bs, M => .refl bs
 | n :: r, bs, M => by
  rw [List.foldl_cons]
  exact (pstep_thin near bs M n).trans (fold_thin near r _ _)
theorem bceF_thin (f : Fn) : ThinL f.blocks (bceF f).blocks := fold_thin _ _ _ _
theorem ThinL.fits {l m : List Block} (h : ThinL l m) (hl : ∀ b ∈ l, b.Fits) : ∀ c ∈ m, c.Fits := by
 intro c hc
 obtain ⟨i, hi⟩ := List.mem_iff_getElem?.1 hc
 have hil : i < l.length := by rw [← h.1]; exact (List.getElem?_eq_some_iff.1 hi).1
 obtain ⟨h1, h2, h3, h4⟩ := h.2 i l[i] c (List.getElem?_eq_getElem hil) hi
 obtain ⟨k1, ⟨k2, k3⟩, k4⟩ := hl _ (List.getElem_mem hil)
 exact ⟨by rw [h1]; exact k1, ⟨Nat.le_trans h3.length_le k2, fun x hx => k3 x (h3.subset hx)⟩, by rw [h2]; exact k4⟩
theorem bceF_fits {f : Fn} (h : f.Fits) : (bceF f).Fits := by
 obtain ⟨h1, h2, h3, h4⟩ := h
 exact ⟨h1, h2, by rw [(bceF_thin f).1]; exact h3, (bceF_thin f).fits h4⟩
theorem emptyFn_fits : emptyFn.Fits := by
 simp [emptyFn, Fn.Fits, Sig.Fits, Ints]
theorem bceOut_fits (e : Env) {f : Fn} (h : f.Fits) : (bceOut e f).1.Fits := by
 unfold bceOut
 split
 ·exact bceF_fits h
 ·exact emptyFn_fits
theorem ThinL.count : ∀ {l m : List Block}, ThinL l m → count m ≤ count l
 | [], m, h => by
  have : m = [] := List.eq_nil_of_length_eq_zero h.1
  subst this; exact Nat.le_refl _
 | b :: l, [], h => by simp [Ss.count]
 | b :: l, c :: m, h => by
  have h1 := (h.2 0 b c rfl rfl).sub.length_le
  have h2 : ThinL l m := ⟨by have := h.1; simpa using this, fun i x y hx hy => h.2 (i + 1) x y (by simpa using hx) (by simpa using hy)⟩
  have := ThinL.count h2
  simp only [Ss.count, List.map_cons, List.sum_cons] at this ⊢
  omega
theorem ThinL.small {f g : Fn} (h : ThinL f.blocks g.blocks) (hs : g.sig = f.sig) (ht : g.types = f.types) (k : f.small = true) : g.small = true := by
 obtain ⟨k1, k2, k3⟩ := (small_iff f).1 k
 refine (small_iff g).2 ⟨?_, fun c hc => ?_, Nat.le_trans h.count k3⟩
 ·simp only [Fn.heads, hs, ht, h.1] at k1 ⊢; exact k1
 ·obtain ⟨i, hi⟩ := List.mem_iff_getElem?.1 hc
  have hil : i < f.blocks.length := by rw [← h.1]; exact (List.getElem?_eq_some_iff.1 hi).1
  obtain ⟨h1, h2, h3, h4⟩ := h.2 i f.blocks[i] c (List.getElem?_eq_getElem hil) hi
  have hb := k2 _ (List.getElem_mem hil)
  simp only [Block.small, Bool.and_eq_true, h1, h2] at hb ⊢
  obtain ⟨⟨⟨⟨a1, a2⟩, a3⟩, a4⟩, a5⟩ := hb
  exact ⟨⟨⟨⟨a1, a2⟩, a3⟩, List.all_eq_true.2 fun x hx => List.all_eq_true.1 a4 x (h3.subset hx)⟩, a5⟩
theorem bceOut_small (e : Env) (f : Fn) : (bceOut e f).1.small = true := by
 unfold bceOut
 split
 ·rename_i h; exact (bceF_thin f).small rfl rfl (check_small h)
 ·rfl
end Ss

namespace Ss
theorem bce_eq {e : Env} {f : Fn} (h : check e f = true) (hf : f.Fits) : bce (Go.Vw.G.rNear (Go.Vw.G.nats (succs f.blocks))) (Go.Vw.G.order (Go.Vw.G.nats (succs f.blocks))) f = bceF f := by
 have hg := graphic h
 refine bce_same (fun n hn => ⟨by omega, ?_⟩) (fun b hb x hx => ((hf.2.2.2 b hb).2.1.2 x hx).2.1.1) hg.lt
 rw [hg.nlen]
 have := hg.lt n hn
 omega
end Ss
namespace Go.Vw
open Go.Proofs Go.RowKit
set_option maxRecDepth 10000
set_option maxHeartbeats 2000000
theorem RBceErr_v (e : Ss.Env) (f : Ss.Fn) (he : e.Fits) (hf : f.Fits) (hc : Ss.check e f = false) : VPure Tryz.prog 7 [encEnv e, encFn f] (.tuple [encFn Ss.emptyFn, vint 6]) := by
 intro S
 have cck := RCheck_v e f he hf
 rw [Ss.check_agrees hf] at cck
 generalize Ss.check e f = ck at *
 obtain ⟨⟨fi, fo⟩, ts, bs⟩ := f
 obtain ⟨sg, im, gl, mu, me⟩ := e
 have cck' : VPure Tryz.prog 14 [.agg [vl encSig sg, vint im, vl vint gl, vl V.bool mu, .bool me], .agg [vl vint fi, vl vint fo, vl vint ts, vl encBlock bs]] (.bool ck) := cck
 refine vcalls_startC (c := bodyOf Tryz.f7) Tryz.func7 rfl (by conv => lhs; reduce) (by simp [Tryz.ntmps7]) ?_
 rw [Tryz.ntmps7]
 intro hwf
 repeat refine QS ?_
 refine QR (r:=by conv=>lhs;simp[-List.map_set,QV]) (k:=?_)
 refine QN ?_
 refine vw_ghost' 2 rfl ((refSt (k := 0) (by simp) (by rfl) (by rfl) (by simp))) (by conv => lhs; simp [Fr.set]) ?_
 simp only [List.set_cons_succ, List.set_cons_zero]
 refine vw_ghost' 3 rfl ((refSt (k := 1) (by simp) (by rfl) (by rfl) (by simp))) (by conv => lhs; simp [Fr.set]) ?_
 simp only [List.set_cons_succ, List.set_cons_zero]
 refine vw_only' [2, 3, 4, 5] (by conv => lhs; simp [Fr.only, Fr.look]) ?_
 refine vw_gc [2] hwf (by decide) (by simp [-List.map_set]) (by conv => lhs; simp [-List.map_set]) (by conv => lhs; simp [-List.map_set]) (by conv => lhs; simp [-List.map_set]) ?_
 repeat refine QS ?_
 refine QR (r:=by conv=>lhs;simp[-List.map_set,QV]) (k:=?_)
 refine vcall_useH (cck') (by rfl) ?_
 refine QM (by conv=>lhs;simp[-List.map_set,QV,hc]) ?_
 refine QN ?_
 repeat (first|refine QG ?_|refine QX (r:=by conv=>lhs;simp[-List.map_set,QV,hc]) (k:=?_))
 refine doneC (xs := [.agg [.nils, .nils, .nils, .nils], .int .i64 6]) (by simp) ?_
 exact done_ghost hwf ((Ghost.tuple [] [_] (empty_ghost _)).toB _) agree_St (by rfl)
theorem RBceP_v (e : Ss.Env) (f : Ss.Fn) (he : e.Fits) (hf : f.Fits) : VPure Tryz.prog 7 [encEnv e, encFn f] (.tuple [encFn (Ss.bceOut e f).1, vint (Ss.bceOut e f).2]) := by
 cases hc : Ss.check e f with
 | false => rw [Ss.bceOut_f hc]; exact RBceErr_v e f he hf hc
 | true =>
  rw [Ss.bceOut_t hc]
  intro S
  have hr := RBce_v S e f he hf hc
  rw [Ss.bce_eq hc hf] at hr
  refine vcalls_wf fun hwf => vcalls_postB (hr.mono ?_)
  rintro r T ⟨r', rfl, hag, hwT, ot, ob, cells, ids, rfl, hot, hob, how, hnd, hids⟩
  have hg := fn_ghostT (fi := f.sig.inn) (fo := f.sig.out) how hob rfl hot rfl hnd
  have hfin : Agree S (T.dels (ot :: ob :: ids)) := by
   refine ⟨by rw [dels_nx]; exact hag.1, fun o ho => ?_⟩
   rw [dels_at, if_neg]
   ·exact hag.2 o ho
   ·intro hm
    have := (hids o hm).1; omega
  exact done_ghost hwf ((Ghost.tuple [] [_] hg).toB _) hfin (by simp [encFn])
end Go.Vw

namespace Ss
def smallB : Fn := ⟨⟨[127, 127], [127]⟩, [127, 127], [⟨[0, 1], [⟨258, 0, [], []⟩, ⟨257, 8, [0], []⟩, ⟨257, 4, [0], []⟩, ⟨257, 4, [1], []⟩], ⟨4, 0, [], [0]⟩⟩]⟩
def smallB' : Fn := ⟨⟨[127, 127], [127]⟩, [127, 127], [⟨[0, 1], [⟨258, 0, [], []⟩, ⟨257, 8, [0], []⟩, ⟨257, 4, [1], []⟩], ⟨4, 0, [], [0]⟩⟩]⟩
def envB : Env := ⟨[], 0, [], [], true⟩
theorem smallB_defs : defsOf smallB = some [⟨true, 0, -1⟩, ⟨true, 0, -1⟩] := by decide
theorem smallB_succs : succs smallB.blocks = [[]] := by decide
theorem smallB_rings : rings smallB.blocks [[]] = false := by
 simp [rings, smallB, tickB, ringM, ringW, List.range_succ]
theorem smallB_shape : shapeOk smallB = true := by
 have h1 : Go.Vw.G.right [[]] = true := by decide
 have h2 : Go.Vw.G.ordI [[]] = [0] := by decide
 have h3 : Go.Vw.G.nats [[]] = [[]] := rfl
 simp only [shapeOk, smallB_succs, h1, h2, h3, smallB_rings]
 decide
theorem numSig_257 : numSig 257 = ((numSig 257).1, (numSig 257).2.1, false) := by
 have : (numSig 257).2.2 = false := by decide
 rw [← this]
theorem smallB_check : check envB smallB = true := by
 have h1 : checkHead envB smallB = true := by decide
 have hf : ∀ n o, form envB 257 n o = ⟨[127], [], 8589934592, true⟩ := fun n o => by
  have e0 : form envB 257 n o = formNum envB 257 := by simp [form]
  rw [e0]
  unfold formNum
  rw [numSig_257]
  simp [envB, formMem]
 have hf2 : ∀ n o, form envB 258 n o = ⟨[], [], 0, true⟩ := fun n o => by simp [form]
 simp only [check, h1, smallB_defs, smallB_shape, Bool.true_and]
 generalize Go.Vw.G.nearI (succs smallB.blocks) = near
 simp [smallB, checkBlocks, checkCode, insOk, hf, hf2, insOut, typesOf, asks, Go.Vw.eqF, termOk, termHead, termTail, branches, askOk]
theorem smallB_bce : bceF smallB = smallB' := by
 have h1 : Go.Vw.G.order (Go.Vw.G.nats (succs smallB.blocks)) = [0] := by decide
 have h2 : Go.Vw.G.rNear (Go.Vw.G.nats (succs smallB.blocks)) = [-1] := by decide
 rw [bceF, h1, h2]
 decide
theorem smallB_out : bceOut envB smallB = (smallB', 0) := by rw [bceOut_t smallB_check, smallB_bce]
theorem smallB_fits : smallB.Fits := by
 simp [smallB, Fn.Fits, Sig.Fits, Ints, Block.Fits, Ins.Fits, Term.Fits, I64]
theorem envB_fits : envB.Fits := by
 simp [envB, Env.Fits, Ints, I64]
end Ss
namespace Go.Vw
open Go.Proofs Go.RowKit
set_option maxRecDepth 10000
set_option maxHeartbeats 8000000
theorem envB_ghost (S : Store) : Ghost (.agg [.nils, .int .i64 0, .nils, .nils, .bool true]) S (encEnv Ss.envB) S := by
 refine Ghost.agg_nl rfl fun i x y hx hy => ?_
 match i, hx, hy with
 | 0, hx, hy => cases hx; cases hy; exact .inr ⟨rfl, rfl⟩
 | 1, hx, hy => cases hx; cases hy; exact .inl rfl
 | 2, hx, hy => cases hx; cases hy; exact .inr ⟨rfl, rfl⟩
 | 3, hx, hy => cases hx; cases hy; exact .inr ⟨rfl, rfl⟩
 | 4, hx, hy => cases hx; cases hy; exact .inl rfl
theorem small13_v : VPure Tryz.prog 33 [.int .i64 0, .nils, .list [.agg [.int .i64 257, .int .u64 8, .list [.int .i64 0], .nils], .agg [.int .i64 257, .int .u64 4, .list [.int .i64 0], .nils], .agg [.int .i64 257, .int .u64 4, .list [.int .i64 1], .nils]]] (encFn Ss.smallB) := by
 intro S
 have hcv : ∀ l, (vl encIns l).closed1 = true := fun _ => rfl
 have hk1 : ∀ k n, (V.int k n).closed1 = true := fun _ _ => rfl
 have hk2 : ∀ l, (V.list l).closed1 = true := fun _ => rfl
 have hr2 : rep0 [V.int .i64 0] 2 = [.int .i64 0, .int .i64 0] := rfl
 have hr1 : rep0 [V.int .i64 0] 1 = [.int .i64 0] := rfl
 have hr4 : rep0 [V.int .i64 0, .int .u64 0, .nils, .nils] 1 = [.int .i64 0, .int .u64 0, .nils, .nils] := rfl
 have hr6 : rep0 [V.nils, .nils, .int .i64 0, .int .i64 0, .nils, .nils] 1 = [.nils, .nils, .int .i64 0, .int .i64 0, .nils, .nils] := rfl
 refine vcalls_startC (c := bodyOf Tryz.f33) Tryz.func33 rfl (by conv => lhs; reduce) (by simp [Tryz.ntmps33]) ?_
 rw [Tryz.ntmps33]
 intro hwf
 repeat refine QS ?_
 refine QR (r:=by conv=>lhs;simp[-List.map_set,QV]) (k:=?_)
 refine QN ?_
 repeat refine QS ?_
 refine QR (r:=by conv=>lhs;simp[-List.map_set,QV,hr2,hr1,hr4,hr6,opAppend,srcCells]) (k:=?_)
 refine QN ?_
 apply vw_reach
 ·exact Reach.nilCell (k := 3) (i := 2) (by simp) (by rfl) (by rfl)
 simp only [List.set_cons_succ, List.set_cons_zero]
 apply vw_reach
 ·exact Reach.nilCell (k := 3) (i := 3) (by simp) (by rfl) (by rfl)
 simp only [List.set_cons_succ, List.set_cons_zero]
 apply vw_reach
 ·exact Reach.nilCell (k := 3) (i := 7) (by simp) (by rfl) (by rfl)
 simp only [List.set_cons_succ, List.set_cons_zero]
 apply vw_reach
 ·exact Reach.nilCell (k := 3) (i := 11) (by simp) (by rfl) (by rfl)
 simp only [List.set_cons_succ, List.set_cons_zero]
 apply vw_reach
 ·exact Reach.nilCell (k := 3) (i := 15) (by simp) (by rfl) (by rfl)
 simp only [List.set_cons_succ, List.set_cons_zero]
 apply vw_reach
 ·exact Reach.frzCellS (enc := encIns) (s := 4) (fun _ => rfl) encIns_closed (k := 5) (j := 3) (i := 1) [⟨258, 0, [], []⟩, ⟨257, 8, [0], []⟩, ⟨257, 4, [0], []⟩, ⟨257, 4, [1], []⟩] (by decide) (by simp) (by simp) (by rfl) (by rfl) (by rfl)
 simp only [List.set_cons_succ, List.set_cons_zero]
 apply vw_reach
 ·exact Reach.frzCell (k := 5) (j := 1) (i := 0) (by decide) (by simp) (by simp) (by rfl) (by rfl) (by rfl) (by rfl) (by rfl)
 simp only [List.set_cons_succ, List.set_cons_zero]
 apply vw_reach
 ·exact Reach.nilCell (k := 5) (i := 4) (by simp) (by rfl) (by rfl)
 simp only [List.set_cons_succ, List.set_cons_zero]
 apply vw_reach
 ·exact Reach.frzCell (k := 5) (j := 4) (i := 5) (by decide) (by simp) (by simp) (by rfl) (by rfl) (by rfl) (by rfl) (by rfl)
 simp only [List.set_cons_succ, List.set_cons_zero]
 repeat refine QS ?_
 refine vw_drawFrz (ZZ.mk _ (St S [] [none, none, none, none, none, some (6, [.list [.int .i64 0, .int .i64 1], vl encIns [⟨258, 0, [], []⟩, ⟨257, 8, [0], []⟩, ⟨257, 4, [0], []⟩, ⟨257, 4, [1], []⟩], .int .i64 4, .int .i64 0, .list [], .list [.int .i64 0]])]) (St S [] [none, none, none, none, none, some (6, [.list [.int .i64 0, .int .i64 1], vl encIns [⟨258, 0, [], []⟩, ⟨257, 8, [0], []⟩, ⟨257, 4, [0], []⟩, ⟨257, 4, [1], []⟩], .int .i64 4, .int .i64 0, .list [], .list [.int .i64 0]])]) []) [17, 18, 24] rfl (by kernel_rfl) (by conv => lhs; reduce) (by conv => lhs; reduce) (by conv => lhs; reduce) (by kernel_rfl) (by kernel_rfl) (ok_St (by simp [subU, shpU, subL, shpL])) (Store.sub_refl _) (by conv => lhs; simp [-List.map_set,QV, hr2, hr1, hr6, hk1, hk2]) ?_
 refine vseg_write rfl (by conv=>lhs;simp[-List.map_set,QV,hr2]) (ok_St (by simp [subU, shpU, subL, shpL])) ?_
 refine QM (by conv=>lhs;simp[-List.map_set,QV]) ?_
 refine vseg_write rfl (by conv=>lhs;simp[-List.map_set,QV,opAppend,srcCells]) (ok_St (by simp [subU, shpU, subL, shpL])) ?_
 refine QM (by conv=>lhs;simp[-List.map_set,QV,hr6,hk1,hk2,hcv]) ?_
 refine vseg_write rfl (by conv=>lhs;simp[-List.map_set,QV]) (ok_St (by simp [subU, shpU, subL, shpL])) ?_
 refine QN ?_
 apply vw_reach
 ·exact Reach.frzCell (k := 0) (j := 7) (i := 2) (by decide) (by simp) (by simp) (by rfl) (by rfl) (by rfl) (by rfl) (by rfl)
 simp only [List.set_cons_succ, List.set_cons_zero]
 repeat (first|refine QG ?_|refine QX (r:=by conv=>lhs;simp[-List.map_set,QV]) (k:=?_))
 exact doneC (by simp; rfl) (done_pure hwf (by simp [Ss.smallB, vl]) rfl)
theorem ghost_single {x x' : V} {S S' : Store} (h : GhostArgs [x] S [x'] S') : Ghost x S x' S' := by
 intro m β w v hS hr
 obtain ⟨m', β', h1, h2, h3⟩ := h m β w [v] hS ((RepL.nil m β).cons hr)
 exact ⟨m', β', h1, h2, h3.2 0 x' v rfl rfl⟩
theorem code13_ghost {S : Store} {oc a b c : Nat} (hc : S.get oc = some (4, [.int .i64 257, .int .u64 8, .slice a 0 1, .nils, .int .i64 257, .int .u64 4, .slice b 0 1, .nils, .int .i64 257, .int .u64 4, .slice c 0 1, .nils])) (ha : S.get a = some (1, [.int .i64 0])) (hb : S.get b = some (1, [.int .i64 0])) (hcc : S.get c = some (1, [.int .i64 1])) (hd : [oc, a, b, c].Nodup) :
  Ghost (.slice oc 0 3) S (.list [.agg [.int .i64 257, .int .u64 8, .list [.int .i64 0], .nils], .agg [.int .i64 257, .int .u64 4, .list [.int .i64 0], .nils], .agg [.int .i64 257, .int .u64 4, .list [.int .i64 1], .nils]]) (S.dels [oc, a, b, c]) := by
 have hw : OwL S (reps 3 [.c, .c, .s (List.replicate 1 .c), .c]) [.int .i64 257, .int .u64 8, .slice a 0 1, .nils, .int .i64 257, .int .u64 4, .slice b 0 1, .nils, .int .i64 257, .int .u64 4, .slice c 0 1, .nils] [.int .i64 257, .int .u64 8, vl vint [0], .nils, .int .i64 257, .int .u64 4, vl vint [0], .nils, .int .i64 257, .int .u64 4, vl vint [1], .nils] [a, b, c] := by
  refine .c rfl (.c rfl (OwL.slice (enc := vint) (fun _ => rfl) (fun _ => rfl) [0] (by rw [flatC_vint]; exact ha) (.c rfl ?_)))
  refine .c rfl (.c rfl (OwL.slice (enc := vint) (fun _ => rfl) (fun _ => rfl) [0] (by rw [flatC_vint]; exact hb) (.c rfl ?_)))
  exact .c rfl (.c rfl (OwL.slice (enc := vint) (fun _ => rfl) (fun _ => rfl) [1] (by rw [flatC_vint]; exact hcc) (.c rfl .nil)))
 have := OwL.s (S := S) (o := oc) (tys := [.c, .c, .s (List.replicate 1 .c), .c]) (cells := [.int .i64 257, .int .u64 8, .slice a 0 1, .nils, .int .i64 257, .int .u64 4, .slice b 0 1, .nils, .int .i64 257, .int .u64 4, .slice c 0 1, .nils]) (ys := [.agg [.int .i64 257, .int .u64 8, .list [.int .i64 0], .nils], .agg [.int .i64 257, .int .u64 4, .list [.int .i64 0], .nils], .agg [.int .i64 257, .int .u64 4, .list [.int .i64 1], .nils]]) (i := [a, b, c]) (j := []) hc (fun y hy => by
  simp only [List.mem_cons, List.not_mem_nil, or_false] at hy
  rcases hy with rfl | rfl | rfl <;> exact ⟨rfl, rfl⟩) hw .nil
 exact ghost_single (this.freeze hd S fun _ _ => rfl)
theorem Alive13_v : VPure Tryz.prog 9 [] (.bool true) := by
 intro S
 have hr1 : rep0 [V.int .i64 0] 1 = [.int .i64 0] := rfl
 have hr3 : rep0 [V.int .i64 0, .int .u64 0, .nils, .nils] 3 = [.int .i64 0, .int .u64 0, .nils, .nils, .int .i64 0, .int .u64 0, .nils, .nils, .int .i64 0, .int .u64 0, .nils, .nils] := rfl
 have cs := small13_v
 have cb := BceP_v Ss.envB Ss.smallB Ss.envB_fits Ss.smallB_fits
 rw [Ss.smallB_out] at cb
 have hF' : encFn Ss.smallB' = .agg [vl vint [127, 127], vl vint [127], vl vint [127, 127], vl encBlock [⟨[0, 1], [⟨258, 0, [], []⟩, ⟨257, 8, [0], []⟩, ⟨257, 4, [1], []⟩], ⟨4, 0, [], [0]⟩⟩]] := rfl
 obtain ⟨f1, f2, f3, f4, hF, o1, o2, o3, o4⟩ : ∃ f1 f2 f3 f4, encFn Ss.smallB = .agg [f1, f2, f3, f4] ∧ f1.one = true ∧ f2.one = true ∧ f3.one = true ∧ f4.one = true := ⟨_, _, _, _, rfl, rfl, rfl, rfl, rfl⟩
 rw [hF] at cs cb
 rw [hF'] at cb
 refine vcalls_start (c := bodyOf Tryz.f9) Tryz.func9 rfl rfl (by simp [Tryz.ntmps9]) ?_
 rw [Tryz.ntmps9]
 intro hwf
 repeat refine QS ?_
 refine QR (r:=by conv=>lhs;simp[-List.map_set,QV]) (k:=?_)
 refine QN ?_
 repeat refine QS ?_
 refine QR (r:=by conv=>lhs;simp[-List.map_set,QV]) (k:=?_)
 refine QN ?_
 refine vw_ghost' 1 rfl ((refSt (k := 0) (by simp) (by rfl) (by rfl) (by simp))) (by conv => lhs; simp [Fr.set]) ?_
 simp only [List.set_cons_succ, List.set_cons_zero]
 repeat refine QS ?_
 refine QR (r:=by conv=>lhs;simp[-List.map_set,QV,hr1,hr3]) (k:=?_)
 have hg := @code13_ghost (St S [] [none, some (1, [.int .i64 0]), some (1, [.int .i64 0]), some (1, [.int .i64 1]), some (4, [.int .i64 257, .int .u64 8, .slice (lid S.nx 1) 0 1, .nils, .int .i64 257, .int .u64 4, .slice (lid S.nx 2) 0 1, .nils, .int .i64 257, .int .u64 4, .slice (lid S.nx 3) 0 1, .nils])]) (lid S.nx 4) (lid S.nx 1) (lid S.nx 2) (lid S.nx 3) (by rw [St_get]; rfl) (by rw [St_get]; rfl) (by rw [St_get]; rfl) (by rw [St_get]; rfl) (by simp [lid])
 refine vcall_useG rfl (GhostArgs.one [_, _] [] hg) cs ?_
 have hdl : (St S [] [none, some (1, [.int .i64 0]), some (1, [.int .i64 0]), some (1, [.int .i64 1]), some (4, [.int .i64 257, .int .u64 8, .slice (lid S.nx 1) 0 1, .nils, .int .i64 257, .int .u64 4, .slice (lid S.nx 2) 0 1, .nils, .int .i64 257, .int .u64 4, .slice (lid S.nx 3) 0 1, .nils])]).dels [lid S.nx 4, lid S.nx 1, lid S.nx 2, lid S.nx 3] = St S [] [none, none, none, none, none] := by
  simp [Store.dels, St_del]
 rw [hdl]
 refine QM (by conv=>lhs;simp[-List.map_set,QV,o1,o2,o3,o4]) ?_
 refine QN ?_
 repeat refine QS ?_
 refine QR (r:=by conv=>lhs;simp[-List.map_set,QV,o1,o2,o3,o4]) (k:=?_)
 refine vcall_useG rfl (GhostArgs.one [] [_] (envB_ghost _)) cb ?_
 refine QM (by conv=>lhs;simp[-List.map_set,QV]) ?_
 refine QN ?_
 have hix : ∀ S, opIndex 4 S (vl encIns [⟨258, 0, [], []⟩, ⟨257, 8, [0], []⟩, ⟨257, 4, [1], []⟩]) (.int .i64 1) = some (.ref (encIns ⟨257, 8, [0], []⟩)) := fun _ => rfl
 repeat (first|refine QG ?_|refine QX (r:=by conv=>lhs;simp[-List.map_set,QV,hix]) (k:=?_))
 exact done_pure (X := .bool true) hwf (by simp) rfl
end Go.Vw

namespace Go.Vw
open Go.Proofs Go.RowKit
def Own1 (T : Store) (ids : List Nat) (o n : Nat) : Prop := o ∈ ids ∧ n ≤ 140737488355328 ∧ ∃ c, T.get o = some (1, c) ∧ c.length = n ∧ ∀ x ∈ c, x.closed1 = true
theorem own1_of {T : Store} {o n : Nat} {cells ys : List V} {ids i : List Nat} (hl : LimO T ids) (ho : T.get o = some (1, cells)) (d : OwL T (reps n [.c]) cells (ys.flatMap V.cells) i) (hn : ys.length = n) (hm : o ∈ ids) : Own1 T ids o n := by
 have hlen : cells.length = n := by rw [d.len.1, reps_len]; simp
 have e := own_closed (n := n * 1) (by rw [← reps_c]; exact d)
 refine ⟨hm, ?_, cells, ho, hlen, by rw [e.1]; exact d.closed⟩
 have := hl o hm _ _ ho
 omega
theorem insD_inv2 {T : Store} {r x : List V} {ii ids : List Nat} (hl : LimO T ids) (hi : ∀ o ∈ ii, o ∈ ids) (h : OwL T insD r x ii) : ∃ (u v : V) (oa na ou nu : Nat), r = [u, v, .slice oa 0 na, .slice ou 0 nu] ∧ Own1 T ids oa na ∧ Own1 T ids ou nu := by
 cases h with
 | c h1 h => cases h with
  | c h2 h => cases h with
   | s ho hs d h => cases h with
    | s ho2 hs2 d2 h => cases h with
     | nil => exact ⟨_, _, _, _, _, _, rfl, own1_of hl ho d rfl (hi _ (by simp)), own1_of hl ho2 d2 rfl (hi _ (by simp))⟩
theorem edgeD_inv2 {T : Store} {r x : List V} {ii ids : List Nat} (hl : LimO T ids) (hi : ∀ o ∈ ii, o ∈ ids) (h : OwL T edgeD r x ii) : ∃ (u : V) (oa na : Nat), r = [u, .slice oa 0 na] ∧ u.closed1 = true ∧ Own1 T ids oa na := by
 cases h with
 | c h1 h => cases h with
  | s ho hs d h => cases h with
   | nil => exact ⟨_, _, _, rfl, h1, own1_of hl ho d rfl (hi _ (by simp))⟩
theorem blkD_inv2 {T : Store} {r x : List V} {ii ids : List Nat} (hl : LimO T ids) (hi : ∀ o ∈ ii, o ∈ ids) (h : OwL T blkD r x ii) : ∃ (op np oc nc oe ne : Nat) (u a z : V) (cc ce xi xe : List V) (ci ei : List Nat), r = [.slice op 0 np, .slice oc 0 nc, u, a, .slice oe 0 ne, z] ∧ Own1 T ids op np ∧ u.closed1 = true ∧ oc ∈ ids ∧ T.get oc = some (4, cc) ∧ OwL T (reps nc insD) cc xi ci ∧ (∀ o ∈ ci, o ∈ ids) ∧
  oe ∈ ids ∧ T.get oe = some (2, ce) ∧ OwL T (reps ne edgeD) ce xe ei ∧ (∀ o ∈ ei, o ∈ ids) := by
 cases h with
 | s ho hs d h => cases h with
  | s ho2 hs2 d2 h => cases h with
   | c h1 h => cases h with
    | c h2 h => cases h with
     | s ho3 hs3 d3 h => cases h with
      | c h3 h => cases h with
       | nil => exact ⟨_, _, _, _, _, _, _, _, _, _, _, _, _, _, _, rfl, own1_of hl ho d rfl (hi _ (by simp)), h1, hi _ (by simp), ho2, d2, fun o ho => hi _ (by simp [ho]), hi _ (by simp), ho3, d3, fun o ho => hi _ (by simp [ho])⟩
theorem Shp.full {S T0 T1 : Store} {ob n k : Nat} {ids : List Nat} (h : Shp S T0 ob n ids T1) (hk : k < n) : ∃ (cells : List V) (op np oc nc oe ne : Nat) (u : V) (cc ce : List V), T1.get ob = some (6, cells) ∧ cells[k * 6]? = some (.slice op 0 np) ∧ cells[k * 6 + 1]? = some (.slice oc 0 nc) ∧ cells[k * 6 + 2]? = some u ∧ u.closed1 = true ∧ cells[k * 6 + 4]? = some (.slice oe 0 ne) ∧
  Own1 T1 ids op np ∧ oc ∈ ids ∧ T1.get oc = some (4, cc) ∧ oe ∈ ids ∧ T1.get oe = some (2, ce) ∧ nc ≤ 140737488355328 ∧ ne ≤ 140737488355328 ∧ (∀ j < nc, ∃ (oa na ou nu : Nat), cc[j * 4 + 2]? = some (.slice oa 0 na) ∧ Own1 T1 ids oa na ∧ cc[j * 4 + 3]? = some (.slice ou 0 nu) ∧ Own1 T1 ids ou nu) ∧
  ∀ q < ne, ∃ (u : V) (oa na : Nat), ce[q * 2]? = some u ∧ u.closed1 = true ∧ ce[q * 2 + 1]? = some (.slice oa 0 na) ∧ Own1 T1 ids oa na := by
 obtain ⟨cells, xs, h4, h5⟩ := h.own
 obtain ⟨c1, r, c2, x1, x, x2, i1, ii, i2, rfl, hl, rfl, rfl, k1, k2, k3⟩ := h5.elem hk
 obtain ⟨op, np, oc, nc, oe, ne, u, a, z, cc, ce, xi, xe, ci, ei, rfl, hop, hu, hoc, hcc, hci, hcs, hoe, hce, hei, hes⟩ := blkD_inv2 h.lim (fun o ho => by simp [ho]) k2
 refine ⟨_, op, np, oc, nc, oe, ne, u, cc, ce, h4, by have := mid_get (m := 6) (p := 0) (c2 := c2) hl (r := [.slice op 0 np, .slice oc 0 nc, u, a, .slice oe 0 ne, z]) rfl; simpa using this, mid_get (m := 6) (p := 1) hl rfl, mid_get (m := 6) (p := 2) hl rfl, hu, mid_get (m := 6) (p := 4) hl rfl, hop, hoc, hcc, hoe, hce, ?_, ?_, fun j hj => ?_, fun q hq => ?_⟩
 ·have h8 := h.lim oc hoc _ _ hcc
  have h9 : cc.length = nc * 4 := by rw [hci.len.1, reps_len]; rfl
  omega
 ·have h8 := h.lim oe hoe _ _ hce
  have h9 : ce.length = ne * 2 := by rw [hei.len.1, reps_len]; rfl
  omega
 ·obtain ⟨d1, s, d2, y1, y, y2, j1, jj, j2, rfl, hl2, rfl, rfl, m1, m2, m3⟩ := hci.elem hj
  obtain ⟨u', v', oa, na, ou, nu, rfl, ha, hu2⟩ := insD_inv2 h.lim (fun o ho => hcs o (by simp [ho])) m2
  exact ⟨oa, na, ou, nu, mid_get (m := 4) (p := 2) hl2 rfl, ha, mid_get (m := 4) (p := 3) hl2 rfl, hu2⟩
 ·obtain ⟨d1, s, d2, y1, y, y2, j1, jj, j2, rfl, hl2, rfl, rfl, m1, m2, m3⟩ := hei.elem hq
  obtain ⟨u', oa, na, rfl, hu', ha⟩ := edgeD_inv2 h.lim (fun o ho => hes o (by simp [ho])) m2
  exact ⟨u', oa, na, by have := mid_get (m := 2) (p := 0) (c2 := d2) hl2 (r := [u', .slice oa 0 na]) rfl; simpa using this, hu', mid_get (m := 2) (p := 1) hl2 rfl, ha⟩
def Shq (S T0 : Store) (ob n : Nat) (ids : List Nat) (ot : Nat) (T1 : Store) : Prop := Shp S T0 ob n ids T1 ∧ T1.get ot = T0.get ot
theorem Shq.write {S T0 T1 : Store} {ob n o s q ot : Nat} {ids : List Nat} {cs : List V} {u v : V} (h : Shq S T0 ob n ids ot T1) (hnd : (ot :: ob :: ids).Nodup) (hid : ∀ o ∈ ob :: ids, S.nx ≤ o ∧ o < T0.nx) (ho : o ∈ ob :: ids) (hg : T1.get o = some (s, cs)) (hq : cs[q]? = some u) (hu : u.closed1 = true) (hv : v.closed1 = true) :
  Shq S T0 ob n ids ot (T1.upd o (s, cs.set q v)) := by
 have hn := List.nodup_cons.1 hnd
 exact ⟨h.1.write hn.2 hid ho hg hq hu hv, by rw [upd_old (fun e => hn.1 (by rw [e]; exact ho))]; exact h.2⟩
structure Tyq (S T0 : Store) (ot n : Nat) (T1 : Store) : Prop where
 nx : T1.nx = T0.nx
 wf : T1.Wf
 old : ∀ o, o < S.nx → T1.get o = S.get o
 own : ∃ c, T1.get ot = some (1, c) ∧ c.length = n
theorem Tyq.write {S T0 T1 : Store} {ot n q : Nat} {c : List V} {v : V} (h : Tyq S T0 ot n T1) (h1 : S.nx ≤ ot) (h2 : ot < T0.nx) (hg : T1.get ot = some (1, c)) (hv : v.closed1 = true) : Tyq S T0 ot n (T1.upd ot (1, c.set q v)) := by
 obtain ⟨k1, k2, k3, c', k4, k5⟩ := h
 rw [hg] at k4
 cases k4
 have hcw : V.idsL (fun o => decide (o < T1.nx)) (c.set q v) = true := by
  have := k2.ids ot _ hg
  simp only [idsL_eq, List.all_eq_true] at this ⊢
  intro x hx
  rcases List.mem_or_eq_of_mem_set hx with hx | rfl
  ·exact this x hx
  ·exact closed1_ids hv _
 exact ⟨k1, upd_wf k2 (by omega) hcw, fun o' ho' => by rw [upd_old (by omega)]; exact k3 o' ho', _, upd_new, by rw [List.length_set]; exact k5⟩
end Go.Vw

namespace Ss
inductive Drop : List Ins → List Ins → Prop
 | nil : Drop [] []
 | keep (x : Ins) {l m : List Ins} (h : Drop l m) : Drop (x :: l) (x :: m)
 | drop (x : Ins) {l m : List Ins} (o : x.op = 257) (h : Drop l m) : Drop (x :: l) m
theorem Drop.refl : ∀ l : List Ins, Drop l l
 | [] => .nil
 | x :: l => .keep x (Drop.refl l)
theorem Drop.trans {a b c : List Ins} (h : Drop a b) : Drop b c → Drop a c := by
 induction h generalizing c with
 | nil => exact fun k => k
 | keep x h ih =>
  intro k
  cases k with
  | keep _ k => exact .keep x (ih k)
  | drop _ o k => exact .drop x o (ih k)
 | drop x o h ih => exact fun k => .drop x o (ih k)
theorem Drop.pos {l m : List Ins} (h : Drop l m) : ∃ φ : Nat → Nat, (∀ k k', k ≤ k' → φ k ≤ φ k') ∧ (∀ k x, l[k]? = some x → x.op ≠ 257 → m[φ k]? = some x ∧ ∀ k', k < k' → φ k < φ k') ∧ (∀ j y, m[j]? = some y → ∃ k, l[k]? = some y ∧ φ k = j) ∧ φ l.length = m.length := by
 induction h with
 | nil => exact ⟨fun _ => 0, fun _ _ _ => Nat.le_refl _, by simp, by simp, rfl⟩
 | @keep x l m h ih =>
  obtain ⟨φ, h1, h2, h3, h4⟩ := ih
  refine ⟨fun k => match k with | 0 => 0 | k + 1 => φ k + 1, fun k k' hk => ?_, fun k y hk ho => ?_, fun j y hj => ?_, by simp [h4]⟩
  ·cases k with
   | zero => simp
   | succ k => cases k' with
    | zero => omega
    | succ k' => have := h1 k k' (by omega); simp only; omega
  ·cases k with
   | zero => exact ⟨by simpa using hk, fun k' hk' => by cases k' with | zero => omega | succ k' => simp⟩
   | succ k =>
    obtain ⟨g1, g2⟩ := h2 k y (by simpa using hk) ho
    exact ⟨by simpa using g1, fun k' hk' => by cases k' with | zero => omega | succ k' => have := g2 k' (by omega); simp only; omega⟩
  ·cases j with
   | zero => exact ⟨0, by simpa using hj, rfl⟩
   | succ j =>
    obtain ⟨k, e1, e2⟩ := h3 j y (by simpa using hj)
    exact ⟨k + 1, by simpa using e1, by simp [e2]⟩
 | @drop x l m o h ih =>
  obtain ⟨φ, h1, h2, h3, h4⟩ := ih
  refine ⟨fun k => match k with | 0 => 0 | k + 1 => φ k, fun k k' hk => ?_, fun k y hk ho => ?_, fun j y hj => ?_, by simp [h4]⟩
  ·cases k with
   | zero => simp
   | succ k => cases k' with
    | zero => omega
    | succ k' => exact h1 k k' (by omega)
  ·cases k with
   | zero =>
    simp only [List.getElem?_cons_zero, Option.some.injEq] at hk
    subst hk; exact absurd o ho
   | succ k =>
    obtain ⟨g1, g2⟩ := h2 k y (by simpa using hk) ho
    exact ⟨g1, fun k' hk' => by cases k' with | zero => omega | succ k' => exact g2 k' (by omega)⟩
  ·obtain ⟨k, e1, e2⟩ := h3 j y hj
   exact ⟨k + 1, by simpa using e1, e2⟩
theorem Drop.outs {l m : List Ins} (h : Drop l m) (ho : ∀ x ∈ l, x.op = 257 → x.outs = []) : outsC m = outsC l := by
 induction h with
 | nil => rfl
 | @keep x l m h ih => simp only [outsC, List.flatMap_cons] at ih ⊢; rw [ih fun y hy => ho y (by simp [hy])]
 | @drop x l m o h ih =>
  simp only [outsC, List.flatMap_cons] at ih ⊢
  rw [ih fun y hy => ho y (by simp [hy]), ho x (by simp) o, List.nil_append]
theorem Drop.tick {l m : List Ins} (h : Drop l m) : (m.any fun x => decide (x.op = 258)) = l.any fun x => decide (x.op = 258) := by
 induction h with
 | nil => rfl
 | keep x h ih => simp only [List.any_cons, ih]
 | drop x o h ih => simp only [List.any_cons, ih, o]; simp
def DropL (l m : List Block) : Prop := m.length = l.length ∧ ∀ (i : Nat) (b c : Block), l[i]? = some b → m[i]? = some c → c.params = b.params ∧ c.term = b.term ∧ Drop b.code c.code
theorem DropL.refl (l : List Block) : DropL l l := ⟨rfl, fun i b c h1 h2 => by rw [h1] at h2; cases h2; exact ⟨rfl, rfl, .refl _⟩⟩
theorem DropL.trans {l m n : List Block} (h : DropL l m) (k : DropL m n) : DropL l n := by
 refine ⟨k.1.trans h.1, fun i b c h1 h2 => ?_⟩
 have hi : i < m.length := by rw [h.1]; exact (List.getElem?_eq_some_iff.1 h1).1
 obtain ⟨a1, a2, a3⟩ := h.2 i b m[i] h1 (List.getElem?_eq_getElem hi)
 obtain ⟨b1, b2, b3⟩ := k.2 i m[i] c (List.getElem?_eq_getElem hi) h2
 exact ⟨b1.trans a1, b2.trans a2, a3.trans b3⟩
theorem DropL.map {α : Type} {l m : List Block} (h : DropL l m) (F : Block → α) (hF : ∀ b c : Block, b ∈ l → c.params = b.params → c.term = b.term → Drop b.code c.code → F c = F b) : m.map F = l.map F := by
 apply List.ext_getElem?
 intro i
 rw [List.getElem?_map, List.getElem?_map]
 by_cases hi : i < l.length
 ·have hi2 : i < m.length := by rw [h.1]; exact hi
  rw [List.getElem?_eq_getElem hi, List.getElem?_eq_getElem hi2]
  obtain ⟨h1, h2, h3⟩ := h.2 i l[i] m[i] (List.getElem?_eq_getElem hi) (List.getElem?_eq_getElem hi2)
  simp only [Option.map_some, Option.some.injEq]
  exact hF _ _ (List.getElem_mem hi) h1 h2 h3
 ·rw [List.getElem?_eq_none (by rw [h.1]; omega), List.getElem?_eq_none (by omega)]
end Ss
