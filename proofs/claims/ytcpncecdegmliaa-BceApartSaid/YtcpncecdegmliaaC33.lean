import Derived.Test.YtcpncecdegmliaaC28
import Derived.Test.YtcpncecdegmliaaC32
import Derived.Test.YtcpncecdegmliaaC29
/-
  Part of the proof (texts SLItself, BPure, BThin, BChkP, BIdem).
-/
set_option linter.unusedVariables false
set_option linter.unusedSimpArgs false
namespace Ss
end Ss
namespace Go.Vw
open Go.Proofs Go.RowKit
set_option maxRecDepth 10000
set_option maxHeartbeats 2000000
theorem fn_ghostD {S : Store} {fi fo ts : List Int} {bs : List Ss.Block} {cells : List V} {ot ob n m : Nat} {ids : List Nat} (h : OwL S (reps n blkD) cells (flatC encBlock bs) ids) (hb : S.get ob = some (6, cells)) (hn : bs.length = n) (ht : S.get ot = some (1, ts.map vint)) (hm : ts.length = m) (hd : (ot :: ob :: ids).Nodup) :
  Ghost (.agg [vl vint fi, vl vint fo, .slice ot 0 m, .slice ob 0 n]) S (.agg [vl vint fi, vl vint fo, vl vint ts, vl encBlock bs]) (S.dels (ot :: ob :: ids)) := by
 subst hn
 subst hm
 refine ghost_agg ?_
 have hw : OwL S [.c, .c, .s (List.replicate 1 .c), .s blkD] [vl vint fi, vl vint fo, .slice ot 0 ts.length, .slice ob 0 bs.length] [vl vint fi, vl vint fo, vl vint ts, vl encBlock bs] (ot :: ob :: ids) := by
  refine .c rfl (.c rfl (OwL.slice (enc := vint) (fun _ => rfl) (fun _ => rfl) ts (by rw [flatC_vint]; exact ht) ?_))
  have := OwL.s (S := S) (o := ob) (tys := blkD) (cells := cells) (ys := bs.map encBlock) (i := ids) (j := []) hb (fun y hy => (by
   obtain ⟨b, _, rfl⟩ := List.mem_map.1 hy
   exact ⟨by rw [encBlock_cells]; rfl, encBlock_closed b⟩)) (by rw [List.length_map, flatC_map]; exact h) .nil
  rw [List.length_map, List.append_nil] at this
  exact this
 exact hw.freeze hd S fun _ _ => rfl
end Go.Vw

namespace Ss
def emptyFn : Fn := ⟨⟨[], []⟩, [], []⟩
noncomputable def bceF (f : Fn) : Fn := pbce (Go.Vw.G.rNear (Go.Vw.G.nats (succs f.blocks))) (Go.Vw.G.order (Go.Vw.G.nats (succs f.blocks))) f
noncomputable def bceOut (e : Env) (f : Fn) : Fn × Int := if check e f then (bceF f, 0) else (emptyFn, 6)
theorem bceOut_t {e : Env} {f : Fn} (h : check e f = true) : bceOut e f = (bceF f, 0) := by simp [bceOut, h]
theorem bceOut_f {e : Env} {f : Fn} (h : check e f = false) : bceOut e f = (emptyFn, 6) := by simp [bceOut, h]
end Ss
namespace Go.Vw
open Go.Proofs Go.RowKit
set_option maxRecDepth 10000
set_option maxHeartbeats 2000000
theorem empty_ghost (S : Store) : Ghost (.agg [.nils, .nils, .nils, .nils]) S (encFn Ss.emptyFn) S := by
 refine Ghost.agg_nl rfl fun i x y hx hy => ?_
 match i, hx, hy with
 | 0, hx, hy => cases hx; cases hy; exact .inr ⟨rfl, rfl⟩
 | 1, hx, hy => cases hx; cases hy; exact .inr ⟨rfl, rfl⟩
 | 2, hx, hy => cases hx; cases hy; exact .inr ⟨rfl, rfl⟩
 | 3, hx, hy => cases hx; cases hy; exact .inr ⟨rfl, rfl⟩
theorem BceRunErr_v (e : Ss.Env) (f : Ss.Fn) (he : e.Fits) (hf : f.Fits) (hc : Ss.check e f = false) : VPure Try.prog 6 [encEnv e, encFn f] (.tuple [encFn Ss.emptyFn, vint 6]) := by
 intro S
 have cck := Check_v e f he hf
 generalize Ss.check e f = ck at *
 obtain ⟨⟨fi, fo⟩, ts, bs⟩ := f
 obtain ⟨sg, im, gl, mu, me⟩ := e
 have cck' : VPure Try.prog 17 [.agg [vl encSig sg, vint im, vl vint gl, vl V.bool mu, .bool me], .agg [vl vint fi, vl vint fo, vl vint ts, vl encBlock bs]] (.bool ck) := cck
 refine vcalls_startC (c := bodyOf Try.f6) Try.func6 rfl (by conv => lhs; reduce) (by simp [Try.ntmps6]) ?_
 rw [Try.ntmps6]
 intro hwf
 repeat refine QS ?_
 refine QR (r:=by conv=>lhs;simp[-List.map_set,QV]) (k:=?_)
 refine QN ?_
 refine vw_ghost' 2 rfl ((refSt (k := 0) (by simp) (by rfl) (by rfl) (by simp))) (by conv => lhs; simp [Fr.set]) ?_
 simp only [List.set_cons_succ, List.set_cons_zero]
 refine vw_ghost' 3 rfl ((refSt (k := 1) (by simp) (by rfl) (by rfl) (by simp))) (by conv => lhs; simp [Fr.set]) ?_
 simp only [List.set_cons_succ, List.set_cons_zero]
 refine vw_only' [2, 3, 4, 5] (by conv => lhs; simp [Fr.only, Fr.look]) ?_
 refine vw_gc [2] hwf (by decide) (by simp [-List.map_set]) (by conv => lhs; simp [-List.map_set]) (by conv => lhs; simp [-List.map_set]) (by conv => lhs; simp [-List.map_set]) ?_
 repeat refine QS ?_
 refine QR (r:=by conv=>lhs;simp[-List.map_set,QV]) (k:=?_)
 refine vcall_useH (cck') (by rfl) ?_
 refine QM (by conv=>lhs;simp[-List.map_set,QV,hc]) ?_
 refine QN ?_
 repeat (first|refine QG ?_|refine QX (r:=by conv=>lhs;simp[-List.map_set,QV,hc]) (k:=?_))
 refine doneC (xs := [.agg [.nils, .nils, .nils, .nils], .int .i64 6]) (by simp) ?_
 exact done_ghost hwf ((Ghost.tuple [] [_] (empty_ghost _)).toB _) agree_St (by rfl)
theorem BceP_v (e : Ss.Env) (f : Ss.Fn) (he : e.Fits) (hf : f.Fits) : VPure Try.prog 6 [encEnv e, encFn f] (.tuple [encFn (Ss.bceOut e f).1, vint (Ss.bceOut e f).2]) := by
 cases hc : Ss.check e f with
 | false => rw [Ss.bceOut_f hc]; exact BceRunErr_v e f he hf hc
 | true =>
  rw [Ss.bceOut_t hc]
  intro S
  refine vcalls_wf fun hwf => vcalls_postB ((BceRun_v S e f he hf hc).mono ?_)
  rintro r T ⟨r', rfl, hag, hwT, ot, ob, cells, ids, rfl, hot, hob, how, hnd, hids⟩
  have hg := fn_ghostD (fi := f.sig.inn) (fo := f.sig.out) how hob rfl hot rfl hnd
  have hfin : Agree S (T.dels (ot :: ob :: ids)) := by
   refine ⟨by rw [dels_nx]; exact hag.1, fun o ho => ?_⟩
   rw [dels_at, if_neg]
   ·exact hag.2 o ho
   ·intro hm
    have := (hids o hm).1; omega
  exact done_ghost hwf ((Ghost.tuple [] [_] hg).toB _) hfin (by simp [encFn])
end Go.Vw

namespace Ss
structure ThinB (b c : Block) : Prop where
 params : c.params = b.params
 term : c.term = b.term
 sub : c.code.Sublist b.code
 keep : c.code.filter (fun x => decide (x.op ≠ 257)) = b.code.filter fun x => decide (x.op ≠ 257)
theorem ThinB.refl (b : Block) : ThinB b b := ⟨rfl, rfl, List.Sublist.refl _, rfl⟩
theorem ThinB.trans {a b c : Block} (h : ThinB a b) (k : ThinB b c) : ThinB a c := ⟨k.params.trans h.params, k.term.trans h.term, k.sub.trans h.sub, k.keep.trans h.keep⟩
def ThinL (l m : List Block) : Prop := m.length = l.length ∧ ∀ (i : Nat) (b c : Block), l[i]? = some b → m[i]? = some c → ThinB b c
theorem ThinL.refl (l : List Block) : ThinL l l := ⟨rfl, fun i b c h1 h2 => by rw [h1] at h2; cases h2; exact .refl b⟩
theorem ThinL.trans {l m n : List Block} (h : ThinL l m) (k : ThinL m n) : ThinL l n := by
 refine ⟨k.1.trans h.1, fun i b c h1 h2 => ?_⟩
 have hi : i < m.length := by rw [h.1]; exact (List.getElem?_eq_some_iff.1 h1).1
 exact (h.2 i b m[i] h1 (List.getElem?_eq_getElem hi)).trans (k.2 i m[i] c (List.getElem?_eq_getElem hi) h2)
theorem pcode_thin (near : List Int) (n : Int) : ∀ (code : List Ins) (M : Far), (pcode near n M code).1.Sublist code ∧ (pcode near n M code).1.filter (fun x => decide (x.op ≠ 257)) = code.filter fun x => decide (x.op ≠ 257)
 | [], M => ⟨List.Sublist.refl _, rfl⟩
 | x :: r, M => by
  obtain ⟨h1, h2⟩ := pcode_thin near n r (pnext near n M x)
  rw [pcode]
  by_cases hp : pcov near n M x = true
  ·rw [if_pos hp]
   have ho : x.op = 257 := by
    unfold pcov at hp
    simp only [Bool.and_eq_true, decide_eq_true_eq] at hp
    exact hp.1
   exact ⟨.cons _ h1, by rw [h2, List.filter_cons_of_neg (by simp [ho])]⟩
  ·rw [if_neg hp]
   refine ⟨.cons_cons _ h1, ?_⟩
   by_cases ho : x.op = 257
   ·rw [List.filter_cons_of_neg (by simp [ho]), List.filter_cons_of_neg (by simp [ho]), h2]
   ·rw [List.filter_cons_of_pos (by simp [ho]), List.filter_cons_of_pos (by simp [ho]), h2]
theorem pstep_thin (near : List Int) (bs : List Block) (M : Far) (n : Nat) : ThinL bs (pstep near (bs, M) n).1 := by
 refine ⟨by simp [pstep], fun i b c h1 h2 => ?_⟩
 simp only [pstep] at h2
 by_cases e : n = i
 ·subst e
  have hn : n < bs.length := (List.getElem?_eq_some_iff.1 h1).1
  rw [List.getElem?_set_self hn] at h2
  have hgd : bs.getD n default = b := by rw [List.getD_eq_getElem?_getD, h1]; rfl
  cases h2
  rw [hgd]
  obtain ⟨k1, k2⟩ := pcode_thin near n b.code M
  exact ⟨rfl, rfl, k1, k2⟩
 ·rw [List.getElem?_set_ne e] at h2
  rw [h1] at h2; cases h2; exact .refl b
theorem fold_thin (near : List Int) : ∀ (order : List Nat) (bs : List Block) (M : Far), ThinL bs (order.foldl (pstep near) (bs, M)).1
 | [], bs, M => .refl bs
 | n :: r, bs, M => by
  rw [List.foldl_cons]
  exact (pstep_thin near bs M n).trans (fold_thin near r _ _)
theorem bceF_thin (f : Fn) : ThinL f.blocks (bceF f).blocks := fold_thin _ _ _ _
theorem ThinL.fits {l m : List Block} (h : ThinL l m) (hl : ∀ b ∈ l, b.Fits) : ∀ c ∈ m, c.Fits := by
 intro c hc
 obtain ⟨i, hi⟩ := List.mem_iff_getElem?.1 hc
 have hil : i < l.length := by rw [← h.1]; exact (List.getElem?_eq_some_iff.1 hi).1
 obtain ⟨h1, h2, h3, h4⟩ := h.2 i l[i] c (List.getElem?_eq_getElem hil) hi
 obtain ⟨k1, ⟨k2, k3⟩, k4⟩ := hl _ (List.getElem_mem hil)
 exact ⟨by rw [h1]; exact k1, ⟨Nat.le_trans h3.length_le k2, fun x hx => k3 x (h3.subset hx)⟩, by rw [h2]; exact k4⟩
theorem bceF_fits {f : Fn} (h : f.Fits) : (bceF f).Fits := by
 obtain ⟨h1, h2, h3, h4⟩ := h
 exact ⟨h1, h2, by rw [(bceF_thin f).1]; exact h3, (bceF_thin f).fits h4⟩
theorem ThinL.count : ∀ {l m : List Block}, ThinL l m → count m ≤ count l
 | [], m, h => by
  have : m = [] := List.eq_nil_of_length_eq_zero h.1
  subst this; exact Nat.le_refl _
 | b :: l, [], h => by simp [Ss.count]
 | b :: l, c :: m, h => by
  have h1 := (h.2 0 b c rfl rfl).sub.length_le
  have h2 : ThinL l m := ⟨by have := h.1; simpa using this, fun i x y hx hy => h.2 (i + 1) x y (by simpa using hx) (by simpa using hy)⟩
  have := ThinL.count h2
  simp only [Ss.count, List.map_cons, List.sum_cons] at this ⊢
  omega
theorem ThinL.small {f g : Fn} (h : ThinL f.blocks g.blocks) (hs : g.sig = f.sig) (ht : g.types = f.types) (k : f.small = true) : g.small = true := by
 obtain ⟨k1, k2, k3⟩ := (small_iff f).1 k
 refine (small_iff g).2 ⟨?_, fun c hc => ?_, Nat.le_trans h.count k3⟩
 ·simp only [Fn.heads, hs, ht, h.1] at k1 ⊢; exact k1
 ·obtain ⟨i, hi⟩ := List.mem_iff_getElem?.1 hc
  have hil : i < f.blocks.length := by rw [← h.1]; exact (List.getElem?_eq_some_iff.1 hi).1
  obtain ⟨h1, h2, h3, h4⟩ := h.2 i f.blocks[i] c (List.getElem?_eq_getElem hil) hi
  have hb := k2 _ (List.getElem_mem hil)
  simp only [Block.small, Bool.and_eq_true, h1, h2] at hb ⊢
  obtain ⟨⟨⟨⟨a1, a2⟩, a3⟩, a4⟩, a5⟩ := hb
  exact ⟨⟨⟨⟨a1, a2⟩, a3⟩, List.all_eq_true.2 fun x hx => List.all_eq_true.1 a4 x (h3.subset hx)⟩, a5⟩
end Ss

namespace Ss
inductive Drop : List Ins → List Ins → Prop
 | nil : Drop [] []
 | keep (x : Ins) {l m : List Ins} (h : Drop l m) : Drop (x :: l) (x :: m)
 | drop (x : Ins) {l m : List Ins} (o : x.op = 257) (h : Drop l m) : Drop (x :: l) m
theorem pcode_drop (near : List Int) (n : Int) : ∀ (code : List Ins) (M : Far), Drop code (pcode near n M code).1
 | [], M => .nil
 | x :: r, M => by
  rw [pcode]
  by_cases hp : pcov near n M x = true
  ·rw [if_pos hp]
   have ho : x.op = 257 := by
    unfold pcov at hp
    simp only [Bool.and_eq_true, decide_eq_true_eq] at hp
    exact hp.1
   exact .drop x ho (pcode_drop near n r _)
  ·rw [if_neg hp]; exact .keep x (pcode_drop near n r _)
theorem Drop.refl : ∀ l : List Ins, Drop l l
 | [] => .nil
 | x :: l => .keep x (Drop.refl l)
theorem Drop.trans {a b c : List Ins} (h : Drop a b) : Drop b c → Drop a c := by
 induction h generalizing c with
 | nil => exact fun k => k
 | keep x h ih =>
  intro k
  cases k with
  | keep _ k => exact .keep x (ih k)
  | drop _ o k => exact .drop x o (ih k)
 | drop x o h ih => exact fun k => .drop x o (ih k)
theorem Drop.pos {l m : List Ins} (h : Drop l m) : ∃ φ : Nat → Nat, (∀ k k', k ≤ k' → φ k ≤ φ k') ∧ (∀ k x, l[k]? = some x → x.op ≠ 257 → m[φ k]? = some x ∧ ∀ k', k < k' → φ k < φ k') ∧ (∀ j y, m[j]? = some y → ∃ k, l[k]? = some y ∧ φ k = j) ∧ φ l.length = m.length := by
 induction h with
 | nil => exact ⟨fun _ => 0, fun _ _ _ => Nat.le_refl _, by simp, by simp, rfl⟩
 | @keep x l m h ih =>
  obtain ⟨φ, h1, h2, h3, h4⟩ := ih
  refine ⟨fun k => match k with | 0 => 0 | k + 1 => φ k + 1, fun k k' hk => ?_, fun k y hk ho => ?_, fun j y hj => ?_, by simp [h4]⟩
  ·cases k with
   | zero => simp
   | succ k => cases k' with
    | zero => omega
    | succ k' => have := h1 k k' (by omega); simp only; omega
  ·cases k with
   | zero => exact ⟨by simpa using hk, fun k' hk' => by cases k' with | zero => omega | succ k' => simp⟩
   | succ k =>
    obtain ⟨g1, g2⟩ := h2 k y (by simpa using hk) ho
    exact ⟨by simpa using g1, fun k' hk' => by cases k' with | zero => omega | succ k' => have := g2 k' (by omega); simp only; omega⟩
  ·cases j with
   | zero => exact ⟨0, by simpa using hj, rfl⟩
   | succ j =>
    obtain ⟨k, e1, e2⟩ := h3 j y (by simpa using hj)
    exact ⟨k + 1, by simpa using e1, by simp [e2]⟩
 | @drop x l m o h ih =>
  obtain ⟨φ, h1, h2, h3, h4⟩ := ih
  refine ⟨fun k => match k with | 0 => 0 | k + 1 => φ k, fun k k' hk => ?_, fun k y hk ho => ?_, fun j y hj => ?_, by simp [h4]⟩
  ·cases k with
   | zero => simp
   | succ k => cases k' with
    | zero => omega
    | succ k' => exact h1 k k' (by omega)
  ·cases k with
   | zero =>
    simp only [List.getElem?_cons_zero, Option.some.injEq] at hk
    subst hk; exact absurd o ho
   | succ k =>
    obtain ⟨g1, g2⟩ := h2 k y (by simpa using hk) ho
    exact ⟨g1, fun k' hk' => by cases k' with | zero => omega | succ k' => exact g2 k' (by omega)⟩
  ·obtain ⟨k, e1, e2⟩ := h3 j y hj
   exact ⟨k + 1, by simpa using e1, e2⟩
theorem Drop.outs {l m : List Ins} (h : Drop l m) (ho : ∀ x ∈ l, x.op = 257 → x.outs = []) : outsC m = outsC l := by
 induction h with
 | nil => rfl
 | @keep x l m h ih => simp only [outsC, List.flatMap_cons] at ih ⊢; rw [ih fun y hy => ho y (by simp [hy])]
 | @drop x l m o h ih =>
  simp only [outsC, List.flatMap_cons] at ih ⊢
  rw [ih fun y hy => ho y (by simp [hy]), ho x (by simp) o, List.nil_append]
theorem Drop.tick {l m : List Ins} (h : Drop l m) : (m.any fun x => decide (x.op = 258)) = l.any fun x => decide (x.op = 258) := by
 induction h with
 | nil => rfl
 | keep x h ih => simp only [List.any_cons, ih]
 | drop x o h ih => simp only [List.any_cons, ih, o]; simp
theorem put_mk {block pos : Int} : ∀ {l : List Int} {ds : List Def}, (∀ v ∈ l, 0 ≤ v ∧ v < ds.length) → l.Nodup → (∀ v ∈ l, (dAt ds v).made = false) → ∃ d, put block pos ds l = some d
 | [], ds, _, _, _ => ⟨ds, rfl⟩
 | v :: l, ds, h1, h2, h3 => by
  obtain ⟨a1, a2⟩ := h1 v (by simp)
  obtain ⟨n1, n2⟩ := List.nodup_cons.1 h2
  have hm := h3 v (by simp)
  have hm' : (ds.getD v.toNat default).made = false := hm
  simp only [put]
  rw [if_neg (by rw [hm']; simp; omega)]
  refine put_mk (fun w hw => by rw [List.length_set]; exact h1 w (by simp [hw])) n2 fun w hw => ?_
  have hne : w ≠ v := fun e => n1 (e ▸ hw)
  rw [dAt_set a1 a2 (h1 w (by simp [hw])).1, if_neg hne]
  exact h3 w (by simp [hw])
theorem putCode_mk {i : Int} : ∀ {l : List Ins} {k : Nat} {ds : List Def}, (∀ v ∈ outsC l, 0 ≤ v ∧ v < ds.length) → (outsC l).Nodup → (∀ v ∈ outsC l, (dAt ds v).made = false) → ∃ d, putCode i k ds l = some d
 | [], k, ds, _, _, _ => ⟨ds, rfl⟩
 | x :: l, k, ds, h1, h2, h3 => by
  have e : outsC (x :: l) = x.outs ++ outsC l := rfl
  rw [e] at h1 h2 h3
  obtain ⟨n1, n2, n3⟩ := List.nodup_append.1 h2
  obtain ⟨d, hd⟩ := put_mk (block := i) (pos := k) (fun v hv => h1 v (by simp [hv])) n1 (fun v hv => h3 v (by simp [hv]))
  have hp := (put_puts hd).1
  obtain ⟨d', hd'⟩ := putCode_mk (i := i) (k := k + 1) (l := l) (ds := d) (fun v hv => by rw [put_len hd]; exact h1 v (by simp [hv])) n2 (fun v hv => by
   rw [hp.keep v (h1 v (by simp [hv])).1 (fun hm => n3 v hm v hv rfl)]; exact h3 v (by simp [hv]))
  exact ⟨d', by rw [putCode, hd]; exact hd'⟩
theorem putBlocks_mk : ∀ {l : List Block} {i : Nat} {ds : List Def}, (∀ v ∈ allL l, 0 ≤ v ∧ v < ds.length) → (allL l).Nodup → (∀ v ∈ allL l, (dAt ds v).made = false) → ∃ d, putBlocks i ds l = some d
 | [], i, ds, _, _, _ => ⟨ds, rfl⟩
 | b :: l, i, ds, h1, h2, h3 => by
  have e : allL (b :: l) = (b.params ++ outsC b.code) ++ allL l := rfl
  rw [e] at h1 h2 h3
  obtain ⟨n0, n2, n3⟩ := List.nodup_append.1 h2
  obtain ⟨n1, n4, n5⟩ := List.nodup_append.1 n0
  obtain ⟨d, hd⟩ := put_mk (block := i) (pos := -1) (fun v hv => h1 v (by simp [hv])) n1 (fun v hv => h3 v (by simp [hv]))
  have hp := (put_puts hd).1
  obtain ⟨d1, hd1⟩ := putCode_mk (i := i) (k := 0) (l := b.code) (ds := d) (fun v hv => by rw [put_len hd]; exact h1 v (by simp [hv])) n4 (fun v hv => by
   rw [hp.keep v (h1 v (by simp [hv])).1 (fun hm => n5 v hm v hv rfl)]; exact h3 v (by simp [hv]))
  have hp1 := (putCode_puts hd1).1
  obtain ⟨d2, hd2⟩ := putBlocks_mk (i := i + 1) (l := l) (ds := d1) (fun v hv => by rw [putCode_len' hd1, put_len hd]; exact h1 v (by simp [hv])) n2 (fun v hv => by
   have h0 := (h1 v (by simp [hv])).1
   rw [hp1.keep v h0 (fun hm => n3 v (by simp [hm]) v hv rfl), hp.keep v h0 (fun hm => n3 v (by simp [hm]) v hv rfl)]; exact h3 v (by simp [hv]))
  exact ⟨d2, by rw [putBlocks, hd]; simp only [Option.bind_some]; rw [hd1]; exact hd2⟩
theorem checkCode_mk {e : Env} {f : Fn} {ds : List Def} {near : List Int} {i : Int} : ∀ {l : List Ins} {k : Nat}, (∀ (j : Nat) (x : Ins), l[j]? = some x → insOk e f ds near i ((k + j : Nat) : Int) x = true) → checkCode e f ds near i k l = true
 | [], k, _ => rfl
 | x :: l, k, h => by
  have h0 := h 0 x rfl
  rw [Nat.add_zero] at h0
  simp only [checkCode, Bool.and_eq_true]
  refine ⟨h0, checkCode_mk fun j y hy => ?_⟩
  have := h (j + 1) y (by simpa using hy)
  rw [show k + (j + 1) = k + 1 + j by omega] at this
  exact this
def DropL (l m : List Block) : Prop := m.length = l.length ∧ ∀ (i : Nat) (b c : Block), l[i]? = some b → m[i]? = some c → c.params = b.params ∧ c.term = b.term ∧ Drop b.code c.code
theorem DropL.refl (l : List Block) : DropL l l := ⟨rfl, fun i b c h1 h2 => by rw [h1] at h2; cases h2; exact ⟨rfl, rfl, .refl _⟩⟩
theorem DropL.trans {l m n : List Block} (h : DropL l m) (k : DropL m n) : DropL l n := by
 refine ⟨k.1.trans h.1, fun i b c h1 h2 => ?_⟩
 have hi : i < m.length := by rw [h.1]; exact (List.getElem?_eq_some_iff.1 h1).1
 obtain ⟨a1, a2, a3⟩ := h.2 i b m[i] h1 (List.getElem?_eq_getElem hi)
 obtain ⟨b1, b2, b3⟩ := k.2 i m[i] c (List.getElem?_eq_getElem hi) h2
 exact ⟨b1.trans a1, b2.trans a2, a3.trans b3⟩
theorem pstep_drop (near : List Int) (bs : List Block) (M : Far) (n : Nat) : DropL bs (pstep near (bs, M) n).1 := by
 refine ⟨by simp [pstep], fun i b c h1 h2 => ?_⟩
 simp only [pstep] at h2
 by_cases e : n = i
 ·subst e
  have hn : n < bs.length := (List.getElem?_eq_some_iff.1 h1).1
  rw [List.getElem?_set_self hn] at h2
  have hgd : bs.getD n default = b := by rw [List.getD_eq_getElem?_getD, h1]; rfl
  cases h2
  rw [hgd]
  exact ⟨rfl, rfl, pcode_drop near n b.code M⟩
 ·rw [List.getElem?_set_ne e] at h2
  rw [h1] at h2; cases h2; exact ⟨rfl, rfl, .refl _⟩
theorem fold_drop (near : List Int) : ∀ (order : List Nat) (bs : List Block) (M : Far), DropL bs (order.foldl (pstep near) (bs, M)).1
 | [], bs, M => .refl bs
 | n :: r, bs, M => by
  rw [List.foldl_cons]
  exact (pstep_drop near bs M n).trans (fold_drop near r _ _)
theorem bceF_drop (f : Fn) : DropL f.blocks (bceF f).blocks := fold_drop _ _ _ _
theorem DropL.map {α : Type} {l m : List Block} (h : DropL l m) (F : Block → α) (hF : ∀ b c : Block, b ∈ l → c.params = b.params → c.term = b.term → Drop b.code c.code → F c = F b) : m.map F = l.map F := by
 apply List.ext_getElem?
 intro i
 rw [List.getElem?_map, List.getElem?_map]
 by_cases hi : i < l.length
 ·have hi2 : i < m.length := by rw [h.1]; exact hi
  rw [List.getElem?_eq_getElem hi, List.getElem?_eq_getElem hi2]
  obtain ⟨h1, h2, h3⟩ := h.2 i l[i] m[i] (List.getElem?_eq_getElem hi) (List.getElem?_eq_getElem hi2)
  simp only [Option.map_some, Option.some.injEq]
  exact hF _ _ (List.getElem_mem hi) h1 h2 h3
 ·rw [List.getElem?_eq_none (by rw [h.1]; omega), List.getElem?_eq_none (by omega)]
theorem drop_check {e : Env} {f g : Fn} (h : check e f = true) (hs : g.sig = f.sig) (ht : g.types = f.types) (hd : DropL f.blocks g.blocks) (hth : ThinL f.blocks g.blocks) : check e g = true := by
 have h257 := fun b hb x hx ho => @check_257 e f h b hb x hx ho
 obtain ⟨hh, ds, hds, hsh, hbs⟩ := check_spec h
 obtain ⟨hdl, hdin⟩ := defs_in hds
 obtain ⟨hnd, hmade, hout⟩ := defs_made hds
 have hall : allL g.blocks = allL f.blocks := by
  have := hd.map allB fun b c hb h1 h2 h3 => by rw [allB, allB, h1, h3.outs fun x hx ho => (h257 b hb x hx ho).2.2]
  rw [allL, allL, List.flatMap_def, List.flatMap_def, this]
 have hrange : ∀ v ∈ allL f.blocks, 0 ≤ v ∧ v < f.types.length := fun v hv => by
  obtain ⟨b, hb, hv⟩ := List.mem_flatMap.1 hv
  obtain ⟨k1, k2⟩ := hdin b hb
  rcases List.mem_append.1 hv with hv | hv
  ·exact k1 v hv
  ·obtain ⟨x, hx, hv⟩ := List.mem_flatMap.1 hv
   exact k2 x hx v hv
 obtain ⟨ds', hds'⟩ := putBlocks_mk (l := g.blocks) (i := 0) (ds := List.replicate g.types.length ⟨false, 0, 0⟩) (by rw [hall, List.length_replicate, ht]; exact hrange) (by rw [hall]; exact hnd) (fun v _ => dAt_rep _ _)
 have hds2 : defsOf g = some ds' := hds'
 obtain ⟨hdl', _⟩ := defs_in hds2
 obtain ⟨_, hmade', hout'⟩ := defs_made hds2
 have hsu : succs g.blocks = succs f.blocks := hd.map rowOf fun b c _ h1 h2 h3 => by rw [rowOf, rowOf, h2]
 have htk : g.blocks.map tickB = f.blocks.map tickB := hd.map tickB fun b c _ h1 h2 h3 => h3.tick
 have hpar : ∀ n, (g.blocks.getD n default).params = (f.blocks.getD n default).params := by
  intro n
  simp only [List.getD_eq_getElem?_getD]
  by_cases hn : n < f.blocks.length
  ·have hn2 : n < g.blocks.length := by rw [hd.1]; exact hn
   rw [List.getElem?_eq_getElem hn, List.getElem?_eq_getElem hn2]
   exact (hd.2 n _ _ (List.getElem?_eq_getElem hn) (List.getElem?_eq_getElem hn2)).1
  ·rw [List.getElem?_eq_none (by rw [hd.1]; omega), List.getElem?_eq_none (by omega)]
 -- the head
 have hhead : checkHead e g = true := by
  have hsm : g.small = true := hth.small hs ht (check_small h)
  simp only [checkHead, Bool.and_eq_true, decide_eq_true_eq, List.all_eq_true] at hh ⊢
  obtain ⟨⟨⟨⟨⟨g1, g2⟩, g3⟩, g4⟩, g5⟩, g6⟩ := hh
  refine ⟨⟨⟨⟨⟨g1, hsm⟩, by rw [hd.1]; exact g3⟩, by rw [ht]; exact g4⟩, by rw [hs]; exact g5⟩, fun c hc => ?_⟩
  obtain ⟨i, hi⟩ := List.mem_iff_getElem?.1 hc
  have hil : i < f.blocks.length := by rw [← hd.1]; exact (List.getElem?_eq_some_iff.1 hi).1
  rw [(hd.2 i _ c (List.getElem?_eq_getElem hil) hi).1]
  exact g6 _ (List.getElem_mem hil)
 have hshape : shapeOk g = true := by
  simp only [shapeOk, Bool.and_eq_true] at hsh ⊢
  have hr : rings g.blocks (Go.Vw.G.nats (succs f.blocks)) = rings f.blocks (Go.Vw.G.nats (succs f.blocks)) := by simp only [rings, htk]
  rw [hsu, hd.1, hs, hpar, ht, hr]
  refine ⟨hsh.1, ?_⟩
  have h5 := hsh.2
  have h0 : 0 < f.blocks.length := by
   rcases Nat.eq_zero_or_pos f.blocks.length with h0 | h0
   ·have : f.blocks = [] := List.eq_nil_of_length_eq_zero h0
    rw [this] at h5; cases h5
   ·exact h0
  have h0g : 0 < g.blocks.length := by rw [hd.1]; exact h0
  obtain ⟨_, _, k3⟩ := hd.2 0 _ _ (List.getElem?_eq_getElem h0) (List.getElem?_eq_getElem h0g)
  simp only [List.getD_eq_getElem?_getD, List.getElem?_eq_getElem h0, List.getElem?_eq_getElem h0g, Option.getD_some] at h5 ⊢
  generalize f.blocks[0].code = cf at *
  generalize g.blocks[0].code = cg at *
  cases k3 with
  | nil => cases h5
  | keep x k => exact h5
  | drop x o k => simp [o] at h5
 -- how what is asked turns
 have key : ∀ (i : Nat) (b c : Block), f.blocks[i]? = some b → g.blocks[i]? = some c → ∃ φ : Nat → Nat, (∀ (K : Nat) (v t : Int), askOk f.types ds (Go.Vw.G.nearI (succs f.blocks)) i K v t = true → askOk g.types ds' (Go.Vw.G.nearI (succs f.blocks)) i (φ K : Nat) v t = true) ∧ (∀ j y, c.code[j]? = some y → ∃ k, b.code[k]? = some y ∧ φ k = j) ∧ φ b.code.length = c.code.length := by
  intro i b c hb hc
  obtain ⟨_, _, k3⟩ := hd.2 i b c hb hc
  obtain ⟨φ, p1, p2, p3, p4⟩ := k3.pos
  refine ⟨φ, fun K v t ha => ?_, p3, p4⟩
  simp only [askOk, Bool.and_eq_true, decide_eq_true_eq] at ha ⊢
  obtain ⟨⟨⟨⟨q1, q2⟩, q3⟩, q4⟩, q5⟩ := ha
  have hv := hmade v q1 q4
  obtain ⟨b2, hb2, hv2⟩ := List.mem_flatMap.1 hv
  obtain ⟨j, hj⟩ := List.mem_iff_getElem?.1 hb2
  have hjl : j < g.blocks.length := by rw [hd.1]; exact (List.getElem?_eq_some_iff.1 hj).1
  obtain ⟨m1, m2, m3⟩ := hd.2 j b2 _ hj (List.getElem?_eq_getElem hjl)
  have fact : ∃ B P P' : Int, ds.getD v.toNat default = ⟨true, B, P⟩ ∧ ds'.getD v.toNat default = ⟨true, B, P'⟩ ∧ (B = i → P < K → P' < (φ K : Nat)) := by
   rcases List.mem_append.1 hv2 with hp | ho
   ·have a1 := putBlocks_params hds j b2 hj v hp
    have a2 := putBlocks_params hds' j _ (List.getElem?_eq_getElem hjl) v (by rw [m1]; exact hp)
    rw [Nat.zero_add] at a1 a2
    exact ⟨_, _, _, a1, a2, fun _ _ => by omega⟩
   ·obtain ⟨x, hx, hvx⟩ := List.mem_flatMap.1 ho
    obtain ⟨k, hk⟩ := List.mem_iff_getElem?.1 hx
    have hop : x.op ≠ 257 := fun e => by
     rw [(h257 b2 hb2 x hx e).2.2] at hvx; cases hvx
    have a1 := hout j b2 hj k x hk v hvx
    by_cases e : j = i
    ·subst e
     rw [hb] at hj
     cases hj
     obtain ⟨r1, r2⟩ := p2 k x hk hop
     have a2 := hout' j c hc (φ k) x r1 v hvx
     exact ⟨_, _, _, a1, a2, fun _ hlt => by have := r2 K (by omega); omega⟩
    ·obtain ⟨ψ, _, r2, _, _⟩ := m3.pos
     have a2 := hout' j _ (List.getElem?_eq_getElem hjl) (ψ k) x (r2 k x hk hop).1 v hvx
     exact ⟨_, _, _, a1, a2, fun e2 => absurd (by omega) e⟩
  obtain ⟨B, P, P', f1, f2, f3⟩ := fact
  rw [f1] at q5
  refine ⟨⟨⟨⟨q1, by rw [hdl', ht, ← hdl]; exact q2⟩, by rw [ht]; exact q3⟩, by rw [f2]⟩, ?_⟩
  rw [f2]
  simp only at q5 ⊢
  by_cases e : B = i
  ·rw [if_pos e, decide_eq_true_eq] at q5 ⊢
   exact f3 e q5
  ·rw [if_neg e] at q5 ⊢; exact q5
 have keyA : ∀ (i : Nat) (b c : Block), f.blocks[i]? = some b → g.blocks[i]? = some c → ∃ φ : Nat → Nat, (∀ (K : Nat) (l t : List Int), asks f.types ds (Go.Vw.G.nearI (succs f.blocks)) i K l t = true → asks g.types ds' (Go.Vw.G.nearI (succs f.blocks)) i (φ K : Nat) l t = true) ∧ (∀ j y, c.code[j]? = some y → ∃ k, b.code[k]? = some y ∧ φ k = j) ∧ φ b.code.length = c.code.length := by
  intro i b c hb hc
  obtain ⟨φ, k1, k2, k3⟩ := key i b c hb hc
  exact ⟨φ, fun K l t ha => eqF_mono (fun x _ y hxy => k1 K x y hxy) ha, k2, k3⟩
 have hblocks : checkBlocks e g ds' (Go.Vw.G.nearI (succs g.blocks)) 0 g.blocks = true := by
  rw [hsu]
  refine checkBlocks_mk fun i c hc => ?_
  rw [Nat.zero_add]
  have hil : i < f.blocks.length := by rw [← hd.1]; exact (List.getElem?_eq_some_iff.1 hc).1
  obtain ⟨b, hb⟩ : ∃ b, f.blocks[i]? = some b := ⟨_, List.getElem?_eq_getElem hil⟩
  obtain ⟨m1, m2, _⟩ := hd.2 i b c hb hc
  obtain ⟨φ, k1, k2, k3⟩ := keyA i b c hb hc
  obtain ⟨c1, c2⟩ := checkBlocks_at hbs hb
  rw [Nat.zero_add] at c1 c2
  constructor
  ·refine checkCode_mk fun j x hx => ?_
   rw [Nat.zero_add]
   obtain ⟨k, hk, rfl⟩ := k2 j x hx
   have := checkCode_at c1 hk
   rw [Nat.zero_add] at this
   simp only [insOk, Bool.and_eq_true, ht] at this ⊢
   exact ⟨this.1, by have h9 := k1 k _ _ this.2; rw [ht] at h9; exact h9⟩
  ·have hbp : ∀ n, (g.blocks.getD n default).params = (f.blocks.getD n default).params := hpar
   unfold termOk at c2 ⊢
   rw [m2, hs, ← k3]
   split at c2
   ·rename_i le mo rs heq
    simp only [termTail, Bool.and_eq_true] at c2 ⊢
    obtain ⟨⟨⟨⟨t1, t2⟩, t3⟩, t4⟩, t5⟩ := c2
    refine ⟨⟨⟨⟨?_, t2⟩, t3⟩, by have h9 := k1 _ _ _ t4; exact h9⟩, List.all_eq_true.2 fun x hx => ?_⟩
    ·split at t1
     ·rename_i hbr; rw [if_pos hbr]; exact k1 _ _ _ t1
     ·rename_i hbr; rw [if_neg hbr]; exact t1
    ·have := List.all_eq_true.1 t5 x hx
     simp only [edgeOk, Bool.and_eq_true, hbp, ht] at this ⊢
     exact ⟨this.1, by have h9 := k1 _ _ _ this.2; rw [ht] at h9; exact h9⟩
   ·cases c2
 simp only [check, hhead, hds2, hshape, hblocks, Bool.and_self]
theorem bceF_check {e : Env} {f : Fn} (h : check e f = true) : check e (bceF f) = true := drop_check h rfl rfl (bceF_drop f) (bceF_thin f)
end Ss

namespace Ss
theorem pcode_idem (near : List Int) (n : Int) : ∀ (code : List Ins) (M : Far), pcode near n M (pcode near n M code).1 = pcode near n M code
 | [], M => rfl
 | x :: r, M => by
  cases hp : pcov near n M x with
  | true =>
   have hM : pnext near n M x = M := by rw [pnext, if_neg (fun h => by rw [hp] at h; cases h.2)]
   have e : pcode near n M (x :: r) = pcode near n M r := by rw [pcode, if_pos hp, hM]
   rw [e]; exact pcode_idem near n r M
  | false =>
   have e : ∀ l, pcode near n M (x :: l) = (x :: (pcode near n (pnext near n M x) l).1, (pcode near n (pnext near n M x) l).2) := fun l => by rw [pcode, if_neg (by rw [hp]; simp)]
   rw [e r, e, pcode_idem near n r (pnext near n M x)]
theorem fold_other (near : List Int) {n : Nat} : ∀ (r : List Nat) (bs : List Block) (M : Far), n ∉ r → (r.foldl (pstep near) (bs, M)).1[n]? = bs[n]?
 | [], bs, M, _ => rfl
 | k :: r, bs, M, h => by
  simp only [List.mem_cons, not_or] at h
  rw [List.foldl_cons]
  have := fold_other near r (pstep near (bs, M) k).1 (pstep near (bs, M) k).2 h.2
  rw [show ((pstep near (bs, M) k).1, (pstep near (bs, M) k).2) = pstep near (bs, M) k from rfl] at this
  rw [this]
  simp only [pstep]
  rw [List.getElem?_set_ne (fun e => h.1 e.symm)]
theorem fold_idem (near : List Int) : ∀ (r : List Nat) (bs : List Block) (M : Far), r.Nodup → (∀ n ∈ r, n < bs.length) → r.foldl (pstep near) ((r.foldl (pstep near) (bs, M)).1, M) = r.foldl (pstep near) (bs, M)
 | [], bs, M, _, _ => rfl
 | n :: r, bs, M, hn, hl => by
  obtain ⟨h1, h2⟩ := List.nodup_cons.1 hn
  have hnl := hl n (by simp)
  rw [List.foldl_cons]
  have ih := fold_idem near r (pstep near (bs, M) n).1 (pstep near (bs, M) n).2 h2 (fun k hk => by simp only [pstep, List.length_set]; exact hl k (by simp [hk]))
  have hoth := fold_other near r (pstep near (bs, M) n).1 (pstep near (bs, M) n).2 h1
  rw [show ((pstep near (bs, M) n).1, (pstep near (bs, M) n).2) = pstep near (bs, M) n from rfl] at ih hoth
  generalize hF : r.foldl (pstep near) (pstep near (bs, M) n) = F at *
  obtain ⟨bsF, MF⟩ := F
  simp only at ih hoth ⊢
  have hgd : bs.getD n default = bs[n] := by rw [List.getD_eq_getElem?_getD, List.getElem?_eq_getElem hnl]; rfl
  have hb : (pstep near (bs, M) n).1[n]? = some ⟨bs[n].params, (pcode near n M bs[n].code).1, bs[n].term⟩ := by
   simp only [pstep, hgd]
   rw [List.getElem?_set_self hnl]
  rw [hb] at hoth
  have hgF : bsF.getD n default = ⟨bs[n].params, (pcode near n M bs[n].code).1, bs[n].term⟩ := by rw [List.getD_eq_getElem?_getD, hoth]; rfl
  have hstep : pstep near (bsF, M) n = (bsF, (pstep near (bs, M) n).2) := by
   simp only [pstep, hgF, hgd, pcode_idem]
   congr 1
   exact set_same hoth
  simp only [List.foldl_cons, hF]
  rw [hstep]
  exact ih
theorem bceF_idem {e : Env} {f : Fn} (h : check e f = true) : bceF (bceF f) = bceF f := by
 have hg := graphic h
 have hsu : succs (bceF f).blocks = succs f.blocks := (bceF_drop f).map rowOf fun b c _ h1 h2 h3 => by rw [rowOf, rowOf, h2]
 have ho := Go.Vw.G.order_ok hg.ok
 show pbce (Go.Vw.G.rNear (Go.Vw.G.nats (succs (bceF f).blocks))) (Go.Vw.G.order (Go.Vw.G.nats (succs (bceF f).blocks))) (bceF f) = _
 rw [hsu]
 have := fold_idem (Go.Vw.G.rNear (Go.Vw.G.nats (succs f.blocks))) (Go.Vw.G.order (Go.Vw.G.nats (succs f.blocks))) f.blocks [] ho.nd hg.lt
 simp only [bceF, pbce]
 rw [this]
end Ss
