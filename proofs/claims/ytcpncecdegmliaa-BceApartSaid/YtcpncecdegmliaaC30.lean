import Derived.Test.YtcpncecdegmliaaC29
import Derived.Test.YtcpncecdegmliaaC26
import Derived.Test.YtcpncecdegmliaaC24
/-
  Part of the proof (texts SLLess, SLessP, BChk, BDel).
-/
set_option linter.unusedVariables false
set_option linter.unusedSimpArgs false
namespace Ss
def askedO (u : List Bool) (l : List Int) : Bool := l.any fun o => decide (0 ≤ o) && (decide (o < u.length) && u.getD o.toNat false)
end Ss
namespace Go.Vw
open Go.Proofs Go.RowKit
set_option maxRecDepth 10000
set_option maxHeartbeats 2000000
end Go.Vw

namespace Ss
/-! ### Where values are made -/
def outsC (l : List Ins) : List Int := l.flatMap fun x => x.outs
def allB (b : Block) : List Int := b.params ++ outsC b.code
def allL (bs : List Block) : List Int := bs.flatMap allB
abbrev dAt (ds : List Def) (v : Int) : Def := ds.getD v.toNat default
theorem dAt_set {ds : List Def} {v w : Int} {d : Def} (h0 : 0 ≤ v) (h1 : v < ds.length) (hw : 0 ≤ w) : dAt (ds.set v.toNat d) w = if w = v then d else dAt ds w := by
 by_cases h : w = v
 ·subst h
  rw [if_pos rfl]
  simp only [dAt, List.getD_eq_getElem?_getD]
  rw [List.getElem?_set_self (by omega)]; rfl
 ·rw [if_neg h]
  simp only [dAt, List.getD_eq_getElem?_getD]
  rw [List.getElem?_set_ne (by omega)]
structure Puts (l : List Int) (ds d : List Def) : Prop where
 nd : l.Nodup
 pos : ∀ v ∈ l, 0 ≤ v
 new : ∀ v ∈ l, (dAt ds v).made = false
 keep : ∀ w, 0 ≤ w → w ∉ l → dAt d w = dAt ds w
 made : ∀ v ∈ l, (dAt d v).made = true
theorem Puts.trans {l m : List Int} {ds d d' : List Def} (h : Puts l ds d) (k : Puts m d d') : Puts (l ++ m) ds d' := by
 have hdis : ∀ v ∈ l, v ∉ m := fun v hv hm => by
  have h1 := k.new v hm
  rw [h.made v hv] at h1; cases h1
 refine ⟨List.nodup_append.2 ⟨h.nd, k.nd, fun a ha b hb e => hdis a ha (e ▸ hb)⟩, fun v hv => ?_, fun v hv => ?_, fun w h0 hw => ?_, fun v hv => ?_⟩
 ·rcases List.mem_append.1 hv with hv | hv
  ·exact h.pos v hv
  ·exact k.pos v hv
 ·rcases List.mem_append.1 hv with hv | hv
  ·exact h.new v hv
  ·by_cases hl : v ∈ l
   ·exact absurd hv (hdis v hl)
   ·rw [← h.keep v (k.pos v hv) hl]; exact k.new v hv
 ·simp only [List.mem_append, not_or] at hw
  rw [k.keep w h0 hw.2, h.keep w h0 hw.1]
 ·rcases List.mem_append.1 hv with hv | hv
  ·rw [k.keep v (h.pos v hv) (hdis v hv)]; exact h.made v hv
  ·exact k.made v hv
theorem Puts.nil (ds : List Def) : Puts [] ds ds := ⟨List.nodup_nil, by simp, by simp, fun _ _ _ => rfl, by simp⟩
theorem put_puts {block pos : Int} : ∀ {l : List Int} {ds d : List Def}, put block pos ds l = some d → Puts l ds d ∧ ∀ v ∈ l, dAt d v = ⟨true, block, pos⟩
 | [], ds, d, h => by simp only [put, Option.some.injEq] at h; subst h; exact ⟨.nil _, by simp⟩
 | v :: l, ds, d, h => by
  simp only [put] at h
  split at h
  ·cases h
  ·rename_i hn
   have h0 : 0 ≤ v := by omega
   have h1 : v < ds.length := by omega
   have h2 : (dAt ds v).made = false := by
    cases hm : (dAt ds v).made with
    | false => rfl
    | true => exact absurd (.inr (.inr hm)) hn
   obtain ⟨k1, k2⟩ := put_puts h
   have hp : Puts [v] ds (ds.set v.toNat ⟨true, block, pos⟩) :=
    ⟨by simp, by simpa using h0, by simpa using h2, fun w hw hnw => by rw [dAt_set h0 h1 hw, if_neg (by simpa using hnw)], fun w hw => by
     obtain rfl : w = v := by simpa using hw
     rw [dAt_set h0 h1 h0, if_pos rfl]⟩
   refine ⟨hp.trans k1, fun w hw => ?_⟩
   by_cases hl : w ∈ l
   ·exact k2 w hl
   ·obtain rfl : w = v := by simpa [hl] using hw
    rw [k1.keep w h0 hl, dAt_set h0 h1 h0, if_pos rfl]
theorem putCode_puts {i : Int} : ∀ {l : List Ins} {k : Nat} {ds d : List Def}, putCode i k ds l = some d → Puts (outsC l) ds d ∧ ∀ (j : Nat) (x : Ins), l[j]? = some x → ∀ v ∈ x.outs, dAt d v = ⟨true, i, ((k + j : Nat) : Int)⟩
 | [], k, ds, d, h => by simp only [putCode, Option.some.injEq] at h; subst h; exact ⟨.nil _, by simp⟩
 | x :: l, k, ds, d, h => by
  simp only [putCode] at h
  obtain ⟨d1, h1, h2⟩ := Option.bind_eq_some_iff.1 h
  obtain ⟨p1, q1⟩ := put_puts h1
  obtain ⟨p2, q2⟩ := putCode_puts h2
  refine ⟨p1.trans p2, fun j y hj v hv => ?_⟩
  cases j with
  | zero =>
   simp only [List.getElem?_cons_zero, Option.some.injEq] at hj
   subst hj
   have hn : v ∉ outsC l := fun hm => by
    have := p2.new v hm
    rw [p1.made v hv] at this; cases this
   rw [p2.keep v (p1.pos v hv) hn, q1 v hv]; rfl
  | succ j =>
   have := q2 j y (by simpa using hj) v hv
   rw [this]; congr 2; omega
theorem putBlocks_puts : ∀ {l : List Block} {i : Nat} {ds d : List Def}, putBlocks i ds l = some d → Puts (allL l) ds d ∧ ∀ (j : Nat) (b : Block), l[j]? = some b → ∀ (k : Nat) (x : Ins), b.code[k]? = some x → ∀ v ∈ x.outs, dAt d v = ⟨true, ((i + j : Nat) : Int), (k : Int)⟩
 | [], i, ds, d, h => by simp only [putBlocks, Option.some.injEq] at h; subst h; exact ⟨.nil _, by simp⟩
 | b :: l, i, ds, d, h => by
  simp only [putBlocks] at h
  obtain ⟨d2, h1, h2⟩ := Option.bind_eq_some_iff.1 h
  obtain ⟨d1, h3, h4⟩ := Option.bind_eq_some_iff.1 h1
  obtain ⟨p1, _⟩ := put_puts h3
  obtain ⟨p2, q2⟩ := putCode_puts h4
  obtain ⟨p3, q3⟩ := putBlocks_puts h2
  refine ⟨(p1.trans p2).trans p3, fun j y hj k x hk v hv => ?_⟩
  cases j with
  | zero =>
   simp only [List.getElem?_cons_zero, Option.some.injEq] at hj
   subst hj
   have hm : v ∈ outsC b.code := List.mem_flatMap.2 ⟨x, List.mem_of_getElem? hk, hv⟩
   have hn : v ∉ allL l := fun hm' => by
    have := p3.new v hm'
    rw [p2.made v hm] at this; cases this
   rw [p3.keep v (p2.pos v hm) hn, q2 k x hk v hv]; simp
  | succ j =>
   have := q3 j y (by simpa using hj) k x hk v hv
   rw [this]; congr 2; omega
theorem dAt_rep (n : Nat) (v : Int) : (dAt (List.replicate n ⟨false, 0, 0⟩) v).made = false := by
 simp only [dAt, List.getD_eq_getElem?_getD, List.getElem?_replicate]
 split <;> rfl
theorem defs_made {f : Fn} {ds : List Def} (h : defsOf f = some ds) : (allL f.blocks).Nodup ∧ (∀ v, 0 ≤ v → (dAt ds v).made = true → v ∈ allL f.blocks) ∧ ∀ (i : Nat) (b : Block), f.blocks[i]? = some b → ∀ (k : Nat) (x : Ins), b.code[k]? = some x → ∀ v ∈ x.outs, dAt ds v = ⟨true, (i : Int), (k : Int)⟩ := by
 obtain ⟨p, q⟩ := putBlocks_puts h
 refine ⟨p.nd, fun v h0 hm => ?_, fun i b hb k x hx v hv => by simpa using q i b hb k x hx v hv⟩
 refine Classical.byContradiction fun hn => ?_
 rw [p.keep v h0 hn, dAt_rep] at hm
 cases hm
/-! ### Who asks -/
theorem checkCode_at {e : Env} {f : Fn} {ds : List Def} {near : List Int} {i : Int} : ∀ {l : List Ins} {k j : Nat} {x : Ins}, checkCode e f ds near i k l = true → l[j]? = some x → insOk e f ds near i ((k + j : Nat) : Int) x = true
 | [], k, j, x, _, hx => by simp at hx
 | y :: l, k, j, x, h, hx => by
  simp only [checkCode, Bool.and_eq_true] at h
  cases j with
  | zero => simp only [List.getElem?_cons_zero, Option.some.injEq] at hx; subst hx; exact h.1
  | succ j =>
   have := checkCode_at h.2 (j := j) (x := x) (by simpa using hx)
   rw [show k + (j + 1) = k + 1 + j by omega]; exact this
theorem checkBlocks_at {e : Env} {f : Fn} {ds : List Def} {near : List Int} : ∀ {l : List Block} {i j : Nat} {b : Block}, checkBlocks e f ds near i l = true → l[j]? = some b → checkCode e f ds near ((i + j : Nat) : Int) 0 b.code = true ∧ termOk f ds near ((i + j : Nat) : Int) b = true
 | [], i, j, b, _, hb => by simp at hb
 | y :: l, i, j, b, h, hb => by
  simp only [checkBlocks, Bool.and_eq_true] at h
  cases j with
  | zero => simp only [List.getElem?_cons_zero, Option.some.injEq] at hb; subst hb; exact h.1
  | succ j =>
   have := checkBlocks_at h.2 (j := j) (b := b) (by simpa using hb)
   rw [show i + (j + 1) = i + 1 + j by omega]; exact this
theorem check_spec {e : Env} {f : Fn} (h : check e f = true) : checkHead e f = true ∧ ∃ ds, defsOf f = some ds ∧ shapeOk f = true ∧ checkBlocks e f ds (Go.Vw.G.nearI (succs f.blocks)) 0 f.blocks = true := by
 simp only [check, Bool.and_eq_true] at h
 refine ⟨h.1, ?_⟩
 cases hd : defsOf f with
 | none => rw [hd] at h; simp at h
 | some ds =>
  rw [hd] at h
  simp only [Bool.and_eq_true] at h
  exact ⟨ds, rfl, h.2.1, h.2.2⟩
end Ss
namespace Go.Vw
open Go.Proofs Go.RowKit
end Go.Vw

namespace Ss
open Go.Vw Go.Vw.G
theorem form_check {e : Env} {n out : Int} (h : (form e 257 n out).ok = true) : (form e 257 n out).inn = [127] ∧ (form e 257 n out).most = 8589934592 ∧ (form e 257 n out).outs = [] := by
 have e0 : form e 257 n out = formNum e 257 := by simp [form]
 have e1 : numSig 257 = ((numSig 257).1, (numSig 257).2.1, false) := by
  have : (numSig 257).2.2 = false := by decide
  rw [← this]
 rw [e0] at h ⊢
 unfold formNum at h ⊢
 rw [e1] at h ⊢
 simp only at h ⊢
 cases hm : e.mem with
 | false => rw [hm] at h; simp at h
 | true => simp [formMem]
theorem check_ins {e : Env} {f : Fn} (h : check e f = true) {b : Block} (hb : b ∈ f.blocks) {x : Ins} (hx : x ∈ b.code) : ∃ ds near i k, insOk e f ds near i k x = true := by
 obtain ⟨_, ds, _, _, hB⟩ := check_spec h
 obtain ⟨j, hj⟩ := List.mem_iff_getElem?.1 hb
 obtain ⟨k, hk⟩ := List.mem_iff_getElem?.1 hx
 obtain ⟨h1, _⟩ := checkBlocks_at hB hj
 exact ⟨_, _, _, _, checkCode_at h1 hk⟩
theorem eqF_len {α : Type} {p : α → α → Bool} : ∀ {l m : List α}, eqF p l m = true → l.length = m.length
 | [], [], _ => rfl
 | [], _ :: _, h => by simp [eqF] at h
 | _ :: _, [], h => by simp [eqF] at h
 | x :: l, y :: m, h => by
  have : eqF p l m = true := by
   simp only [eqF, Bool.and_eq_true] at h
   first | exact h.2 | exact h.2.2
  simp [eqF_len this]
theorem check_257 {e : Env} {f : Fn} (h : check e f = true) {b : Block} (hb : b ∈ f.blocks) {x : Ins} (hx : x ∈ b.code) (ho : x.op = 257) : x.args.length = 1 ∧ x.n ≤ 8589934592 ∧ x.outs = [] := by
 obtain ⟨ds, near, i, k, hi⟩ := check_ins h hb hx
 simp only [insOk, Bool.and_eq_true, decide_eq_true_eq, ho] at hi
 obtain ⟨⟨⟨h1, h2⟩, h3⟩, h4⟩ := hi
 obtain ⟨f1, f2, f3⟩ := form_check h1
 rw [f1] at h4
 rw [f2] at h2
 rw [f3] at h3
 exact ⟨by have h5 : List.length x.args = List.length [(127 : Int)] := eqF_len h4; simpa using h5, h2, by simpa [typesOf] using h3⟩
theorem ends_of {g : List (List Nat)} (hg : Ok g) {near : List Int} (hN : NearOk g near) : ∀ (k : Nat) (b : Nat), b ∈ order g → rk g (order g) b < k → UpEnds near k b
 | 0, b, _, h => by omega
 | k + 1, b, hb, h => by
  have ho := order_ok hg
  have hbl := ho.lt b hb
  have hok : okIx near (b : Int) := ⟨by omega, by rw [hN.len]; omega⟩
  refine .inr ⟨hok, ?_⟩
  rw [Int.toNat_natCast]
  by_cases hb0 : b = 0
  ·subst hb0
   have : near.getD 0 0 = -1 := hN.zero
   rw [this]
   cases k with
   | zero => show (-1 : Int) < 0; omega
   | succ k => exact .inl (by omega)
  ·obtain ⟨p, q1, q2, q3, q4, q5⟩ := hN.near b hb hb0
   have hnd : near.getD b 0 = (p : Int) := q1
   rw [hnd]
   have hr := q4.rk ho q2 hb q3
   exact ends_of hg hN k p q2 (by omega)
structure Graphic (f : Fn) : Prop where
 ok : Ok (nats (succs f.blocks))
 right : G.right (succs f.blocks) = true
 ord : G.ordI (succs f.blocks) = order (nats (succs f.blocks))
 near : G.nearI (succs f.blocks) = rNear (nats (succs f.blocks))
 len : (order (nats (succs f.blocks))).length = f.blocks.length
 lt : ∀ n ∈ order (nats (succs f.blocks)), n < f.blocks.length
 nlen : (rNear (nats (succs f.blocks))).length = f.blocks.length
 ends : ∀ n ∈ order (nats (succs f.blocks)), UpEnds (rNear (nats (succs f.blocks))) 256 n
 blocks : f.blocks.length ≤ 256
theorem nats_succs_len (bs : List Block) : (nats (succs bs)).length = bs.length := by rw [nats_length, succs, List.length_map]
theorem graphic {e : Env} {f : Fn} (h : check e f = true) : Graphic f := by
 obtain ⟨h1, ds, hds, hsh, hB⟩ := check_spec h
 have hr : G.right (succs f.blocks) = true := by
  unfold shapeOk at hsh
  simp only [Bool.and_eq_true] at hsh
  exact hsh.1.1.1.1
 have hol : (G.ordI (succs f.blocks)).length = f.blocks.length := by
  unfold shapeOk at hsh
  simp only [Bool.and_eq_true, decide_eq_true_eq] at hsh
  exact hsh.1.1.1.2
 have hok := right_ok hr
 have e1 : G.ordI (succs f.blocks) = order (nats (succs f.blocks)) := by simp [G.ordI, hr]
 have e2 : G.nearI (succs f.blocks) = rNear (nats (succs f.blocks)) := by simp [G.nearI, hr]
 have hN := rNear_ok hok
 have ho := order_ok hok
 have hl := nats_succs_len f.blocks
 rw [e1] at hol
 have hmx := hok.max
 rw [hl] at hmx
 exact ⟨hok, hr, e1, e2, hol, fun n hn => by rw [← hl]; exact ho.lt n hn, by rw [hN.len, hl], fun n hn => ends_of hok hN 256 n hn (by have := rk_lt ho hn; omega), hmx⟩
theorem check_small {e : Env} {f : Fn} (h : check e f = true) : f.small = true := by
 have := (check_spec h).1
 unfold checkHead at this
 simp only [Bool.and_eq_true] at this
 exact this.1.1.1.1.2
end Ss

namespace Go.Vw
open Go.Proofs Go.RowKit
set_option maxRecDepth 10000
set_option maxHeartbeats 2000000
def idxG {α ρ : Type} (p : α → ρ → Bool) (nx : α → ρ → α) : α → List ρ → Nat → Int × α
 | a, [], _ => (-1, a)
 | a, r :: rs, k => if p a r then ((k : Int), nx a r) else idxG p nx (nx a r) rs (k + 1)
def delG {α ρ : Type} (p : α → ρ → Bool) (nx : α → ρ → α) : α → List ρ → List ρ × α
 | a, [] => ([], a)
 | a, r :: rs => if p a r then delG p nx (nx a r) rs else (r :: (delG p nx (nx a r) rs).1, (delG p nx (nx a r) rs).2)
theorem idxG_del {α ρ : Type} (p : α → ρ → Bool) (nx : α → ρ → α) : ∀ (rs : List ρ) (a : α) (k : Nat), ((idxG p nx a rs k).1 = -1 ∧ delG p nx a rs = (rs, (idxG p nx a rs k).2)) ∨ ∃ i : Nat, i < rs.length ∧ (idxG p nx a rs k).1 = (k + i : Nat) ∧ delG p nx a rs = (rs.take i ++ (delG p nx (idxG p nx a rs k).2 (rs.drop (i + 1))).1, (delG p nx (idxG p nx a rs k).2 (rs.drop (i + 1))).2)
 | [], a, k => .inl ⟨rfl, rfl⟩
 | r :: rs, a, k => by
  by_cases h : p a r = true
  ·refine .inr ⟨0, by simp, ?_, ?_⟩
   ·simp [idxG, h]
   ·simp [delG, idxG, h]
  ·have e1 : idxG p nx a (r :: rs) k = idxG p nx (nx a r) rs (k + 1) := by simp [idxG, h]
   have e2 : delG p nx a (r :: rs) = (r :: (delG p nx (nx a r) rs).1, (delG p nx (nx a r) rs).2) := by simp [delG, h]
   rcases idxG_del p nx rs (nx a r) (k + 1) with ⟨h1, h2⟩ | ⟨i, hi, h1, h2⟩
   ·exact .inl ⟨by rw [e1, h1], by rw [e2, h2, e1]⟩
   ·refine .inr ⟨i + 1, by simp; omega, by rw [e1, h1]; congr 1; omega, ?_⟩
    rw [e2, e1, h2]
    simp
theorem flat_length {m : Nat} : ∀ {rows : List (List V)}, (∀ r ∈ rows, r.length = m) → rows.flatten.length = rows.length * m
 | [], _ => by simp
 | r :: rs, h => by rw [List.flatten_cons, List.length_append, h r (by simp), flat_length fun x hx => h x (by simp [hx]), List.length_cons, Nat.succ_mul]; omega
theorem flat_take {m : Nat} : ∀ {rows : List (List V)} (k : Nat), (∀ r ∈ rows, r.length = m) → rows.flatten.take (k * m) = (rows.take k).flatten
 | [], k, _ => by simp
 | r :: rs, 0, h => by simp
 | r :: rs, k + 1, h => by
  have hr := h r (by simp)
  rw [List.flatten_cons, List.take_succ_cons, List.flatten_cons, ← flat_take k fun x hx => h x (by simp [hx]), Nat.succ_mul, List.take_append, hr]
  rw [show k * m + m - m = k * m by omega, List.take_of_length_le (by rw [hr]; omega)]
theorem flat_drop {m : Nat} {rows : List (List V)} (k : Nat) (h : ∀ r ∈ rows, r.length = m) : rows.flatten.drop (k * m) = (rows.drop k).flatten := by
 have e := List.take_append_drop (k * m) rows.flatten
 have e2 : rows.flatten = (rows.take k).flatten ++ (rows.drop k).flatten := by rw [← List.flatten_append, List.take_append_drop]
 rw [flat_take k h] at e
 exact List.append_cancel_left (e.trans e2)
theorem flat_row {m : Nat} {rows : List (List V)} {k : Nat} (h : ∀ r ∈ rows, r.length = m) (hk : k < rows.length) : (rows.flatten.drop (k * m)).take m = rows[k] := by
 rw [flat_drop k h, List.drop_eq_getElem_cons hk, List.flatten_cons, List.take_append_of_le_length (by rw [h _ (List.getElem_mem hk)]; omega), List.take_of_length_le (by rw [h _ (List.getElem_mem hk)]; omega)]
theorem splice_len (cs : List V) (q : Nat) (xs : List V) (h : q + xs.length ≤ cs.length) : (splice cs q xs).length = cs.length := by
 simp only [splice, List.length_append, List.length_take, List.length_drop]; omega
theorem splice_take (cs : List V) (q : Nat) (xs : List V) (h : q + xs.length ≤ cs.length) : (splice cs q xs).take (q + xs.length) = cs.take q ++ xs := by
 rw [splice, List.take_append_of_le_length (by simp; omega), List.take_of_length_le (by simp; omega)]
theorem splice_take0 (cs : List V) (q : Nat) (xs : List V) (h : q ≤ cs.length) : (splice cs q xs).take q = cs.take q := by
 rw [splice, List.append_assoc, List.take_append_of_le_length (by simp; omega), List.take_take, Nat.min_self]
theorem splice_drop (cs : List V) (q r : Nat) (xs : List V) (h : q + xs.length ≤ cs.length) (hr : q + xs.length ≤ r) : (splice cs q xs).drop r = cs.drop r := by
 have h1 : (cs.take q).length = q := by rw [List.length_take]; omega
 rw [splice, List.drop_append, List.drop_eq_nil_of_le (by simp; omega), List.nil_append, List.drop_drop, List.length_append, h1]
 congr 1; omega
section
variable {α : Type} (I : α → Store → Prop) (p : α → List V → Bool) (nx : α → List V → α) {oc N : Nat} {rows : List (List V)} {fid : FuncId} {caps : List V}
theorem IndexDel_v (hc : callable Try.prog fid = true) (hr4 : ∀ r ∈ rows, r.length = 4) (hlim : rows.length < 2^62) (hN : oc < N)
  (hloc : ∀ a S S', (∀ o, o < N → o ≠ oc → S'.get o = S.get o) → I a S → I a S')
  (hdel : ∀ a S r, r ∈ rows → I a S → N ≤ S.nx → VCalls Try.prog fid (.agg r :: caps) S fun v T => v = .bool (p a r) ∧ I (nx a r) T ∧ S.nx ≤ T.nx ∧ ∀ o, o < S.nx → (N ≤ o ∨ o = oc) → T.get o = S.get o)
  {a : α} {S : Store} (hI : I a S) (hS : N ≤ S.nx) (hg : S.get oc = some (4, rows.flatten)) :
  VCalls Try.prog 62 [.slice oc 0 rows.length, .func fid caps] S fun v T => v = vint (idxG p nx a rows 0).1 ∧ I (idxG p nx a rows 0).2 T ∧ N ≤ T.nx ∧ T.get oc = some (4, rows.flatten) := by
 have b0 := fun u l => @St_old S u l oc (by omega)
 have hfl := flat_length hr4
 refine vcalls_start (c := bodyOf Try.f62) Try.func62 rfl rfl (by simp [Try.ntmps62]) ?_
 rw [Try.ntmps62]
 intro hwf
 repeat (first|refine QG ?_|refine QX (r:=by conv=>lhs;simp[-List.map_set,QV,b0,hg]) (k:=?_))
 repeat refine QS ?_
 refine vw_loopAt [0, 1, 7, 8] rfl (fun c σ S' => ∃ (b : α) (k : Nat), I b S' ∧ N ≤ S'.nx ∧ S'.get oc = some (4, rows.flatten) ∧ k ≤ rows.length ∧ c = rows.length - k ∧ idxG p nx b (rows.drop k) k = idxG p nx a rows 0 ∧ σ = [(0, .slice oc 0 rows.length), (1, .func fid caps), (7, vnat rows.length), (8, vnat k)]) rows.length ?_ ?_
 ·exact ⟨a, 0, by rw [St_nil hwf]; exact hI, by rw [St_nil hwf]; exact hS, by rw [St_nil hwf]; exact hg, by omega, rfl, rfl, by simp [Fr.only]⟩
 ·rintro c σ T ⟨b, k, hIb, hT, hgT, hk, rfl, hd, rfl⟩
  refine vw_wf fun hwT => vw_nil hwT ?_
  have bT := fun u l => @St_old T u l oc (by omega)
  by_cases hkt : k < rows.length
  ·have hst : idxG p nx b (rows.drop k) k = if p b rows[k] then ((k : Int), nx b rows[k]) else idxG p nx (nx b rows[k]) (rows.drop (k + 1)) (k + 1) := by rw [List.drop_eq_getElem_cons hkt, idxG]
   have hw := wrapNat hkt (by omega)
   have hrow := flat_row hr4 hkt
   have hle : k * 4 + 4 ≤ rows.length * 4 := by omega
   repeat (first|refine QG ?_|refine QX (r:=by conv=>lhs;simp[-List.map_set,QV,hkt,bT,hgT]) (k:=?_))
   repeat refine QS ?_
   refine QR (r:=by conv=>lhs;simp[-List.map_set,QV,hkt,bT,hgT,hfl,hle,hrow]) (k:=?_)
   refine vcallv_any rfl hc rfl (hdel b _ _ (List.getElem_mem hkt) (by rw [St_nil hwT]; exact hIb) (by rw [St_nil hwT]; exact hT)) ?_
   rintro X T2 ⟨rfl, hI2, hT2, hg2⟩
   rw [St_nil hwT] at hT2 hg2
   have hg3 := (hg2 oc (by omega) (.inr rfl)).trans hgT
   cases hp : p b rows[k] with
   | true =>
    rw [hp] at hst
    simp only [if_true] at hst
    rw [hst] at hd
    refine QM (by conv=>lhs;simp[-List.map_set,QV]) ?_
    refine QN ?_
    repeat (first|refine QG ?_|refine QX (r:=by conv=>lhs;simp[-List.map_set,QV]) (k:=?_))
    refine done_as ⟨?_, ?_, by omega, hg3⟩
    ·rw [← hd]; rfl
    ·rw [← hd]; exact hI2
   | false =>
    rw [hp] at hst
    simp only [Bool.false_eq_true, if_false] at hst
    refine QM (by conv=>lhs;simp[-List.map_set,QV]) ?_
    refine QN ?_
    repeat (first|refine QG ?_|refine QX (r:=by conv=>lhs;simp[-List.map_set,QV,hw]) (k:=?_))
    show Again _ _ _ _ _ _ _
    exact again ⟨Nat.sub_lt_sub_left hkt (Nat.lt_succ_self k), nx b rows[k], k + 1, hI2, by omega, hg3, hkt, rfl, by rw [← hd, hst], by simp [Fr.only, Fr.look]⟩
  ·have e : rows.drop k = [] := by rw [List.drop_eq_nil_iff]; omega
   rw [e] at hd
   simp only [idxG] at hd
   repeat (first|refine QG ?_|refine QX (r:=by conv=>lhs;simp[-List.map_set,QV,hkt]) (k:=?_))
   refine done_as ⟨?_, ?_, by rw [St_nil hwT]; exact hT, by rw [St_nil hwT]; exact hgT⟩
   ·rw [← hd]; rfl
   ·rw [← hd, St_nil hwT]; exact hIb
theorem Delete_v (hc : callable Try.prog fid = true) (hr4 : ∀ r ∈ rows, r.length = 4) (hlim : rows.length < 2^62) (hN : oc < N)
  (hloc : ∀ a S S', (∀ o, o < N → o ≠ oc → S'.get o = S.get o) → I a S → I a S')
  (hdel : ∀ a S r, r ∈ rows → I a S → N ≤ S.nx → VCalls Try.prog fid (.agg r :: caps) S fun v T => v = .bool (p a r) ∧ I (nx a r) T ∧ S.nx ≤ T.nx ∧ ∀ o, o < S.nx → (N ≤ o ∨ o = oc) → T.get o = S.get o)
  {a : α} {S : Store} (hI : I a S) (hS : N ≤ S.nx) (hg : S.get oc = some (4, rows.flatten)) :
  VCalls Try.prog 22 [.slice oc 0 rows.length, .func fid caps] S fun v T => v = .slice oc 0 (delG p nx a rows).1.length ∧ I (delG p nx a rows).2 T ∧ N ≤ T.nx ∧ T.get oc = some (4, (delG p nx a rows).1.flatten) := by
 have ci := IndexDel_v I p nx hc hr4 hlim hN hloc hdel hI hS hg
 have hfl := flat_length hr4
 refine vcalls_start (c := bodyOf Try.f22) Try.func22 rfl rfl (by simp [Try.ntmps22]) ?_
 rw [Try.ntmps22]
 intro hwf
 rw [← St_nil hwf] at ci
 repeat (first|refine QG ?_|refine QX (r:=by conv=>lhs;simp[-List.map_set,QV]) (k:=?_))
 repeat refine QS ?_
 refine QR (r:=by conv=>lhs;simp[-List.map_set,QV]) (k:=?_)
 refine vcall_any rfl ci ?_
 rintro X T ⟨rfl, hI2, hT2, hg2⟩
 rcases idxG_del p nx rows a 0 with ⟨h1, h2⟩ | ⟨i, hi, h1, h2⟩
 ·refine QM (by conv=>lhs;simp[-List.map_set,QV,h1]) ?_
  refine QN ?_
  repeat (first|refine QG ?_|refine QX (r:=by conv=>lhs;simp[-List.map_set,QV]) (k:=?_))
  refine done_as ⟨?_, ?_, hT2, ?_⟩
  ·rw [h2]; rfl
  ·rw [h2]; exact hI2
  ·rw [h2]; exact hg2
 rw [Nat.zero_add] at h1
 have hw := wrapNat hi (by omega)
 generalize hst : idxG p nx a rows 0 = st at *
 obtain ⟨z, b0⟩ := st
 simp only at h1 h2 hI2
 subst h1
 have hi1 : ¬ ((i : Int) = -1) := by omega
 refine QM (by conv=>lhs;simp[-List.map_set,QV]) ?_
 refine QN ?_
 repeat (first|refine QG ?_|refine QX (r:=by conv=>lhs;simp[-List.map_set,QV,hi1,hw]) (k:=?_))
 repeat refine QS ?_
 refine vw_loopAt [0, 1, 5, 6] rfl (fun c σ S' => ∃ (b : α) (K : List (List V)) (j : Nat) (cells : List V), I b S' ∧ N ≤ S'.nx ∧ S'.get oc = some (4, cells) ∧ cells.length = rows.length * 4 ∧ cells.take (K.length * 4) = K.flatten ∧ cells.drop (j * 4) = (rows.drop j).flatten ∧ K.length < j ∧ j ≤ rows.length ∧ c = rows.length - j ∧ (K ++ (delG p nx b (rows.drop j)).1, (delG p nx b (rows.drop j)).2) = delG p nx a rows ∧ σ = [(0, .slice oc 0 rows.length), (1, .func fid caps), (5, vnat K.length), (6, vnat j)]) (rows.length - (i + 1)) ?_ ?_
 ·refine ⟨b0, rows.take i, i + 1, rows.flatten, hI2, hT2, hg2, hfl, ?_, flat_drop _ hr4, by simp; omega, by omega, rfl, h2.symm, ?_⟩
  ·rw [List.length_take, Nat.min_eq_left (by omega)]; exact flat_take i hr4
  ·simp [Fr.only, Fr.look, Nat.min_eq_left (Nat.le_of_lt hi)]
 ·rintro c σ T3 ⟨b, K, j, cells, hI3, hT3, hg3, hcl, hck, hcd, hKj, hj, rfl, hd, rfl⟩
  refine vw_wf fun hwT => vw_nil hwT ?_
  have bT := fun u l => @St_old T3 u l oc (by omega)
  by_cases hjt : j < rows.length
  ·have hw2 := wrapNat hjt (by omega)
   have hKw := wrapNat (k := K.length) (n := rows.length) (by omega) (by omega)
   have hr := List.drop_eq_getElem_cons hjt
   obtain ⟨x0, x1, x2, x3, hx⟩ : ∃ x0 x1 x2 x3, rows[j] = [x0, x1, x2, x3] := by
    have := hr4 _ (List.getElem_mem hjt)
    match rows[j], this with
    | [x0, x1, x2, x3], _ => exact ⟨x0, x1, x2, x3, rfl⟩
   have hrow : (cells.drop (j * 4)).take 4 = [x0, x1, x2, x3] := by rw [hcd, hr, List.flatten_cons, hx]; rfl
   have hle : j * 4 + 4 ≤ rows.length * 4 := by omega
   repeat (first|refine QG ?_|refine QX (r:=by conv=>lhs;simp[-List.map_set,QV,hjt,bT,hg3,hcl,hle,hrow]) (k:=?_))
   have hI3' : I b (St T3 [] [some (4, [x0, x1, x2, x3])]) := hloc b T3 _ (fun o ho _ => by rw [St_old (by omega)]; rfl) hI3
   have hmem : [x0, x1, x2, x3] ∈ rows := hx ▸ List.getElem_mem hjt
   have hst : delG p nx b (rows.drop j) = if p b [x0, x1, x2, x3] then delG p nx (nx b [x0, x1, x2, x3]) (rows.drop (j + 1)) else ([x0, x1, x2, x3] :: (delG p nx (nx b [x0, x1, x2, x3]) (rows.drop (j + 1))).1, (delG p nx (nx b [x0, x1, x2, x3]) (rows.drop (j + 1))).2) := by rw [hr, delG, hx]
   have hcd2 : cells.drop ((j + 1) * 4) = (rows.drop (j + 1)).flatten := by
    rw [show (j + 1) * 4 = j * 4 + 4 by omega, ← List.drop_drop, hcd, hr, List.flatten_cons, hx]; rfl
   repeat refine QS ?_
   refine QR (r:=by conv=>lhs;simp[-List.map_set,QV]) (k:=?_)
   refine vcallv_any rfl hc rfl (hdel b _ _ hmem hI3' (by rw [St_nx, lid]; omega)) ?_
   rintro X T4 ⟨rfl, hI4, hT4, hg4⟩
   rw [St_nx] at hT4 hg4
   have hg5 := (hg4 oc (by simp only [lid]; omega) (.inr rfl)).trans ((bT [] _).trans hg3)
   have hg6 := (hg4 (lid T3.nx 0) (by simp [lid]) (.inl (by simp only [lid]; omega))).trans (St_get)
   simp only [List.getElem?_cons_zero, Option.join_some] at hg6
   have hle4 : T3.nx + 1 ≤ T4.nx := by simpa [lid] using hT4
   have b1 := fun u l => @St_old T4 u l oc (by omega)
   have b2 := fun u l => @St_old T4 u l (lid T3.nx 0) (by simp only [lid]; omega)
   generalize lid T3.nx 0 = q4 at *
   cases hp : p b [x0, x1, x2, x3] with
   | true =>
    rw [hp] at hst
    simp only [if_true] at hst
    refine QM (by conv=>lhs;simp[-List.map_set,QV]) ?_
    refine QN ?_
    repeat (first|refine QG ?_|refine QX (r:=by conv=>lhs;simp[-List.map_set,QV,hw2]) (k:=?_))
    show Again _ _ _ _ _ _ _
    exact again ⟨Nat.sub_lt_sub_left hjt (Nat.lt_succ_self j), nx b [x0, x1, x2, x3], K, j + 1, cells, hI4, by omega, hg5, hcl, hck, hcd2, by omega, hjt, rfl, by rw [← hd, hst], by simp [Fr.only, Fr.look]⟩
   | false =>
    rw [hp] at hst
    simp only [Bool.false_eq_true, if_false] at hst
    refine QM (by conv=>lhs;simp[-List.map_set,QV]) ?_
    refine QN ?_
    refine vw_wf fun hw4 => vw_nil hw4 ?_
    have hle5 : K.length * 4 + 4 ≤ rows.length * 4 := by omega
    have hlt5 : K.length < rows.length := by omega
    repeat (first|refine QG ?_|refine QX (r:=by conv=>lhs;simp[-List.map_set,QV,b1,b2,hg5,hg6,hcl,hle5,hlt5,hw2,hKw]) (k:=?_))
    have hsl : K.length * 4 + [x0, x1, x2, x3].length ≤ cells.length := by simp only [List.length_cons, List.length_nil]; omega
    have hne : (St T4 [] []).upd oc (4, List.take (K.length * 4) cells ++ x0 :: x1 :: x2 :: x3 :: List.drop (K.length * 4 + 4) cells) = T4.upd oc (4, splice cells (K.length * 4) [x0, x1, x2, x3]) := by rw [St_nil hw4]; simp [splice]
    show Again _ _ _ _ _ _ _
    refine again ⟨Nat.sub_lt_sub_left hjt (Nat.lt_succ_self j), nx b [x0, x1, x2, x3], K ++ [[x0, x1, x2, x3]], j + 1, splice cells (K.length * 4) [x0, x1, x2, x3], hloc _ T4 _ (fun o _ ho => ?_) hI4, ?_, ?_, by rw [splice_len _ _ _ hsl]; exact hcl, ?_, ?_, by simp; omega, hjt, rfl, by rw [← hd, hst]; simp, by simp [Fr.only, Fr.look]⟩
    ·rw [hne, upd_old ho]
    ·rw [hne]; show N ≤ T4.nx; omega
    ·rw [hne, upd_new]
    ·have := splice_take cells (K.length * 4) [x0, x1, x2, x3] hsl
     rw [hck] at this
     rw [List.length_append, List.length_singleton, Nat.succ_mul, List.flatten_append]
     simpa using this
    ·rw [splice_drop _ _ _ _ hsl (by simp only [List.length_cons, List.length_nil]; omega)]; exact hcd2
  ·have hje : j = rows.length := by omega
   subst hje
   have e : rows.drop rows.length = [] := by simp
   rw [e] at hd
   simp only [delG, List.append_nil] at hd
   have hKl : K.length ≤ rows.length := by omega
   have hcl2 : K.length * 4 + (rows.length - K.length) * 4 ≤ rows.length * 4 := by omega
   have hclr : opClear 4 [V.int .i64 0, .int .u64 0, .nils, .nils] (St T3 [] []) (.slice oc (K.length * 4) (rows.length - K.length)) = some ((St T3 [] []).upd oc (4, splice cells (K.length * 4) (rep0 [V.int .i64 0, .int .u64 0, .nils, .nils] (rows.length - K.length)))) := by
    have hle : K.length * 4 + (rows.length - K.length) * 4 ≤ cells.length := by rw [hcl]; exact hcl2
    simp only [opClear, bT, uGet, hg3, hle, if_true]
   generalize hcz : splice cells (K.length * 4) (rep0 [V.int .i64 0, .int .u64 0, .nils, .nils] (rows.length - K.length)) = cz at hclr
   have hct : cz.take (K.length * 4) = K.flatten := by rw [← hcz, splice_take0 _ _ _ (by omega), hck]
   repeat (first|refine QG ?_|refine QX (r:=by conv=>lhs;simp[-List.map_set,QV,hjt,bT,hg3]) (k:=?_))
   repeat refine QS ?_
   refine QR (r:=by conv=>lhs;simp[-List.map_set,QV,bT,hg3,hKl,hclr]) (k:=?_)
   refine QN ?_
   have hgu : ((St T3 [] []).upd oc (4, cz)).get oc = some (4, cz) := upd_new
   apply vw_reach
   ·exact Reach.trim 0 rfl hgu (K.length * 4)
   simp only [hct]
   have hT5 : ((St T3 [] []).upd oc (4, cz)).upd oc (4, K.flatten) = T3.upd oc (4, K.flatten) := by
    rw [St_nil hwT]
    refine Store.ext' (funext fun o => ?_) rfl
    simp only [upd_at]
    split <;> rfl
   rw [hT5]
   refine vw_wf fun hw5 => vw_nil hw5 ?_
   have b5 := fun u l => @St_old (T3.upd oc (4, K.flatten)) u l oc (by show oc < T3.nx; omega)
   have hg5 : (T3.upd oc (4, K.flatten)).get oc = some (4, K.flatten) := upd_new
   repeat (first|refine QG ?_|refine QX (r:=by conv=>lhs;simp[-List.map_set,QV,b5,hg5,hKl]) (k:=?_))
   rw [St_nil hw5]
   refine done_as ⟨?_, ?_, hT3, ?_⟩
   ·rw [← hd]; rfl
   ·rw [← hd]; exact hloc _ T3 _ (fun o _ ho => upd_old ho) hI3
   ·rw [← hd]; exact hg5
end
end Go.Vw
