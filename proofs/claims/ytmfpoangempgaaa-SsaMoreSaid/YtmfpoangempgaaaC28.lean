import Derived.Test.YtmfpoangempgaaaC27
import Derived.Test.YtmfpoangempgaaaC25
import Derived.Test.YtmfpoangempgaaaC22
import Derived.Test.YtmfpoangempgaaaC21
/-
  Part of the proof (texts SCut, SUsed).
-/
set_option linter.unusedVariables false
set_option linter.unusedSimpArgs false
namespace Ss
/-- A function without an instruction. -/
def cutB (b : Block) (k : Nat) : Block := ⟨b.params, b.code.take k ++ b.code.drop (k + 1), b.term⟩
def cut (f : Fn) (i k : Nat) : Fn := ⟨f.sig, f.types, f.blocks.set i (cutB (f.blocks.getD i default) k)⟩
end Ss
namespace Go.Vw
open Go.Proofs Go.RowKit
set_option maxRecDepth 10000
set_option maxHeartbeats 2000000

/-- One of the blocks of a copy. -/
theorem blk_split {T : Store} {bs : List Ss.Block} {cells : List V} {ids : List Nat} {n i : Nat} (h : OwL T (reps n blkT) cells (flatC encBlock bs) ids) (hn : bs.length = n) (hi : i < n) {b : Ss.Block} (hb : bs[i]? = some b) :
    ∃ (c1 c2 : List V) (oc : Nat) (i1 i2 : List Nat), cells = c1 ++ ([vl vint b.params, .slice oc 0 b.code.length, vint b.term.kind, vint b.term.arg, vl encEdge b.term.to, vl vint b.term.args] ++ c2) ∧ c1.length = i * 6 ∧ ids = i1 ++ oc :: i2 ∧ T.get oc = some (4, flatC encIns b.code) ∧
      OwL T (reps i blkT) c1 (flatC encBlock (bs.take i)) i1 ∧ OwL T (reps (n - i - 1) blkT) c2 (flatC encBlock (bs.drop (i + 1))) i2 := by
  have e1 : reps n blkT = reps i blkT ++ (blkT ++ reps (n - i - 1) blkT) := by
    rw [← reps_succ, ← reps_add]; congr 1; omega
  have e2 : flatC encBlock bs = flatC encBlock (bs.take i) ++ ((encBlock b).cells ++ flatC encBlock (bs.drop (i + 1))) := by
    have hlt : i < bs.length := by omega
    have : bs = bs.take i ++ b :: bs.drop (i + 1) := by
      have hbi : bs[i] = b := by rw [List.getElem?_eq_getElem hlt] at hb; exact Option.some.inj hb
      rw [← hbi, List.getElem_cons_drop, List.take_append_drop]
    conv => lhs; rw [this]
    simp [flatC]
  rw [e1, e2] at h
  obtain ⟨r1, r2, x1, x2, i1, i2, rfl, hx, rfl, k1, k2⟩ := h.split
  have hl1 : (flatC encBlock (bs.take i)).length = x1.length := by
    rw [flatC_len (s := 6) (fun _ => by rw [encBlock_cells]; rfl), k1.len.2, reps_len, List.length_take]
    show min i bs.length * 6 = i * 6
    rw [Nat.min_eq_left (by omega)]
  obtain ⟨rfl, rfl⟩ := List.append_inj hx hl1
  obtain ⟨r3, r4, x3, x4, i3, i4, rfl, hx2, rfl, k3, k4⟩ := k2.split
  have hl2 : (encBlock b).cells.length = x3.length := by rw [encBlock_cells, k3.len.2]; rfl
  obtain ⟨rfl, rfl⟩ := List.append_inj hx2 hl2
  rw [encBlock_cells] at k3
  cases k3 with
  | c hp k3 =>
    generalize hL : vl encIns b.code = L at k3
    cases k3 with
    | @s _ _ _ _ cells' ys ii jj oc ho hs d t =>
    have hy : ys = b.code.map encIns := by
      have : V.list (b.code.map encIns) = V.list ys := hL
      exact (V.list.inj this).symm
    subst hy
    cases t with
    | c _ t => cases t with
      | c _ t => cases t with
        | c _ t => cases t with
          | c _ t => cases t with
            | nil =>
              have hd : cells' = flatC encIns b.code ∧ ii = [] := by
                rw [List.length_map, flatC_map, reps_c] at d
                exact own_closed d
              obtain ⟨rfl, rfl⟩ := hd
              refine ⟨r1, r4, oc, i1, i4, ?_, ?_, ?_, ?_, k1, k4⟩
              · simp
              · rw [k1.len.1, reps_len]; rfl
              · simp
              · rw [ho]; rfl
theorem opAppend_cut {S : Store} {oc j : Nat} {code : List Ss.Ins} (ho : S.get oc = some (4, flatC encIns code)) (hj : j < code.length) (hl : code.length ≤ 4096) :
    opAppend 4 64 S (.slice oc 0 j) (.slice oc ((j + 1) * 4) (code.length - (j + 1))) = some (.slice S.nx 0 (j + (code.length - (j + 1))), (S.del oc).add (4, flatC encIns (code.take j ++ code.drop (j + 1)))) := by
  have hfl : ∀ l : List Ss.Ins, (flatC encIns l).length = l.length * 4 := fun l => flatC_len (fun _ => by rw [encIns_cells]; rfl) l
  have hA : ∀ n, n ≤ code.length → (flatC encIns code).take (n * 4) = flatC encIns (code.take n) ∧ (flatC encIns code).drop (n * 4) = flatC encIns (code.drop n) := by
    intro n hn
    have e : flatC encIns code = flatC encIns (code.take n) ++ flatC encIns (code.drop n) := by
      rw [flatC, flatC, flatC, ← List.flatMap_append, List.take_append_drop]
    have hln : (flatC encIns (code.take n)).length = n * 4 := by rw [hfl, List.length_take, Nat.min_eq_left hn]
    constructor
    · rw [e, ← hln, List.take_left']; rfl
    · rw [e, ← hln, List.drop_left']; rfl
  have e1 : srcCells 4 S (.slice oc ((j + 1) * 4) (code.length - (j + 1))) = some (flatC encIns (code.drop (j + 1)), code.length - (j + 1)) := by
    have hlt : (flatC encIns (code.drop (j + 1))).length = (code.length - (j + 1)) * 4 := by rw [hfl, List.length_drop]
    simp only [srcCells, ho, hfl]
    rw [if_pos (by omega), (hA (j + 1) (by omega)).2, ← hlt, List.take_length]
  simp only [opAppend, e1, ho, hfl]
  rw [if_pos ⟨trivial, by omega, by omega, by omega⟩, List.drop_zero, (hA j (by omega)).1]
  rw [flatC, flatC, flatC, List.flatMap_append]
theorem opSlice_own3 {S : Store} {o off len h s : Nat} {c : Nat × List V} {k : IntKind} (ho : S.get o = some c) (hs : c.1 = s) (hl : h ≤ len) : opSlice s S (.slice o off len) none (some (.int k (h : Int))) (some (.int k (h : Int))) = some (.slice o off h) := by
  simp [opSlice, boundOf, ho, hs, hl]
theorem blk_join {T : Store} {bs : List Ss.Block} {c1 c2 : List V} {i1 i2 : List Nat} {n i oc : Nat} {b : Ss.Block} (h1 : OwL T (reps i blkT) c1 (flatC encBlock (bs.take i)) i1) (h2 : OwL T (reps (n - i - 1) blkT) c2 (flatC encBlock (bs.drop (i + 1))) i2) (hn : bs.length = n) (hi : i < n) (ho : T.get oc = some (4, flatC encIns b.code)) :
    OwL T (reps n blkT) (c1 ++ ([vl vint b.params, .slice oc 0 b.code.length, vint b.term.kind, vint b.term.arg, vl encEdge b.term.to, vl vint b.term.args] ++ c2)) (flatC encBlock (bs.set i b)) (i1 ++ oc :: i2) := by
  have e1 : reps n blkT = reps i blkT ++ (blkT ++ reps (n - i - 1) blkT) := by
    rw [← reps_succ, ← reps_add]; congr 1; omega
  have e2 : flatC encBlock (bs.set i b) = flatC encBlock (bs.take i) ++ ((encBlock b).cells ++ flatC encBlock (bs.drop (i + 1))) := by
    rw [List.set_eq_take_append_cons_drop, if_pos (by omega)]
    simp [flatC]
  rw [e1, e2, encBlock_cells]
  refine h1.append (OwL.append (i := [oc]) ?_ h2)
  exact .c rfl (OwL.slice (fun _ => by rw [encIns_cells]; rfl) encIns_closed b.code ho (.c rfl (.c rfl (.c rfl (.c rfl .nil)))))
theorem fn_ghost {S : Store} {fi fo ts : List Int} {bs : List Ss.Block} {cells : List V} {ob n : Nat} {ids : List Nat} (h : OwL S (reps n blkT) cells (flatC encBlock bs) ids) (hb : S.get ob = some (6, cells)) (hn : bs.length = n) (hd : (ob :: ids).Nodup) :
    Ghost (.agg [vl vint fi, vl vint fo, vl vint ts, .slice ob 0 n]) S (.agg [vl vint fi, vl vint fo, vl vint ts, vl encBlock bs]) (S.dels (ob :: ids)) := by
  subst hn
  refine ghost_agg ?_
  have hw : OwL S fnT [vl vint fi, vl vint fo, vl vint ts, .slice ob 0 bs.length] [vl vint fi, vl vint fo, vl vint ts, vl encBlock bs] (ob :: ids) := by
    refine .c rfl (.c rfl (.c rfl ?_))
    have := OwL.s (S := S) (o := ob) (tys := blkT) (cells := cells) (ys := bs.map encBlock) (i := ids) (j := []) hb (fun y hy => (by
      obtain ⟨b, _, rfl⟩ := List.mem_map.1 hy
      exact ⟨by rw [encBlock_cells]; rfl, encBlock_closed b⟩)) (by rw [List.length_map, flatC_map]; exact h) .nil
    rw [List.length_map, List.append_nil] at this
    exact this
  exact hw.freeze hd S fun _ _ => rfl
end Go.Vw

namespace Ss
def mark1 (o : List Bool) (v : Int) : List Bool := if 0 ≤ v ∧ v < o.length then o.set v.toNat true else o
def mark (o : List Bool) (l : List Int) : List Bool := l.foldl mark1 o
def usedB (o : List Bool) (b : Block) : List Bool :=
  b.term.to.foldl (fun o t => mark o t.args) (if branches b.term then mark (mark (b.code.foldl (fun o x => mark o x.args) o) b.term.args) [b.term.arg] else mark (b.code.foldl (fun o x => mark o x.args) o) b.term.args)
def usedOf (f : Fn) : List Bool := f.blocks.foldl usedB (List.replicate f.types.length false)
theorem mark1_len (o : List Bool) (v : Int) : (mark1 o v).length = o.length := by unfold mark1; split <;> simp
theorem mark_len : ∀ (l : List Int) (o : List Bool), (mark o l).length = o.length
  | [], o => rfl
  | v :: l, o => by simp only [mark, List.foldl_cons] at *; exact (mark_len l (mark1 o v)).trans (mark1_len o v)
theorem foldl_one {α β : Type} (p : β → α → β) {l : List α} {k : Nat} (h : k < l.length) (d : β) : (l.drop k).foldl p d = (l.drop (k + 1)).foldl p (p d l[k]) := by
  rw [List.drop_eq_getElem_cons h, List.foldl_cons]
theorem foldl_end {α β : Type} (p : β → α → β) {l : List α} {k : Nat} (h : ¬ k < l.length) (d : β) : (l.drop k).foldl p d = d := by
  rw [show l.drop k = [] by rw [List.drop_eq_nil_iff]; omega]; rfl
end Ss
namespace Go.Vw
open Go.Proofs Go.RowKit
set_option maxRecDepth 10000
set_option maxHeartbeats 4000000

theorem Count_v (f : Ss.Fn) (hf : f.Fits) : VPure Try.prog 26 [encFn f] (vnat (if f.small then Ss.count f.blocks else 0)) := by
  intro S
  have cs := small_v f hf
  have hsb := @small_blocks f
  generalize f.small = sm at *
  obtain ⟨⟨fi, fo⟩, ts, bs⟩ := f
  have cs' : VPure Try.prog 16 [.agg [vl vint fi, vl vint fo, vl vint ts, vl encBlock bs]] (.bool sm) := cs
  by_cases hs : sm = true
  case neg =>
    rw [if_neg hs]
    have hs' : sm = false := by simpa using hs
    refine vcalls_start (c := bodyOf Try.f26) Try.func26 rfl rfl (by simp [Try.ntmps26]) ?_
    rw [Try.ntmps26]
    intro hwf
    repeat (first|refine QG ?_|refine QX (r:=by conv=>lhs;simp[-List.map_set,QV]) (k:=?_))
    repeat refine QS ?_
    refine QR (r:=by conv=>lhs;simp[-List.map_set,QV]) (k:=?_)
    refine vcall_useH (cs') (by rfl) ?_
    refine QM (by conv=>lhs;simp[-List.map_set,QV,hs']) ?_
    refine QN ?_
    repeat (first|refine QG ?_|refine QX (r:=by conv=>lhs;simp[-List.map_set,QV]) (k:=?_))
    exact done_pure hwf (by simp) rfl
  rw [if_pos hs]
  obtain ⟨_, hbl, hbf, hct⟩ := hsb hs
  simp only at hbl hbf hct ⊢
  refine vcalls_start (c := bodyOf Try.f26) Try.func26 rfl rfl (by simp [Try.ntmps26]) ?_
  rw [Try.ntmps26]
  intro hwf
  repeat (first|refine QG ?_|refine QX (r:=by conv=>lhs;simp[-List.map_set,QV]) (k:=?_))
  repeat refine QS ?_
  refine QR (r:=by conv=>lhs;simp[-List.map_set,QV]) (k:=?_)
  refine vcall_useH (cs') (by rfl) ?_
  refine QM (by conv=>lhs;simp[-List.map_set,QV,hs]) ?_
  refine QN ?_
  repeat (first|refine QG ?_|refine QX (r:=by conv=>lhs;simp[-List.map_set,QV]) (k:=?_))
  repeat refine QS ?_
  refine vw_loopAt [3, 10, 11, 12] rfl (fun c σ S' => ∃ (k n : Nat), k ≤ bs.length ∧ c = bs.length - k ∧ n + Ss.count (bs.drop k) = Ss.count bs ∧ σ = [(3, vnat n), (10, vl encBlock bs), (11, vnat bs.length), (12, vnat k)] ∧ S' = St S [] [some (4, [vl vint fi, vl vint fo, vl vint ts, vl encBlock bs])]) bs.length ?_ ?_
  · exact ⟨0, 0, by omega, rfl, by simp, by simp [Fr.only], rfl⟩
  · rintro c σ T ⟨k, n, hk, rfl, hn, rfl, rfl⟩
    by_cases hkt : k < bs.length
    · have hw := wrapNat hkt (by omega)
      rw [List.drop_eq_getElem_cons hkt, Ss.count, List.map_cons, List.sum_cons] at hn
      obtain ⟨⟨ps, code, ⟨tk, ta, to, az⟩⟩, hx⟩ : ∃ b, bs[k] = b := ⟨_, rfl⟩
      rw [hx] at hn
      simp only at hn
      have hwn : IntKind.i64.wrap ((n : Int) + (code.length : Int)) = (n : Int) + (code.length : Int) := wrap_i64 (by omega) (by omega)
      repeat (first|refine QG ?_|refine QX (r:=by conv=>lhs;simp[-List.map_set,QV,hkt,hx,hwn]) (k:=?_))
      refine QA [0] (h:=⟨?_, k + 1, n + code.length, hkt, rfl, by rw [← hn]; simp only [Ss.count]; omega, by simp [hw], rfl⟩)
      omega
    · have e1 : bs.drop k = [] := by rw [List.drop_eq_nil_iff]; omega
      rw [e1] at hn
      have hn' : Ss.count bs = n := by rw [← hn]; simp [Ss.count]
      repeat (first|refine QG ?_|refine QX (r:=by conv=>lhs;simp[-List.map_set,QV,hkt]) (k:=?_))
      exact done_pure hwf (by simp [hn']) rfl

theorem used1_v (S : Store) (po os : Nat) (o : List Bool) (l : List Int) (hl : l.length < 2^63) (hn : o.length < 2^62) (hp : S.get po = some (1, [.slice os 0 o.length])) (ho : S.get os = some (1, o.map V.bool)) (h1 : po ≠ os) :
    VCalls Try.prog 49 ([vl vint l] ++ [.ptr po 0]) S (fun r T => r = .tuple [] ∧ T = S.upd os (1, (Ss.mark o l).map V.bool)) := by
  refine vcalls_start (c := bodyOf Try.f49) Try.func49 rfl rfl (by simp [Try.ntmps49]) ?_
  rw [Try.ntmps49]
  intro hwf
  have hpn := old_lt hwf hp
  have hon := old_lt hwf ho
  have op := fun u l => @St_old S u l po hpn
  have oo := fun u l => @St_old S u l os hon
  have hupd := fun u l c => @St_updOld S u l c os hon
  rw [St_touch ho]
  repeat (first|refine QG ?_|refine QX (r:=by conv=>lhs;simp[-List.map_set,QV]) (k:=?_))
  repeat refine QS ?_
  refine vw_loopAt [1, 5, 6, 7] rfl (fun c σ S' => ∃ (k : Nat) (d : List Bool), k ≤ l.length ∧ c = l.length - k ∧ d.length = o.length ∧ (l.drop k).foldl Ss.mark1 d = Ss.mark o l ∧ σ = [(1, .ptr po 0), (5, vl vint l), (6, vnat l.length), (7, vnat k)] ∧ S' = St S [(os, some (1, d.map V.bool))] []) l.length ?_ ?_
  · exact ⟨0, o, by omega, rfl, rfl, rfl, by simp [Fr.only], rfl⟩
  · rintro c σ T ⟨k, d, hk, rfl, hdl, hf, rfl, rfl⟩
    by_cases hkt : k < l.length
    · have hw := wrapNat hkt hl
      rw [Ss.foldl_one _ hkt] at hf
      obtain ⟨v, hx⟩ : ∃ v, l[k] = v := ⟨_, rfl⟩
      rw [hx] at hf
      by_cases q1 : 0 ≤ v
      · obtain ⟨n, rfl⟩ : ∃ n : Nat, v = n := ⟨v.toNat, by omega⟩
        by_cases q2 : n < o.length
        · have q2' : (n : Int) < (o.length : Int) := by omega
          have q3 : n < d.length := by omega
          have e : Ss.mark1 d n = d.set n true := by simp [Ss.mark1, q3]
          rw [e] at hf
          repeat (first|refine QG ?_|refine QX (r:=by conv=>lhs;simp[-List.map_set,QV,hkt,hx,q1,q2,q2',q3,op,oo,hp,h1,hupd]) (k:=?_))
          show Again _ _ _ _ _ _ _
          exact again ⟨Nat.sub_lt_sub_left hkt (Nat.lt_succ_self k), k + 1, d.set n true, hkt, rfl, by simp [hdl], hf, by simp [Fr.only, hw], by simp [List.map_set]⟩
        · have q2' : ¬ (n : Int) < (o.length : Int) := by omega
          have q3 : ¬ n < d.length := by omega
          have e : Ss.mark1 d n = d := by simp [Ss.mark1, q3]
          rw [e] at hf
          repeat (first|refine QG ?_|refine QX (r:=by conv=>lhs;simp[-List.map_set,QV,hkt,hx,q1,q2,q2',q3,op,oo,hp,h1]) (k:=?_))
          show Again _ _ _ _ _ _ _
          exact again ⟨Nat.sub_lt_sub_left hkt (Nat.lt_succ_self k), k + 1, d, hkt, rfl, hdl, hf, by simp [Fr.only, hw], rfl⟩
      · have e : Ss.mark1 d v = d := by simp [Ss.mark1, q1]
        rw [e] at hf
        repeat (first|refine QG ?_|refine QX (r:=by conv=>lhs;simp[-List.map_set,QV,hkt,hx,q1]) (k:=?_))
        show Again _ _ _ _ _ _ _
        exact again ⟨Nat.sub_lt_sub_left hkt (Nat.lt_succ_self k), k + 1, d, hkt, rfl, hdl, hf, by simp [Fr.only, hw], rfl⟩
    · rw [Ss.foldl_end _ hkt] at hf
      repeat (first|refine QG ?_|refine QX (r:=by conv=>lhs;simp[-List.map_set,QV,hkt]) (k:=?_))
      refine done_turned (X := .tuple []) (S' := S.upd os (1, d.map V.bool)) hwf (by simp) rfl (by simp [gcOkU, gcOkE, idsL_bool]) ?_ ⟨rfl, by rw [hf]⟩
      simp only [gcU, gcE, Option.map_some, renL_bool]
      exact St_upd1 hwf hon
theorem vcallv_anyG {P : Program} {σ : Fr} {S S' : Store} {K : Fr → Store → Prop} {d : Option Nat} {g : FuncId} {caps : List V} {fz : Arg} {args : List Arg} {xs xs' : List V} {r : List CO} {R : V → Store → Prop} (hf : ev σ fz = .func g caps) (hc : callable P g = true) (ha : args.map (ev σ) ++ caps = xs) (hg : GhostArgs xs S xs' S') (h : VCalls P g xs' S' R) (H : ∀ X T, R X T → vsegG P none r K (σ.put d X) T) : vsegG P none (⟨d, none, .callv fz args⟩ :: r) K σ S :=
  vcallv_any hf hc ha (vcalls_ghostArgs hg h) H

theorem Used_v (f : Ss.Fn) (hf : f.Fits) : VPure Try.prog 24 [encFn f] (vl V.bool (if f.small then Ss.usedOf f else [])) := by
  intro S
  have cs := small_v f hf
  have hsb := @small_blocks f
  have hsmi := Ss.small_iff f
  unfold Ss.usedOf
  generalize f.small = sm at *
  obtain ⟨⟨fi, fo⟩, ts, bs⟩ := f
  have cs' : VPure Try.prog 16 [.agg [vl vint fi, vl vint fo, vl vint ts, vl encBlock bs]] (.bool sm) := cs
  by_cases hs : sm = true
  case neg =>
    rw [if_neg hs]
    have hs' : sm = false := by simpa using hs
    refine vcalls_start (c := bodyOf Try.f24) Try.func24 rfl rfl (by simp [Try.ntmps24]) ?_
    rw [Try.ntmps24]
    intro hwf
    repeat (first|refine QG ?_|refine QX (r:=by conv=>lhs;simp[-List.map_set,QV]) (k:=?_))
    repeat refine QS ?_
    refine QR (r:=by conv=>lhs;simp[-List.map_set,QV]) (k:=?_)
    refine vcall_useH (cs') (by rfl) ?_
    refine QM (by conv=>lhs;simp[-List.map_set,QV,hs']) ?_
    refine QN ?_
    repeat (first|refine QG ?_|refine QX (r:=by conv=>lhs;simp[-List.map_set,QV]) (k:=?_))
    exact done_via (l := [_]) hwf (Ghost.toB (Ghost.nils_list _) _) rfl
  rw [if_pos hs]
  obtain ⟨htl, hbl, hbf, _⟩ := hsb hs
  have hsm2 := (hsmi.1 hs).2.1
  simp only at htl hbl hbf hsm2 ⊢
  generalize hX : bs.foldl Ss.usedB (List.replicate ts.length false) = X
  have hb1 : ts.length * 1 ≤ 140737488355328 := by omega
  have hb0 : ts.length ≤ 140737488355328 := by omega
  refine vcalls_start (c := bodyOf Try.f24) Try.func24 rfl rfl (by simp [Try.ntmps24]) ?_
  rw [Try.ntmps24]
  intro hwf
  repeat (first|refine QG ?_|refine QX (r:=by conv=>lhs;simp[-List.map_set,QV]) (k:=?_))
  repeat refine QS ?_
  refine QR (r:=by conv=>lhs;simp[-List.map_set,QV]) (k:=?_)
  refine vcall_useH (cs') (by rfl) ?_
  refine QM (by conv=>lhs;simp[-List.map_set,QV,hs]) ?_
  refine QN ?_
  repeat (first|refine QG ?_|refine QX (r:=by conv=>lhs;simp[-List.map_set,QV,hb1,hb0]) (k:=?_))
  refine vw_only' [3, 4, 20, 21, 22] (by conv => lhs; simp [Fr.only, Fr.look]) ?_
  refine vw_gc [1, 2] hwf (by decide) (by simp [-List.map_set]; rw [idsL_eq]; simp [V.ids]) (by conv => lhs; simp [-List.map_set]) (by conv => lhs; simp [-List.map_set]) (by conv => lhs; simp [-List.map_set]) ?_
  repeat refine QS ?_
  refine vw_loopAt [3, 4, 20, 21, 22] rfl (fun c σ S' => ∃ (k : Nat) (d : List Bool), k ≤ bs.length ∧ c = bs.length - k ∧ d.length = ts.length ∧ (bs.drop k).foldl Ss.usedB d = X ∧ σ = [(3, .ptr (lid S.nx 1) 0), (4, .func 49 [.ptr (lid S.nx 1) 0]), (20, vl encBlock bs), (21, vnat bs.length), (22, vnat k)] ∧ S' = St S [] [some (1, d.map V.bool), some (1, [.slice (lid S.nx 0) 0 ts.length])]) bs.length ?_ ?_
  · exact ⟨0, List.replicate ts.length false, by omega, rfl, by simp, hX, by simp [Fr.only], by rw [renL_eq]; simp [V.ren]⟩
  · rintro c σ T ⟨k, d, hk, rfl, hdl, hfo, rfl, rfl⟩
    by_cases hkt : k < bs.length
    · have hw := wrapNat hkt (by omega)
      rw [Ss.foldl_one _ hkt] at hfo
      have hmem := List.getElem_mem hkt
      obtain ⟨_, htol, hazl, hcl⟩ := hbf _ hmem
      have hsmk := hsm2 _ hmem
      obtain ⟨⟨ps, code, ⟨tk, ta, to, az⟩⟩, hx⟩ : ∃ b, bs[k] = b := ⟨_, rfl⟩
      rw [hx] at hfo htol hazl hcl hsmk
      simp only at htol hazl hcl
      simp only [Ss.Block.small, Bool.and_eq_true, List.all_eq_true, Ss.Ins.small, Ss.Edge.small, decide_eq_true_eq] at hsmk
      obtain ⟨⟨_, hsc⟩, hse⟩ := hsmk
      have cb : VPure Try.prog 43 [.agg [.int .i64 tk, .int .i64 ta, vl encEdge to, vl vint az]] (.bool (Ss.branches ⟨tk, ta, to, az⟩)) := branches_v ⟨tk, ta, to, az⟩
      simp only [Ss.usedB] at hfo
      generalize Ss.branches ⟨tk, ta, to, az⟩ = br at *
      generalize hD1 : code.foldl (fun o x => Ss.mark o x.args) d = D1 at *
      repeat (first|refine QG ?_|refine QX (r:=by conv=>lhs;simp[-List.map_set,QV,hkt,hx]) (k:=?_))
      repeat refine QS ?_
      refine vw_loopAt [3, 4, 6, 20, 21, 22, 27, 28, 29] rfl (fun c σ S' => ∃ (j : Nat) (d : List Bool), j ≤ code.length ∧ c = code.length - j ∧ d.length = ts.length ∧ (code.drop j).foldl (fun o x => Ss.mark o x.args) d = D1 ∧ σ = [(3, .ptr (lid S.nx 1) 0), (4, .func 49 [.ptr (lid S.nx 1) 0]), (6, .ptr (lid S.nx 2) 0), (20, vl encBlock bs), (21, vnat bs.length), (22, vnat k), (27, vl encIns code), (28, vnat code.length), (29, vnat j)] ∧ S' = St S [] [some (1, d.map V.bool), some (1, [.slice (lid S.nx 0) 0 ts.length]), some (6, [vl vint ps, vl encIns code, .int .i64 tk, .int .i64 ta, vl encEdge to, vl vint az])]) code.length ?_ ?_
      · exact ⟨0, d, by omega, rfl, hdl, hD1, by simp [Fr.only], rfl⟩
      · rintro c σ T ⟨j, d2, hj, rfl, hdl2, hfo2, rfl, rfl⟩
        by_cases hjt : j < code.length
        · have hwj := wrapNat hjt (by omega)
          rw [Ss.foldl_one _ hjt] at hfo2
          have hxl := hsc _ (List.getElem_mem hjt)
          obtain ⟨⟨xo, xn, xa, xu⟩, hx2⟩ : ∃ x, code[j] = x := ⟨_, rfl⟩
          rw [hx2] at hfo2 hxl
          simp only at hfo2 hxl
          repeat (first|refine QG ?_|refine QX (r:=by conv=>lhs;simp[-List.map_set,QV,hjt,hx2]) (k:=?_))
          repeat refine QS ?_
          refine QR (r:=by conv=>lhs;simp[-List.map_set,QV,hjt,hx2]) (k:=?_)
          refine vcallv_any rfl rfl rfl (used1_v _ (lid S.nx 1) (lid S.nx 0) d2 xa (by omega) (by omega) (by simp [*]) (by simp) (by simp [lid])) ?_
          rintro Y S2 ⟨rfl, rfl⟩
          rw [St_upd (by simp)]
          simp only [List.set_cons_succ, List.set_cons_zero]
          have hml := Ss.mark_len xa d2
          generalize Ss.mark d2 xa = d3 at *
          refine QM (by conv=>lhs;simp[-List.map_set,QV]) ?_
          refine QN ?_
          repeat (first|refine QG ?_|refine QX (r:=by conv=>lhs;simp[-List.map_set,QV]) (k:=?_))
          refine QA [0, 1, 2] (h:=⟨?_, j + 1, d3, hjt, rfl, by omega, hfo2, by simp [hwj], rfl⟩)
          omega
        · rw [Ss.foldl_end _ hjt] at hfo2
          subst hfo2
          repeat (first|refine QG ?_|refine QX (r:=by conv=>lhs;simp[-List.map_set,QV,hjt]) (k:=?_))
          repeat refine QS ?_
          refine QR (r:=by conv=>lhs;simp[-List.map_set,QV]) (k:=?_)
          refine vcallv_any rfl rfl rfl (used1_v _ (lid S.nx 1) (lid S.nx 0) d2 az (by omega) (by omega) (by simp [*]) (by simp) (by simp [lid])) ?_
          rintro Y S2 ⟨rfl, rfl⟩
          rw [St_upd (by simp)]
          simp only [List.set_cons_succ, List.set_cons_zero]
          have hml := Ss.mark_len az d2
          generalize Ss.mark d2 az = d3 at *
          refine QM (by conv=>lhs;simp[-List.map_set,QV]) ?_
          refine QN ?_
          refine vw_seqAt rfl ?_
          generalize hD4 : (if br = true then Ss.mark d3 [ta] else d3) = D4 at *
          refine vw_joinR (fun σ S' => D4.length = ts.length ∧ σ = [(3, .ptr (lid S.nx 1) 0), (4, .func 49 [.ptr (lid S.nx 1) 0]), (6, .ptr (lid S.nx 2) 0), (20, vl encBlock bs), (21, vnat bs.length), (22, vnat k)] ∧ S' = St S [] [some (1, D4.map V.bool), some (1, [.slice (lid S.nx 0) 0 ts.length]), some (6, [vl vint ps, vl encIns code, .int .i64 tk, .int .i64 ta, vl encEdge to, vl vint az])]) [3, 4, 6, 20, 21, 22] ?_ ?_
          · repeat refine QS ?_
            refine QR (r:=by conv=>lhs;simp[-List.map_set,QV]) (k:=?_)
            refine vcall_useH (cb) (by rfl) ?_
            by_cases hbr : br = true
            · rw [if_pos hbr] at hD4
              refine QM (by conv=>lhs;simp[-List.map_set,QV,hbr]) ?_
              refine QN ?_
              repeat (first|refine QG ?_|refine QX (r:=by conv=>lhs;simp[-List.map_set,QV]) (k:=?_))
              repeat refine QS ?_
              refine QR (r:=by conv=>lhs;simp[-List.map_set,QV]) (k:=?_)
              refine vcallv_anyG (xs' := [vl vint [ta], .ptr (lid S.nx 1) 0]) rfl rfl rfl (GhostArgs.one [] [_] (frz1 (k := 3) (len := 1) (by simp) (by rfl) (by rfl) (by rfl))) (used1_v _ (lid S.nx 1) (lid S.nx 0) d3 [ta] (by simp) (by omega) (by simp [*]) (by simp) (by simp [lid])) ?_
              rintro Y S2 ⟨rfl, rfl⟩
              simp only [List.set_cons_succ, List.set_cons_zero]
              rw [St_upd (by simp)]
              simp only [List.set_cons_succ, List.set_cons_zero]
              have hml2 := Ss.mark_len [ta] d3
              rw [hD4] at hml2 ⊢
              refine QM (by conv=>lhs;simp[-List.map_set,QV]) ?_
              refine QN ?_
              repeat (first|refine QG ?_|refine QX (r:=by conv=>lhs;simp[-List.map_set,QV]) (k:=?_))
              refine mid_gc [3, 4, 6, 20, 21, 22] [0, 1, 2] (by conv => lhs; simp [Fr.only]) hwf (by decide) (by simp [-List.map_set]) (by conv => lhs; simp [-List.map_set]) (by conv => lhs; simp [-List.map_set]) (by conv => lhs; simp [-List.map_set]) (⟨by omega, by simp, by simp⟩)
            · rw [if_neg hbr] at hD4
              have hbr' : br = false := by simpa using hbr
              refine QM (by conv=>lhs;simp[-List.map_set,QV,hbr']) ?_
              refine QN ?_
              repeat (first|refine QG ?_|refine QX (r:=by conv=>lhs;simp[-List.map_set,QV]) (k:=?_))
              subst hD4
              refine mid_gc [3, 4, 6, 20, 21, 22] [0, 1, 2] (by conv => lhs; simp [Fr.only]) hwf (by decide) (by simp [-List.map_set]) (by conv => lhs; simp [-List.map_set]) (by conv => lhs; simp [-List.map_set]) (by conv => lhs; simp [-List.map_set]) (⟨by omega, by simp, by simp⟩)
          rintro σ S' ⟨hD4l, rfl, rfl⟩
          generalize hD5 : to.foldl (fun o t => Ss.mark o t.args) D4 = D5 at *
          repeat (first|refine QG ?_|refine QX (r:=by conv=>lhs;simp[-List.map_set,QV]) (k:=?_))
          repeat refine QS ?_
          refine vw_loopAt [3, 4, 20, 21, 22, 54, 55, 56] rfl (fun c σ S' => ∃ (j : Nat) (d : List Bool), j ≤ to.length ∧ c = to.length - j ∧ d.length = ts.length ∧ (to.drop j).foldl (fun o t => Ss.mark o t.args) d = D5 ∧ σ = [(3, .ptr (lid S.nx 1) 0), (4, .func 49 [.ptr (lid S.nx 1) 0]), (20, vl encBlock bs), (21, vnat bs.length), (22, vnat k), (54, vl encEdge to), (55, vnat to.length), (56, vnat j)] ∧ S' = St S [] [some (1, d.map V.bool), some (1, [.slice (lid S.nx 0) 0 ts.length]), some (6, [vl vint ps, vl encIns code, .int .i64 tk, .int .i64 ta, vl encEdge to, vl vint az])]) to.length ?_ ?_
          · exact ⟨0, D4, by omega, rfl, hD4l, hD5, by simp [Fr.only], rfl⟩
          · rintro c σ T ⟨j, d6, hj, rfl, hdl6, hfo6, rfl, rfl⟩
            by_cases hjt : j < to.length
            · have hwj := wrapNat hjt (by omega)
              rw [Ss.foldl_one _ hjt] at hfo6
              have hxl := hse _ (List.getElem_mem hjt)
              obtain ⟨⟨xt, xa⟩, hx2⟩ : ∃ x, to[j] = x := ⟨_, rfl⟩
              rw [hx2] at hfo6 hxl
              simp only at hfo6 hxl
              repeat (first|refine QG ?_|refine QX (r:=by conv=>lhs;simp[-List.map_set,QV,hjt,hx2]) (k:=?_))
              repeat refine QS ?_
              refine QR (r:=by conv=>lhs;simp[-List.map_set,QV,hjt,hx2]) (k:=?_)
              refine vcallv_any rfl rfl rfl (used1_v _ (lid S.nx 1) (lid S.nx 0) d6 xa (by omega) (by omega) (by simp [*]) (by simp) (by simp [lid])) ?_
              rintro Y S2 ⟨rfl, rfl⟩
              rw [St_upd (by simp)]
              simp only [List.set_cons_succ, List.set_cons_zero]
              have hml7 := Ss.mark_len xa d6
              generalize Ss.mark d6 xa = d7 at *
              refine QM (by conv=>lhs;simp[-List.map_set,QV]) ?_
              refine QN ?_
              repeat (first|refine QG ?_|refine QX (r:=by conv=>lhs;simp[-List.map_set,QV]) (k:=?_))
              refine QA [0, 1, 2] (h:=⟨?_, j + 1, d7, hjt, rfl, by omega, hfo6, by simp [hwj], by simp⟩)
              omega
            · rw [Ss.foldl_end _ hjt] at hfo6
              subst hfo6
              repeat (first|refine QG ?_|refine QX (r:=by conv=>lhs;simp[-List.map_set,QV,hjt]) (k:=?_))
              refine QA [0, 1] (h:=⟨?_, k + 1, d6, hkt, rfl, by omega, hfo, by simp [hw], rfl⟩)
              omega
    · rw [Ss.foldl_end _ hkt] at hfo
      subst hfo
      repeat (first|refine QG ?_|refine QX (r:=by conv=>lhs;simp[-List.map_set,QV,hkt]) (k:=?_))
      exact done_via hwf ((frz1 (k := 0) (by simp) (by rfl) (all_closed1 V.bool (fun _ => rfl) _) (by simpa using hdl)).toB _) rfl
end Go.Vw
