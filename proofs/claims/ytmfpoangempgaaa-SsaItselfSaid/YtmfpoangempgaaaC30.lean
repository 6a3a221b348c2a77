import Derived.Test.YtmfpoangempgaaaC27
import Derived.Test.YtmfpoangempgaaaC17
import Derived.Test.YtmfpoangempgaaaC26
import Derived.Test.YtmfpoangempgaaaC14
import Derived.Test.YtmfpoangempgaaaC18
/-
  Part of the proof (texts SUsed, SRUsed).
-/
set_option linter.unusedVariables false
set_option linter.unusedSimpArgs false
namespace Ss
def mark1 (o : List Bool) (v : Int) : List Bool := if 0 ≤ v ∧ v < o.length then o.set v.toNat true else o
def mark (o : List Bool) (l : List Int) : List Bool := l.foldl mark1 o
def usedB (o : List Bool) (b : Block) : List Bool :=
  b.term.to.foldl (fun o t => mark o t.args) (if branches b.term then mark (mark (b.code.foldl (fun o x => mark o x.args) o) b.term.args) [b.term.arg] else mark (b.code.foldl (fun o x => mark o x.args) o) b.term.args)
def usedOf (f : Fn) : List Bool := f.blocks.foldl usedB (List.replicate f.types.length false)
theorem mark1_len (o : List Bool) (v : Int) : (mark1 o v).length = o.length := by unfold mark1; split <;> simp
theorem mark_len : ∀ (l : List Int) (o : List Bool), (mark o l).length = o.length
  | [], o => rfl
  | v :: l, o => by simp only [mark, List.foldl_cons] at *; exact (mark_len l (mark1 o v)).trans (mark1_len o v)
theorem foldl_one {α β : Type} (p : β → α → β) {l : List α} {k : Nat} (h : k < l.length) (d : β) : (l.drop k).foldl p d = (l.drop (k + 1)).foldl p (p d l[k]) := by
  rw [List.drop_eq_getElem_cons h, List.foldl_cons]
theorem foldl_end {α β : Type} (p : β → α → β) {l : List α} {k : Nat} (h : ¬ k < l.length) (d : β) : (l.drop k).foldl p d = d := by
  rw [show l.drop k = [] by rw [List.drop_eq_nil_iff]; omega]; rfl
end Ss
namespace Go.Vw
open Go.Proofs Go.RowKit
set_option maxRecDepth 10000
set_option maxHeartbeats 4000000

theorem Count_v (f : Ss.Fn) (hf : f.Fits) : VPure Try.prog 26 [encFn f] (vnat (if f.small then Ss.count f.blocks else 0)) := by
  intro S
  have cs := small_v f hf
  have hsb := @small_blocks f
  generalize f.small = sm at *
  obtain ⟨⟨fi, fo⟩, ts, bs⟩ := f
  have cs' : VPure Try.prog 16 [.agg [vl vint fi, vl vint fo, vl vint ts, vl encBlock bs]] (.bool sm) := cs
  by_cases hs : sm = true
  case neg =>
    rw [if_neg hs]
    have hs' : sm = false := by simpa using hs
    refine vcalls_start (c := bodyOf Try.f26) Try.func26 rfl rfl (by simp [Try.ntmps26]) ?_
    rw [Try.ntmps26]
    intro hwf
    repeat (first|refine QG ?_|refine QX (r:=by conv=>lhs;simp[-List.map_set,QV]) (k:=?_))
    repeat refine QS ?_
    refine QR (r:=by conv=>lhs;simp[-List.map_set,QV]) (k:=?_)
    refine vcall_useH (cs') (by rfl) ?_
    refine QM (by conv=>lhs;simp[-List.map_set,QV,hs']) ?_
    refine QN ?_
    repeat (first|refine QG ?_|refine QX (r:=by conv=>lhs;simp[-List.map_set,QV]) (k:=?_))
    exact done_pure hwf (by simp) rfl
  rw [if_pos hs]
  obtain ⟨_, hbl, hbf, hct⟩ := hsb hs
  simp only at hbl hbf hct ⊢
  refine vcalls_start (c := bodyOf Try.f26) Try.func26 rfl rfl (by simp [Try.ntmps26]) ?_
  rw [Try.ntmps26]
  intro hwf
  repeat (first|refine QG ?_|refine QX (r:=by conv=>lhs;simp[-List.map_set,QV]) (k:=?_))
  repeat refine QS ?_
  refine QR (r:=by conv=>lhs;simp[-List.map_set,QV]) (k:=?_)
  refine vcall_useH (cs') (by rfl) ?_
  refine QM (by conv=>lhs;simp[-List.map_set,QV,hs]) ?_
  refine QN ?_
  repeat (first|refine QG ?_|refine QX (r:=by conv=>lhs;simp[-List.map_set,QV]) (k:=?_))
  repeat refine QS ?_
  refine vw_loopAt [3, 10, 11, 12] rfl (fun c σ S' => ∃ (k n : Nat), k ≤ bs.length ∧ c = bs.length - k ∧ n + Ss.count (bs.drop k) = Ss.count bs ∧ σ = [(3, vnat n), (10, vl encBlock bs), (11, vnat bs.length), (12, vnat k)] ∧ S' = St S [] [some (4, [vl vint fi, vl vint fo, vl vint ts, vl encBlock bs])]) bs.length ?_ ?_
  · exact ⟨0, 0, by omega, rfl, by simp, by simp [Fr.only], rfl⟩
  · rintro c σ T ⟨k, n, hk, rfl, hn, rfl, rfl⟩
    by_cases hkt : k < bs.length
    · have hw := wrapNat hkt (by omega)
      rw [List.drop_eq_getElem_cons hkt, Ss.count, List.map_cons, List.sum_cons] at hn
      obtain ⟨⟨ps, code, ⟨tk, ta, to, az⟩⟩, hx⟩ : ∃ b, bs[k] = b := ⟨_, rfl⟩
      rw [hx] at hn
      simp only at hn
      have hwn : IntKind.i64.wrap ((n : Int) + (code.length : Int)) = (n : Int) + (code.length : Int) := wrap_i64 (by omega) (by omega)
      repeat (first|refine QG ?_|refine QX (r:=by conv=>lhs;simp[-List.map_set,QV,hkt,hx,hwn]) (k:=?_))
      refine QA [0] (h:=⟨?_, k + 1, n + code.length, hkt, rfl, by rw [← hn]; simp only [Ss.count]; omega, by simp [hw], rfl⟩)
      omega
    · have e1 : bs.drop k = [] := by rw [List.drop_eq_nil_iff]; omega
      rw [e1] at hn
      have hn' : Ss.count bs = n := by rw [← hn]; simp [Ss.count]
      repeat (first|refine QG ?_|refine QX (r:=by conv=>lhs;simp[-List.map_set,QV,hkt]) (k:=?_))
      exact done_pure hwf (by simp [hn']) rfl

theorem used1_v (S : Store) (po os : Nat) (o : List Bool) (l : List Int) (hl : l.length < 2^63) (hn : o.length < 2^62) (hp : S.get po = some (1, [.slice os 0 o.length])) (ho : S.get os = some (1, o.map V.bool)) (h1 : po ≠ os) :
    VCalls Try.prog 49 ([vl vint l] ++ [.ptr po 0]) S (fun r T => r = .tuple [] ∧ T = S.upd os (1, (Ss.mark o l).map V.bool)) := by
  refine vcalls_start (c := bodyOf Try.f49) Try.func49 rfl rfl (by simp [Try.ntmps49]) ?_
  rw [Try.ntmps49]
  intro hwf
  have hpn := old_lt hwf hp
  have hon := old_lt hwf ho
  have op := fun u l => @St_old S u l po hpn
  have oo := fun u l => @St_old S u l os hon
  have hupd := fun u l c => @St_updOld S u l c os hon
  rw [St_touch ho]
  repeat (first|refine QG ?_|refine QX (r:=by conv=>lhs;simp[-List.map_set,QV]) (k:=?_))
  repeat refine QS ?_
  refine vw_loopAt [1, 5, 6, 7] rfl (fun c σ S' => ∃ (k : Nat) (d : List Bool), k ≤ l.length ∧ c = l.length - k ∧ d.length = o.length ∧ (l.drop k).foldl Ss.mark1 d = Ss.mark o l ∧ σ = [(1, .ptr po 0), (5, vl vint l), (6, vnat l.length), (7, vnat k)] ∧ S' = St S [(os, some (1, d.map V.bool))] []) l.length ?_ ?_
  · exact ⟨0, o, by omega, rfl, rfl, rfl, by simp [Fr.only], rfl⟩
  · rintro c σ T ⟨k, d, hk, rfl, hdl, hf, rfl, rfl⟩
    by_cases hkt : k < l.length
    · have hw := wrapNat hkt hl
      rw [Ss.foldl_one _ hkt] at hf
      obtain ⟨v, hx⟩ : ∃ v, l[k] = v := ⟨_, rfl⟩
      rw [hx] at hf
      by_cases q1 : 0 ≤ v
      · obtain ⟨n, rfl⟩ : ∃ n : Nat, v = n := ⟨v.toNat, by omega⟩
        by_cases q2 : n < o.length
        · have q2' : (n : Int) < (o.length : Int) := by omega
          have q3 : n < d.length := by omega
          have e : Ss.mark1 d n = d.set n true := by simp [Ss.mark1, q3]
          rw [e] at hf
          repeat (first|refine QG ?_|refine QX (r:=by conv=>lhs;simp[-List.map_set,QV,hkt,hx,q1,q2,q2',q3,op,oo,hp,h1,hupd]) (k:=?_))
          show Again _ _ _ _ _ _ _
          exact again ⟨Nat.sub_lt_sub_left hkt (Nat.lt_succ_self k), k + 1, d.set n true, hkt, rfl, by simp [hdl], hf, by simp [Fr.only, hw], by simp [List.map_set]⟩
        · have q2' : ¬ (n : Int) < (o.length : Int) := by omega
          have q3 : ¬ n < d.length := by omega
          have e : Ss.mark1 d n = d := by simp [Ss.mark1, q3]
          rw [e] at hf
          repeat (first|refine QG ?_|refine QX (r:=by conv=>lhs;simp[-List.map_set,QV,hkt,hx,q1,q2,q2',q3,op,oo,hp,h1]) (k:=?_))
          show Again _ _ _ _ _ _ _
          exact again ⟨Nat.sub_lt_sub_left hkt (Nat.lt_succ_self k), k + 1, d, hkt, rfl, hdl, hf, by simp [Fr.only, hw], rfl⟩
      · have e : Ss.mark1 d v = d := by simp [Ss.mark1, q1]
        rw [e] at hf
        repeat (first|refine QG ?_|refine QX (r:=by conv=>lhs;simp[-List.map_set,QV,hkt,hx,q1]) (k:=?_))
        show Again _ _ _ _ _ _ _
        exact again ⟨Nat.sub_lt_sub_left hkt (Nat.lt_succ_self k), k + 1, d, hkt, rfl, hdl, hf, by simp [Fr.only, hw], rfl⟩
    · rw [Ss.foldl_end _ hkt] at hf
      repeat (first|refine QG ?_|refine QX (r:=by conv=>lhs;simp[-List.map_set,QV,hkt]) (k:=?_))
      refine done_turned (X := .tuple []) (S' := S.upd os (1, d.map V.bool)) hwf (by simp) rfl (by simp [gcOkU, gcOkE, idsL_bool]) ?_ ⟨rfl, by rw [hf]⟩
      simp only [gcU, gcE, Option.map_some, renL_bool]
      exact St_upd1 hwf hon
theorem vcallv_anyG {P : Program} {σ : Fr} {S S' : Store} {K : Fr → Store → Prop} {d : Option Nat} {g : FuncId} {caps : List V} {fz : Arg} {args : List Arg} {xs xs' : List V} {r : List CO} {R : V → Store → Prop} (hf : ev σ fz = .func g caps) (hc : callable P g = true) (ha : args.map (ev σ) ++ caps = xs) (hg : GhostArgs xs S xs' S') (h : VCalls P g xs' S' R) (H : ∀ X T, R X T → vsegG P none r K (σ.put d X) T) : vsegG P none (⟨d, none, .callv fz args⟩ :: r) K σ S :=
  vcallv_any hf hc ha (vcalls_ghostArgs hg h) H

theorem Used_v (f : Ss.Fn) (hf : f.Fits) : VPure Try.prog 24 [encFn f] (vl V.bool (if f.small then Ss.usedOf f else [])) := by
  intro S
  have cs := small_v f hf
  have hsb := @small_blocks f
  have hsmi := Ss.small_iff f
  unfold Ss.usedOf
  generalize f.small = sm at *
  obtain ⟨⟨fi, fo⟩, ts, bs⟩ := f
  have cs' : VPure Try.prog 16 [.agg [vl vint fi, vl vint fo, vl vint ts, vl encBlock bs]] (.bool sm) := cs
  by_cases hs : sm = true
  case neg =>
    rw [if_neg hs]
    have hs' : sm = false := by simpa using hs
    refine vcalls_start (c := bodyOf Try.f24) Try.func24 rfl rfl (by simp [Try.ntmps24]) ?_
    rw [Try.ntmps24]
    intro hwf
    repeat (first|refine QG ?_|refine QX (r:=by conv=>lhs;simp[-List.map_set,QV]) (k:=?_))
    repeat refine QS ?_
    refine QR (r:=by conv=>lhs;simp[-List.map_set,QV]) (k:=?_)
    refine vcall_useH (cs') (by rfl) ?_
    refine QM (by conv=>lhs;simp[-List.map_set,QV,hs']) ?_
    refine QN ?_
    repeat (first|refine QG ?_|refine QX (r:=by conv=>lhs;simp[-List.map_set,QV]) (k:=?_))
    exact done_via (l := [_]) hwf (Ghost.toB (Ghost.nils_list _) _) rfl
  rw [if_pos hs]
  obtain ⟨htl, hbl, hbf, _⟩ := hsb hs
  have hsm2 := (hsmi.1 hs).2.1
  simp only at htl hbl hbf hsm2 ⊢
  generalize hX : bs.foldl Ss.usedB (List.replicate ts.length false) = X
  have hb1 : ts.length * 1 ≤ 140737488355328 := by omega
  have hb0 : ts.length ≤ 140737488355328 := by omega
  refine vcalls_start (c := bodyOf Try.f24) Try.func24 rfl rfl (by simp [Try.ntmps24]) ?_
  rw [Try.ntmps24]
  intro hwf
  repeat (first|refine QG ?_|refine QX (r:=by conv=>lhs;simp[-List.map_set,QV]) (k:=?_))
  repeat refine QS ?_
  refine QR (r:=by conv=>lhs;simp[-List.map_set,QV]) (k:=?_)
  refine vcall_useH (cs') (by rfl) ?_
  refine QM (by conv=>lhs;simp[-List.map_set,QV,hs]) ?_
  refine QN ?_
  repeat (first|refine QG ?_|refine QX (r:=by conv=>lhs;simp[-List.map_set,QV,hb1,hb0]) (k:=?_))
  refine vw_only' [3, 4, 20, 21, 22] (by conv => lhs; simp [Fr.only, Fr.look]) ?_
  refine vw_gc [1, 2] hwf (by decide) (by simp [-List.map_set]; rw [idsL_eq]; simp [V.ids]) (by conv => lhs; simp [-List.map_set]) (by conv => lhs; simp [-List.map_set]) (by conv => lhs; simp [-List.map_set]) ?_
  repeat refine QS ?_
  refine vw_loopAt [3, 4, 20, 21, 22] rfl (fun c σ S' => ∃ (k : Nat) (d : List Bool), k ≤ bs.length ∧ c = bs.length - k ∧ d.length = ts.length ∧ (bs.drop k).foldl Ss.usedB d = X ∧ σ = [(3, .ptr (lid S.nx 1) 0), (4, .func 49 [.ptr (lid S.nx 1) 0]), (20, vl encBlock bs), (21, vnat bs.length), (22, vnat k)] ∧ S' = St S [] [some (1, d.map V.bool), some (1, [.slice (lid S.nx 0) 0 ts.length])]) bs.length ?_ ?_
  · exact ⟨0, List.replicate ts.length false, by omega, rfl, by simp, hX, by simp [Fr.only], by rw [renL_eq]; simp [V.ren]⟩
  · rintro c σ T ⟨k, d, hk, rfl, hdl, hfo, rfl, rfl⟩
    by_cases hkt : k < bs.length
    · have hw := wrapNat hkt (by omega)
      rw [Ss.foldl_one _ hkt] at hfo
      have hmem := List.getElem_mem hkt
      obtain ⟨_, htol, hazl, hcl⟩ := hbf _ hmem
      have hsmk := hsm2 _ hmem
      obtain ⟨⟨ps, code, ⟨tk, ta, to, az⟩⟩, hx⟩ : ∃ b, bs[k] = b := ⟨_, rfl⟩
      rw [hx] at hfo htol hazl hcl hsmk
      simp only at htol hazl hcl
      simp only [Ss.Block.small, Bool.and_eq_true, List.all_eq_true, Ss.Ins.small, Ss.Edge.small, decide_eq_true_eq] at hsmk
      obtain ⟨⟨_, hsc⟩, hse⟩ := hsmk
      have cb : VPure Try.prog 43 [.agg [.int .i64 tk, .int .i64 ta, vl encEdge to, vl vint az]] (.bool (Ss.branches ⟨tk, ta, to, az⟩)) := branches_v ⟨tk, ta, to, az⟩
      simp only [Ss.usedB] at hfo
      generalize Ss.branches ⟨tk, ta, to, az⟩ = br at *
      generalize hD1 : code.foldl (fun o x => Ss.mark o x.args) d = D1 at *
      repeat (first|refine QG ?_|refine QX (r:=by conv=>lhs;simp[-List.map_set,QV,hkt,hx]) (k:=?_))
      repeat refine QS ?_
      refine vw_loopAt [3, 4, 6, 20, 21, 22, 27, 28, 29] rfl (fun c σ S' => ∃ (j : Nat) (d : List Bool), j ≤ code.length ∧ c = code.length - j ∧ d.length = ts.length ∧ (code.drop j).foldl (fun o x => Ss.mark o x.args) d = D1 ∧ σ = [(3, .ptr (lid S.nx 1) 0), (4, .func 49 [.ptr (lid S.nx 1) 0]), (6, .ptr (lid S.nx 2) 0), (20, vl encBlock bs), (21, vnat bs.length), (22, vnat k), (27, vl encIns code), (28, vnat code.length), (29, vnat j)] ∧ S' = St S [] [some (1, d.map V.bool), some (1, [.slice (lid S.nx 0) 0 ts.length]), some (6, [vl vint ps, vl encIns code, .int .i64 tk, .int .i64 ta, vl encEdge to, vl vint az])]) code.length ?_ ?_
      · exact ⟨0, d, by omega, rfl, hdl, hD1, by simp [Fr.only], rfl⟩
      · rintro c σ T ⟨j, d2, hj, rfl, hdl2, hfo2, rfl, rfl⟩
        by_cases hjt : j < code.length
        · have hwj := wrapNat hjt (by omega)
          rw [Ss.foldl_one _ hjt] at hfo2
          have hxl := hsc _ (List.getElem_mem hjt)
          obtain ⟨⟨xo, xn, xa, xu⟩, hx2⟩ : ∃ x, code[j] = x := ⟨_, rfl⟩
          rw [hx2] at hfo2 hxl
          simp only at hfo2 hxl
          repeat (first|refine QG ?_|refine QX (r:=by conv=>lhs;simp[-List.map_set,QV,hjt,hx2]) (k:=?_))
          repeat refine QS ?_
          refine QR (r:=by conv=>lhs;simp[-List.map_set,QV,hjt,hx2]) (k:=?_)
          refine vcallv_any rfl rfl rfl (used1_v _ (lid S.nx 1) (lid S.nx 0) d2 xa (by omega) (by omega) (by simp [*]) (by simp) (by simp [lid])) ?_
          rintro Y S2 ⟨rfl, rfl⟩
          rw [St_upd (by simp)]
          simp only [List.set_cons_succ, List.set_cons_zero]
          have hml := Ss.mark_len xa d2
          generalize Ss.mark d2 xa = d3 at *
          refine QM (by conv=>lhs;simp[-List.map_set,QV]) ?_
          refine QN ?_
          repeat (first|refine QG ?_|refine QX (r:=by conv=>lhs;simp[-List.map_set,QV]) (k:=?_))
          refine QA [0, 1, 2] (h:=⟨?_, j + 1, d3, hjt, rfl, by omega, hfo2, by simp [hwj], rfl⟩)
          omega
        · rw [Ss.foldl_end _ hjt] at hfo2
          subst hfo2
          repeat (first|refine QG ?_|refine QX (r:=by conv=>lhs;simp[-List.map_set,QV,hjt]) (k:=?_))
          repeat refine QS ?_
          refine QR (r:=by conv=>lhs;simp[-List.map_set,QV]) (k:=?_)
          refine vcallv_any rfl rfl rfl (used1_v _ (lid S.nx 1) (lid S.nx 0) d2 az (by omega) (by omega) (by simp [*]) (by simp) (by simp [lid])) ?_
          rintro Y S2 ⟨rfl, rfl⟩
          rw [St_upd (by simp)]
          simp only [List.set_cons_succ, List.set_cons_zero]
          have hml := Ss.mark_len az d2
          generalize Ss.mark d2 az = d3 at *
          refine QM (by conv=>lhs;simp[-List.map_set,QV]) ?_
          refine QN ?_
          refine vw_seqAt rfl ?_
          generalize hD4 : (if br = true then Ss.mark d3 [ta] else d3) = D4 at *
          refine vw_joinR (fun σ S' => D4.length = ts.length ∧ σ = [(3, .ptr (lid S.nx 1) 0), (4, .func 49 [.ptr (lid S.nx 1) 0]), (6, .ptr (lid S.nx 2) 0), (20, vl encBlock bs), (21, vnat bs.length), (22, vnat k)] ∧ S' = St S [] [some (1, D4.map V.bool), some (1, [.slice (lid S.nx 0) 0 ts.length]), some (6, [vl vint ps, vl encIns code, .int .i64 tk, .int .i64 ta, vl encEdge to, vl vint az])]) [3, 4, 6, 20, 21, 22] ?_ ?_
          · repeat refine QS ?_
            refine QR (r:=by conv=>lhs;simp[-List.map_set,QV]) (k:=?_)
            refine vcall_useH (cb) (by rfl) ?_
            by_cases hbr : br = true
            · rw [if_pos hbr] at hD4
              refine QM (by conv=>lhs;simp[-List.map_set,QV,hbr]) ?_
              refine QN ?_
              repeat (first|refine QG ?_|refine QX (r:=by conv=>lhs;simp[-List.map_set,QV]) (k:=?_))
              repeat refine QS ?_
              refine QR (r:=by conv=>lhs;simp[-List.map_set,QV]) (k:=?_)
              refine vcallv_anyG (xs' := [vl vint [ta], .ptr (lid S.nx 1) 0]) rfl rfl rfl (GhostArgs.one [] [_] (frz1 (k := 3) (len := 1) (by simp) (by rfl) (by rfl) (by rfl))) (used1_v _ (lid S.nx 1) (lid S.nx 0) d3 [ta] (by simp) (by omega) (by simp [*]) (by simp) (by simp [lid])) ?_
              rintro Y S2 ⟨rfl, rfl⟩
              simp only [List.set_cons_succ, List.set_cons_zero]
              rw [St_upd (by simp)]
              simp only [List.set_cons_succ, List.set_cons_zero]
              have hml2 := Ss.mark_len [ta] d3
              rw [hD4] at hml2 ⊢
              refine QM (by conv=>lhs;simp[-List.map_set,QV]) ?_
              refine QN ?_
              repeat (first|refine QG ?_|refine QX (r:=by conv=>lhs;simp[-List.map_set,QV]) (k:=?_))
              refine mid_gc [3, 4, 6, 20, 21, 22] [0, 1, 2] (by conv => lhs; simp [Fr.only]) hwf (by decide) (by simp [-List.map_set]) (by conv => lhs; simp [-List.map_set]) (by conv => lhs; simp [-List.map_set]) (by conv => lhs; simp [-List.map_set]) (⟨by omega, by simp, by simp⟩)
            · rw [if_neg hbr] at hD4
              have hbr' : br = false := by simpa using hbr
              refine QM (by conv=>lhs;simp[-List.map_set,QV,hbr']) ?_
              refine QN ?_
              repeat (first|refine QG ?_|refine QX (r:=by conv=>lhs;simp[-List.map_set,QV]) (k:=?_))
              subst hD4
              refine mid_gc [3, 4, 6, 20, 21, 22] [0, 1, 2] (by conv => lhs; simp [Fr.only]) hwf (by decide) (by simp [-List.map_set]) (by conv => lhs; simp [-List.map_set]) (by conv => lhs; simp [-List.map_set]) (by conv => lhs; simp [-List.map_set]) (⟨by omega, by simp, by simp⟩)
          rintro σ S' ⟨hD4l, rfl, rfl⟩
          generalize hD5 : to.foldl (fun o t => Ss.mark o t.args) D4 = D5 at *
          repeat (first|refine QG ?_|refine QX (r:=by conv=>lhs;simp[-List.map_set,QV]) (k:=?_))
          repeat refine QS ?_
          refine vw_loopAt [3, 4, 20, 21, 22, 54, 55, 56] rfl (fun c σ S' => ∃ (j : Nat) (d : List Bool), j ≤ to.length ∧ c = to.length - j ∧ d.length = ts.length ∧ (to.drop j).foldl (fun o t => Ss.mark o t.args) d = D5 ∧ σ = [(3, .ptr (lid S.nx 1) 0), (4, .func 49 [.ptr (lid S.nx 1) 0]), (20, vl encBlock bs), (21, vnat bs.length), (22, vnat k), (54, vl encEdge to), (55, vnat to.length), (56, vnat j)] ∧ S' = St S [] [some (1, d.map V.bool), some (1, [.slice (lid S.nx 0) 0 ts.length]), some (6, [vl vint ps, vl encIns code, .int .i64 tk, .int .i64 ta, vl encEdge to, vl vint az])]) to.length ?_ ?_
          · exact ⟨0, D4, by omega, rfl, hD4l, hD5, by simp [Fr.only], rfl⟩
          · rintro c σ T ⟨j, d6, hj, rfl, hdl6, hfo6, rfl, rfl⟩
            by_cases hjt : j < to.length
            · have hwj := wrapNat hjt (by omega)
              rw [Ss.foldl_one _ hjt] at hfo6
              have hxl := hse _ (List.getElem_mem hjt)
              obtain ⟨⟨xt, xa⟩, hx2⟩ : ∃ x, to[j] = x := ⟨_, rfl⟩
              rw [hx2] at hfo6 hxl
              simp only at hfo6 hxl
              repeat (first|refine QG ?_|refine QX (r:=by conv=>lhs;simp[-List.map_set,QV,hjt,hx2]) (k:=?_))
              repeat refine QS ?_
              refine QR (r:=by conv=>lhs;simp[-List.map_set,QV,hjt,hx2]) (k:=?_)
              refine vcallv_any rfl rfl rfl (used1_v _ (lid S.nx 1) (lid S.nx 0) d6 xa (by omega) (by omega) (by simp [*]) (by simp) (by simp [lid])) ?_
              rintro Y S2 ⟨rfl, rfl⟩
              rw [St_upd (by simp)]
              simp only [List.set_cons_succ, List.set_cons_zero]
              have hml7 := Ss.mark_len xa d6
              generalize Ss.mark d6 xa = d7 at *
              refine QM (by conv=>lhs;simp[-List.map_set,QV]) ?_
              refine QN ?_
              repeat (first|refine QG ?_|refine QX (r:=by conv=>lhs;simp[-List.map_set,QV]) (k:=?_))
              refine QA [0, 1, 2] (h:=⟨?_, j + 1, d7, hjt, rfl, by omega, hfo6, by simp [hwj], by simp⟩)
              omega
            · rw [Ss.foldl_end _ hjt] at hfo6
              subst hfo6
              repeat (first|refine QG ?_|refine QX (r:=by conv=>lhs;simp[-List.map_set,QV,hjt]) (k:=?_))
              refine QA [0, 1] (h:=⟨?_, k + 1, d6, hkt, rfl, by omega, hfo, by simp [hw], rfl⟩)
              omega
    · rw [Ss.foldl_end _ hkt] at hfo
      subst hfo
      repeat (first|refine QG ?_|refine QX (r:=by conv=>lhs;simp[-List.map_set,QV,hkt]) (k:=?_))
      exact done_via hwf ((frz1 (k := 0) (by simp) (by rfl) (all_closed1 V.bool (fun _ => rfl) _) (by simpa using hdl)).toB _) rfl
end Go.Vw

namespace Ss
/-- The values that an end asks for. -/
def asksT (t : Term) : List Int := (if t.kind = 2 ∨ t.kind = 3 then [t.arg] else []) ++ t.to.flatMap (fun x => x.args) ++ t.args
def asksB (b : Block) : List Int := asksT b.term ++ b.code.flatMap (fun x => x.args)
def rusedOf (f : Fn) : List Bool := f.blocks.foldl (fun o b => mark o (asksB b)) (List.replicate f.types.length false)
end Ss
namespace Go.Vw
open Go.Proofs Go.RowKit
set_option maxRecDepth 10000
set_option maxHeartbeats 2000000

theorem flatC_vint (l : List Int) : flatC vint l = l.map vint := by
  induction l with
  | nil => rfl
  | cons x l ih =>
    simp only [flatC, List.flatMap_cons, List.map_cons] at ih ⊢
    rw [ih]; rfl
theorem Asks_v (S : Store) (t : Ss.Term) (ht : t.to.length ≤ 4096) (hz : t.args.length ≤ 4096) (hx : ∀ x ∈ t.to, x.args.length ≤ 4096) :
    VCalls Try.prog 39 [encTerm t] S (fun r T => (Ss.asksT t).length ≤ 16785409 ∧ r = .slice (lid S.nx 0) 0 (Ss.asksT t).length ∧ T = St S [] [some (1, (Ss.asksT t).map vint)]) := by
  obtain ⟨tk, ta, tt, az⟩ := t
  simp only at ht hz hx
  have hX : Ss.asksT ⟨tk, ta, tt, az⟩ = ((if tk = 2 ∨ tk = 3 then [ta] else []) ++ tt.flatMap fun x => x.args) ++ az := rfl
  refine vcalls_start (c := bodyOf Try.f39) Try.func39 rfl rfl (by simp [Try.ntmps39]) ?_
  rw [Try.ntmps39]
  intro hwf
  repeat refine QS ?_
  refine QR (r:=by conv=>lhs;simp[-List.map_set,QV]) (k:=?_)
  refine QN ?_
  repeat refine QS ?_
  refine QR (r:=by conv=>lhs;simp[-List.map_set,QV]) (k:=?_)
  refine QN ?_
  refine vw_ghost' 1 rfl ((refSt (k := 0) (by simp) (by rfl) (by rfl) (by simp))) (by conv => lhs; simp [Fr.set]) ?_
  simp only [List.set_cons_succ, List.set_cons_zero]
  refine vw_void 3 1 rfl (by conv => lhs; simp [Fr.set]) ?_
  refine vw_only' [1, 3] (by conv => lhs; simp [Fr.only, Fr.look]) ?_
  refine vw_gc [1] hwf (by decide) (by simp [-List.map_set]) (by conv => lhs; simp [-List.map_set]) (by conv => lhs; simp [-List.map_set]) (by conv => lhs; simp [-List.map_set]) ?_
  refine vw_seqAt rfl ?_
  refine vw_joinR (fun σ S' => σ = [(1, .ref (.agg [.int .i64 tk, .int .i64 ta, vl encEdge tt, vl vint az])), (3, .slice (lid S.nx 0) 0 (if tk = 2 ∨ tk = 3 then [ta] else []).length)] ∧ S' = St S [] [some (1, (if tk = 2 ∨ tk = 3 then [ta] else []).map vint)]) [1, 3] ?_ ?_
  · by_cases h2 : tk = 2
    · repeat (first|refine QG ?_|refine QX (r:=by conv=>lhs;simp[-List.map_set,QV,h2,rep0]) (k:=?_))
      refine mid_gc [1, 3] [2] (by conv => lhs; simp [Fr.only]) hwf (by decide) (by simp [-List.map_set]) (by conv => lhs; simp [-List.map_set]) (by conv => lhs; simp [-List.map_set]) (by conv => lhs; simp [-List.map_set]) (⟨by simp [h2], by simp [h2]⟩)
    by_cases h3 : tk = 3
    · repeat (first|refine QG ?_|refine QX (r:=by conv=>lhs;simp[-List.map_set,QV,h2,h3,rep0]) (k:=?_))
      refine mid_gc [1, 3] [2] (by conv => lhs; simp [Fr.only]) hwf (by decide) (by simp [-List.map_set]) (by conv => lhs; simp [-List.map_set]) (by conv => lhs; simp [-List.map_set]) (by conv => lhs; simp [-List.map_set]) (⟨by simp [h3], by simp [h3]⟩)
    · repeat (first|refine QG ?_|refine QX (r:=by conv=>lhs;simp[-List.map_set,QV,h2,h3]) (k:=?_))
      refine mid_gc [1, 3] [0] (by conv => lhs; simp [Fr.only]) hwf (by decide) (by simp [-List.map_set]) (by conv => lhs; simp [-List.map_set]) (by conv => lhs; simp [-List.map_set]) (by conv => lhs; simp [-List.map_set]) (⟨by simp [h2, h3], by simp [h2, h3]⟩)
  rintro σ S' ⟨rfl, rfl⟩
  have hal : (if tk = 2 ∨ tk = 3 then [ta] else []).length ≤ 1 := by split <;> simp
  generalize (if tk = 2 ∨ tk = 3 then [ta] else []) = al at *
  rw [hX]
  repeat (first|refine QG ?_|refine QX (r:=by conv=>lhs;simp[-List.map_set,QV]) (k:=?_))
  repeat refine QS ?_
  refine vw_loopAt [1, 3, 4] rfl (fun c σ S' => ∃ (k : Nat) (out : List Int), k ≤ tt.length ∧ c = tt.length - k ∧ out = al ++ (tt.take k).flatMap (fun x => x.args) ∧ out.length ≤ 1 + k * 4096 ∧ σ = [(1, .ref (.agg [.int .i64 tk, .int .i64 ta, vl encEdge tt, vl vint az])), (3, .slice (lid S.nx 0) 0 out.length), (4, vnat k)] ∧ S' = St S [] [some (1, out.map vint)]) tt.length ?_ ?_
  · exact ⟨0, al, by omega, rfl, by simp, by omega, by simp [Fr.only], rfl⟩
  · rintro c σ T ⟨k, out, hk, rfl, ho, hol, rfl, rfl⟩
    by_cases hkt : k < tt.length
    case neg =>
      have hke : k = tt.length := by omega
      subst hke
      rw [List.take_length] at ho
      have hb : (out.length + az.length) * 8 ≤ 140737488355328 := by omega
      have hb' : out.length + az.length ≤ 140737488355328 := by omega
      rw [← ho]
      repeat (first|refine QG ?_|refine QX (r:=by conv=>lhs;simp[-List.map_set,QV,hkt,hb,hb',opAppend_vl,nc_vint,flatC_vint]) (k:=?_))
      exact done_gc [1] hwf (by decide) (by simp) (by simp; rfl) (by simp; rfl) ⟨by simp; omega, by simp, by simp⟩
    have hw := wrapNat hkt (by omega)
    have hxk := hx _ (List.getElem_mem hkt)
    obtain ⟨⟨xt, xa⟩, hx2⟩ : ∃ x, tt[k] = x := ⟨_, rfl⟩
    have htk : (tt.take (k + 1)).flatMap (fun x => x.args) = (tt.take k).flatMap (fun x => x.args) ++ xa := by rw [List.take_add_one, List.getElem?_eq_getElem hkt, List.flatMap_append, hx2]; simp
    rw [hx2] at hxk
    simp only at hxk
    have hb : (out.length + xa.length) * 8 ≤ 140737488355328 := by omega
    have hb' : out.length + xa.length ≤ 140737488355328 := by omega
    repeat (first|refine QG ?_|refine QX (r:=by conv=>lhs;simp[-List.map_set,QV,hkt,hx2,hb,hb',opAppend_vl,nc_vint,flatC_vint,hw]) (k:=?_))
    refine QA [1] (h:=⟨?_, k + 1, out ++ xa, hkt, rfl, by rw [htk, ho, List.append_assoc], by simp; omega, by simp, by simp⟩)
    omega
theorem renL_repb (f : Nat → Nat) (n : Nat) (b : Bool) : V.renL f (List.replicate n (V.bool b)) = List.replicate n (V.bool b) := by rw [rep_bool, renL_bool]
theorem idsL_repb (p : Nat → Bool) (n : Nat) (b : Bool) : V.idsL p (List.replicate n (V.bool b)) = true := by rw [rep_bool, idsL_bool]
theorem mark_one {o : List Bool} {l : List Int} {k : Nat} (h : k < l.length) : Ss.mark o (l.drop k) = Ss.mark (Ss.mark1 o l[k]) (l.drop (k + 1)) := Ss.foldl_one Ss.mark1 h o
theorem RUsed_v (f : Ss.Fn) (hf : f.Fits) (hs : f.small = true) : VPure Try.prog 14 [encFn f] (vl V.bool (Ss.rusedOf f)) := by
  intro S
  have csm := RSmall_v f hf
  rw [hs] at csm
  obtain ⟨hh, hbk, hcnt⟩ := (Ss.small_iff f).1 hs
  simp only [Ss.Fn.heads, Bool.and_eq_true, decide_eq_true_eq] at hh
  obtain ⟨sm, hsm⟩ : ∃ sm, sm = true := ⟨_, rfl⟩
  rw [← hsm] at csm
  have hX : Ss.rusedOf f = f.blocks.foldl (fun o b => Ss.mark o (Ss.asksB b)) (List.replicate f.types.length false) := rfl
  rw [hX]
  obtain ⟨⟨fi, fo⟩, ts, bs⟩ := f
  simp only at hh hbk hcnt ⊢
  have csm' : VPure Try.prog 9 [.agg [vl vint fi, vl vint fo, vl vint ts, vl encBlock bs]] (.bool sm) := csm
  generalize hU : (fun (o : List Bool) (b : Ss.Block) => Ss.mark o (Ss.asksB b)) = U
  refine vcalls_start (c := bodyOf Try.f14) Try.func14 rfl rfl (by simp [Try.ntmps14]) ?_
  rw [Try.ntmps14]
  intro hwf
  repeat refine QS ?_
  refine QR (r:=by conv=>lhs;simp[-List.map_set,QV]) (k:=?_)
  refine QN ?_
  refine vw_ghost' 1 rfl ((refSt (k := 0) (by simp) (by rfl) (by rfl) (by simp))) (by conv => lhs; simp [Fr.set]) ?_
  simp only [List.set_cons_succ, List.set_cons_zero]
  repeat (first|refine QG ?_|refine QX (r:=by conv=>lhs;simp[-List.map_set,QV]) (k:=?_))
  repeat refine QS ?_
  refine QR (r:=by conv=>lhs;simp[-List.map_set,QV]) (k:=?_)
  refine vcall_useH (csm') (by rfl) ?_
  refine QM (by conv=>lhs;simp[-List.map_set,QV,hsm]) ?_
  refine QN ?_
  have htb : ts.length * 1 ≤ 140737488355328 := by omega
  have htb' : ts.length ≤ 140737488355328 := by omega
  repeat (first|refine QG ?_|refine QX (r:=by conv=>lhs;simp[-List.map_set,QV,hsm,htb,htb']) (k:=?_))
  refine vw_only' [1, 3, 4] (by conv => lhs; simp [Fr.only, Fr.look]) ?_
  refine vw_gc [1] hwf (by decide) (by simp [-List.map_set, renL_repb, idsL_repb]) (by conv => lhs; simp [-List.map_set, renL_repb, idsL_repb]) (by conv => lhs; simp [-List.map_set, renL_repb, idsL_repb]) (by conv => lhs; simp [-List.map_set, renL_repb, idsL_repb]) ?_
  repeat refine QS ?_
  refine vw_loopAt [1, 3, 4] rfl (fun c σ S' => ∃ (k : Nat) (o : List Bool), k ≤ bs.length ∧ c = bs.length - k ∧ (bs.drop k).foldl U o = bs.foldl U (List.replicate ts.length false) ∧ o.length = ts.length ∧ σ = [(1, .ref (.agg [vl vint fi, vl vint fo, vl vint ts, vl encBlock bs])), (3, .slice (lid S.nx 0) 0 ts.length), (4, vnat k)] ∧ S' = St S [] [some (1, o.map V.bool)]) bs.length ?_ ?_
  · exact ⟨0, List.replicate ts.length false, by omega, rfl, rfl, by simp, by simp [Fr.only], by simp⟩
  · rintro c σ T ⟨k, o, hk, rfl, hd, hol, rfl, rfl⟩
    by_cases hkt : k < bs.length
    case neg =>
      rw [Ss.foldl_end _ hkt] at hd
      repeat (first|refine QG ?_|refine QX (r:=by conv=>lhs;simp[-List.map_set,QV,hkt]) (k:=?_))
      rw [← hd]
      exact done_via hwf ((frz1 (by simp) (by rfl) (all_closed1 V.bool (fun _ => rfl) _) (by simpa using hol)).toB _) rfl
    have hw := wrapNat hkt (by omega)
    have hst := Ss.foldl_one U hkt o
    have hbk' := hbk _ (List.getElem_mem hkt)
    have hcb := count_mem (List.getElem_mem hkt)
    have hUk : U o bs[k] = Ss.mark o (Ss.asksB bs[k]) := by rw [← hU]
    obtain ⟨⟨ps, code, ⟨tk, ta, tt, az⟩⟩, hx⟩ : ∃ b, bs[k] = b := ⟨_, rfl⟩
    rw [hx] at hst hbk' hcb hUk
    simp only [Ss.Block.small, Bool.and_eq_true, List.all_eq_true, Ss.Ins.small, Ss.Edge.small, decide_eq_true_eq] at hbk'
    obtain ⟨⟨⟨⟨hps, htt⟩, haz⟩, hcode⟩, hto2⟩ := hbk'
    simp only at hcb
    have hcl : code.length ≤ 4096 := by omega
    have hAB : Ss.asksB ⟨ps, code, ⟨tk, ta, tt, az⟩⟩ = Ss.asksT ⟨tk, ta, tt, az⟩ ++ code.flatMap (fun x => x.args) := rfl
    rw [hUk, hAB] at hst
    have cas := fun S => Asks_v S ⟨tk, ta, tt, az⟩ htt haz hto2
    generalize Ss.asksT ⟨tk, ta, tt, az⟩ = al at *
    have cas' : ∀ S : Store, VCalls Try.prog 39 [.agg [.int .i64 tk, .int .i64 ta, vl encEdge tt, vl vint az]] S (fun r T => al.length ≤ 16785409 ∧ r = .slice (lid S.nx 0) 0 al.length ∧ T = St S [] [some (1, al.map vint)]) := cas
    repeat (first|refine QG ?_|refine QX (r:=by conv=>lhs;simp[-List.map_set,QV,hkt,hx]) (k:=?_))
    repeat refine QS ?_
    refine QR (r:=by conv=>lhs;simp[-List.map_set,QV,hkt,hx]) (k:=?_)
    refine vcall_any rfl (cas' _) ?_
    rintro X T' ⟨hal, rfl, rfl⟩
    rw [St_nx, lid_lid', ← St_sink]
    simp only [List.cons_append, List.nil_append, List.length_cons, List.length_nil, Nat.zero_add, Nat.add_zero]
    refine QM (by conv=>lhs;simp[-List.map_set,QV]) ?_
    refine QN ?_
    repeat (first|refine QG ?_|refine QX (r:=by conv=>lhs;simp[-List.map_set,QV]) (k:=?_))
    repeat refine QS ?_
    refine vw_loopAt [1, 3, 4, 5, 6] rfl (fun c σ S' => ∃ (j : Nat) (l : List Int), j ≤ code.length ∧ c = code.length - j ∧ l = al ++ (code.take j).flatMap (fun x => x.args) ∧ l.length ≤ 16785409 + j * 4096 ∧ σ = [(1, .ref (.agg [vl vint fi, vl vint fo, vl vint ts, vl encBlock bs])), (3, .slice (lid S.nx 0) 0 ts.length), (4, vnat k), (5, .slice (lid S.nx 1) 0 l.length), (6, vnat j)] ∧ S' = St S [] [some (1, o.map V.bool), some (1, l.map vint)]) code.length ?_ ?_
    · exact ⟨0, al, by omega, rfl, by simp, by omega, by simp [Fr.only], rfl⟩
    · rintro c σ T ⟨j, l, hj, rfl, hl, hll, rfl, rfl⟩
      by_cases hjt : j < code.length
      case pos =>
        have hwj := wrapNat hjt (by omega)
        have hcj := (hcode _ (List.getElem_mem hjt)).1
        obtain ⟨⟨xo, xn, xa, xu⟩, hx2⟩ : ∃ x, code[j] = x := ⟨_, rfl⟩
        have htj : (code.take (j + 1)).flatMap (fun x => x.args) = (code.take j).flatMap (fun x => x.args) ++ xa := by rw [List.take_add_one, List.getElem?_eq_getElem hjt, List.flatMap_append, hx2]; simp
        rw [hx2] at hcj
        simp only at hcj
        have hb : (l.length + xa.length) * 8 ≤ 140737488355328 := by omega
        have hb' : l.length + xa.length ≤ 140737488355328 := by omega
        repeat (first|refine QG ?_|refine QX (r:=by conv=>lhs;simp[-List.map_set,QV,hkt,hx,hjt,hx2,hb,hb',opAppend_vl,nc_vint,flatC_vint,hwj]) (k:=?_))
        refine QA [0, 2] (h:=⟨?_, j + 1, l ++ xa, hjt, rfl, by rw [htj, hl, List.append_assoc], by simp; omega, by simp, by simp⟩)
        omega
      have hje : j = code.length := by omega
      subst hje
      rw [List.take_length] at hl
      rw [← hl] at hst
      have hl63 : l.length < 2^63 := by omega
      repeat (first|refine QG ?_|refine QX (r:=by conv=>lhs;simp[-List.map_set,QV,hkt,hx,hjt]) (k:=?_))
      repeat refine QS ?_
      refine vw_loopAt [1, 3, 4, 5, 7] rfl (fun c σ S' => ∃ (j : Nat) (p : List Bool), j ≤ l.length ∧ c = l.length - j ∧ Ss.mark p (l.drop j) = Ss.mark o l ∧ p.length = ts.length ∧ σ = [(1, .ref (.agg [vl vint fi, vl vint fo, vl vint ts, vl encBlock bs])), (3, .slice (lid S.nx 0) 0 ts.length), (4, vnat k), (5, .slice (lid S.nx 1) 0 l.length), (7, vnat j)] ∧ S' = St S [] [some (1, p.map V.bool), some (1, l.map vint)]) l.length ?_ ?_
      · exact ⟨0, o, by omega, rfl, rfl, hol, by simp [Fr.only], rfl⟩
      · rintro c σ T ⟨j, p, hj, rfl, hp, hpl, rfl, rfl⟩
        by_cases hjt2 : j < l.length
        case neg =>
          rw [show l.drop j = [] by rw [List.drop_eq_nil_iff]; omega] at hp
          have hp' : p = Ss.mark o l := hp
          repeat (first|refine QG ?_|refine QX (r:=by conv=>lhs;simp[-List.map_set,QV,hjt2,hw]) (k:=?_))
          refine QA [0] (h:=⟨?_, k + 1, p, hkt, rfl, by rw [hp', ← hst]; exact hd, hpl, by simp, by simp⟩)
          omega
        have hwj := wrapNat hjt2 hl63
        rw [mark_one hjt2] at hp
        obtain ⟨v, hv⟩ : ∃ v, l[j] = v := ⟨_, rfl⟩
        rw [hv] at hp
        by_cases h1 : 0 ≤ v
        case neg =>
          have hm : Ss.mark1 p v = p := by unfold Ss.mark1; rw [if_neg (by omega)]
          rw [hm] at hp
          repeat (first|refine QG ?_|refine QX (r:=by conv=>lhs;simp[-List.map_set,QV,hjt2,hv,h1,hwj]) (k:=?_))
          refine QA [0, 1] (h:=⟨?_, j + 1, p, hjt2, rfl, hp, hpl, by simp, by simp⟩)
          omega
        obtain ⟨n, rfl⟩ : ∃ n : Nat, v = n := ⟨v.toNat, by omega⟩
        by_cases h2 : (n : Int) < (ts.length : Int)
        case neg =>
          have hm : Ss.mark1 p n = p := by unfold Ss.mark1; rw [if_neg (by omega)]
          rw [hm] at hp
          have h2' : ¬ n < ts.length := by omega
          repeat (first|refine QG ?_|refine QX (r:=by conv=>lhs;simp[-List.map_set,QV,hjt2,hv,h2,h2',hwj]) (k:=?_))
          refine QA [0, 1] (h:=⟨?_, j + 1, p, hjt2, rfl, hp, hpl, by simp, by simp⟩)
          omega
        have h2' : n < ts.length := by omega
        have hm : Ss.mark1 p n = p.set n true := by unfold Ss.mark1; rw [if_pos ⟨by omega, by omega⟩]; rfl
        rw [hm] at hp
        have h3 : n < p.length := by omega
        repeat (first|refine QG ?_|refine QX (r:=by conv=>lhs;simp[-List.map_set,QV,hjt2,hv,h2,h2',h3,hpl,hwj]) (k:=?_))
        refine QA [0, 1] (h:=⟨?_, j + 1, p.set n true, hjt2, rfl, hp, by simp [hpl], by simp, by simp⟩)
        omega
end Go.Vw
