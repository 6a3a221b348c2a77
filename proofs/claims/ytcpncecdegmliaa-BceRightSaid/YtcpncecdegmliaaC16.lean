import Derived.Test.YtcpncecdegmliaaC13
import Derived.Test.YtcpncecdegmliaaProg
/-
  Part of the proof (texts SRSmall, SIdx, SSmall).
-/
set_option linter.unusedVariables false
set_option linter.unusedSimpArgs false
namespace Go.Vw
open Go.Proofs Go.RowKit
set_option maxRecDepth 10000
set_option maxHeartbeats 8000000
theorem RSmall_v (f : Ss.Fn) (hf : f.Fits) : VPure Try.prog 25 [encFn f] (.bool f.small) := by
 intro S
 obtain ⟨⟨fi, fo⟩, ts, bs⟩ := f
 obtain ⟨_, _, hbl0, hbf⟩ := hf
 simp only at hbl0 hbf
 have hbl : bs.length < 2^63 := by omega
 refine vcalls_start (c := bodyOf Try.f25) Try.func25 rfl rfl (by simp [Try.ntmps25]) ?_
 rw [Try.ntmps25]
 intro hwf
 by_cases h1 : (4096 : Int) < (ts.length : Int)
 ·repeat (first|refine QG ?_|refine QX (r:=by conv=>lhs;simp[-List.map_set,QV,h1]) (k:=?_))
  exact done_pure hwf (by simp [Ss.Fn.small, Ss.Fn.heads]; omega) rfl
 by_cases h2 : (4096 : Int) < (bs.length : Int)
 ·repeat (first|refine QG ?_|refine QX (r:=by conv=>lhs;simp[-List.map_set,QV,h1,h2]) (k:=?_))
  exact done_pure hwf (by simp [Ss.Fn.small, Ss.Fn.heads]; omega) rfl
 by_cases h3 : (4096 : Int) < (fi.length : Int)
 ·repeat (first|refine QG ?_|refine QX (r:=by conv=>lhs;simp[-List.map_set,QV,h1,h2,h3]) (k:=?_))
  exact done_pure hwf (by simp [Ss.Fn.small, Ss.Fn.heads]; omega) rfl
 by_cases h4 : (4096 : Int) < (fo.length : Int)
 ·repeat (first|refine QG ?_|refine QX (r:=by conv=>lhs;simp[-List.map_set,QV,h1,h2,h3,h4]) (k:=?_))
  exact done_pure hwf (by simp [Ss.Fn.small, Ss.Fn.heads]; omega) rfl
 have hh : Ss.Fn.small ⟨⟨fi, fo⟩, ts, bs⟩ = Ss.smallFrom 0 bs := by
  have : Ss.Fn.heads ⟨⟨fi, fo⟩, ts, bs⟩ = true := by simp [Ss.Fn.heads]; omega
  simp [Ss.Fn.small, this]
 rw [hh]
 repeat (first|refine QG ?_|refine QX (r:=by conv=>lhs;simp[-List.map_set,QV,h1,h2,h3,h4]) (k:=?_))
 repeat refine QS ?_
 refine vw_loopAt [1, 3, 4] rfl (fun c σ S' => ∃ (k n : Nat), k ≤ bs.length ∧ n ≤ 4096 ∧ c = bs.length - k ∧ Ss.smallFrom n (bs.drop k) = Ss.smallFrom 0 bs ∧ σ = [(1, .ptr (lid S.nx 0) 0), (3, vnat n), (4, vnat k)] ∧ S' = St S [] [some (4, [vl vint fi, vl vint fo, vl vint ts, vl encBlock bs])]) bs.length ?_ ?_
 ·exact ⟨0, 0, by omega, by omega, rfl, rfl, by simp [Fr.only], rfl⟩
 ·rintro c σ T ⟨k, n, hk, hn, rfl, hd, rfl, rfl⟩
  by_cases hkt : k < bs.length
  ·have hw := wrapNat hkt hbl
   have hbk := hbf _ (List.getElem_mem hkt)
   have hst := Ss.drop_small (n := n) hkt
   obtain ⟨⟨ps, code, ⟨tk, ta, to, az⟩⟩, hb⟩ : ∃ b, bs[k] = b := ⟨_, rfl⟩
   rw [hb] at hst hbk
   obtain ⟨_, ⟨hcl0, _⟩, _, _, ⟨htl0, _⟩, _⟩ := hbk
   simp only at hcl0 htl0
   have hcl : code.length < 2^63 := by omega
   have htl : to.length < 2^63 := by omega
   have hwn : IntKind.i64.wrap ((n : Int) + (code.length : Int)) = (n : Int) + (code.length : Int) := wrap_i64 (by omega) (by omega)
   have hS : Ss.Block.small ⟨ps, code, ⟨tk, ta, to, az⟩⟩ = (decide (ps.length ≤ 4096) && decide (to.length ≤ 4096) && decide (az.length ≤ 4096) && code.all Ss.Ins.small && to.all Ss.Edge.small) := rfl
   by_cases g1 : (4096 : Int) < (n : Int) + (code.length : Int)
   ·have e : Ss.smallFrom n (bs.drop k) = false := by rw [hst]; simp; omega
    rw [← hd, e]
    repeat (first|refine QG ?_|refine QX (r:=by conv=>lhs;simp[-List.map_set,QV,hkt,hb,hwn,g1]) (k:=?_))
    exact done_pure hwf rfl rfl
   by_cases g2 : (4096 : Int) < (ps.length : Int)
   ·have e : Ss.smallFrom n (bs.drop k) = false := by rw [hst, hS]; simp; omega
    rw [← hd, e]
    repeat (first|refine QG ?_|refine QX (r:=by conv=>lhs;simp[-List.map_set,QV,hkt,hb,hwn,g1,g2]) (k:=?_))
    exact done_pure hwf rfl rfl
   by_cases g3 : (4096 : Int) < (to.length : Int)
   ·have e : Ss.smallFrom n (bs.drop k) = false := by rw [hst, hS]; simp; omega
    rw [← hd, e]
    repeat (first|refine QG ?_|refine QX (r:=by conv=>lhs;simp[-List.map_set,QV,hkt,hb,hwn,g1,g2,g3]) (k:=?_))
    exact done_pure hwf rfl rfl
   by_cases g4 : (4096 : Int) < (az.length : Int)
   ·have e : Ss.smallFrom n (bs.drop k) = false := by rw [hst, hS]; simp; omega
    rw [← hd, e]
    repeat (first|refine QG ?_|refine QX (r:=by conv=>lhs;simp[-List.map_set,QV,hkt,hb,hwn,g1,g2,g3,g4]) (k:=?_))
    exact done_pure hwf rfl rfl
   rw [show decide (n + code.length ≤ 4096) = true by simp; omega, hS, show decide (ps.length ≤ 4096) = true by simp; omega, show decide (to.length ≤ 4096) = true by simp; omega, show decide (az.length ≤ 4096) = true by simp; omega, Bool.true_and, Bool.true_and, Bool.true_and, Bool.true_and] at hst
   repeat (first|refine QG ?_|refine QX (r:=by conv=>lhs;simp[-List.map_set,QV,hkt,hb,hwn,g1,g2,g3,g4]) (k:=?_))
   repeat refine QS ?_
   refine vw_loopAt [1, 3, 4, 5, 6] rfl (fun c σ S' => ∃ (j : Nat), j ≤ code.length ∧ c = code.length - j ∧ (code.drop j).all Ss.Ins.small = code.all Ss.Ins.small ∧ σ = [(1, .ptr (lid S.nx 0) 0), (3, vnat (n + code.length)), (4, vnat k), (5, .ptr (lid S.nx 1) 0), (6, vnat j)] ∧ S' = St S [] [some (4, [vl vint fi, vl vint fo, vl vint ts, vl encBlock bs]), some (6, [vl vint ps, vl encIns code, vint tk, vint ta, vl encEdge to, vl vint az])]) code.length ?_ ?_
   ·exact ⟨0, by omega, rfl, rfl, by simp [Fr.only], rfl⟩
   ·rintro c σ T ⟨j, hj, rfl, hdj, rfl, rfl⟩
    by_cases hjt : j < code.length
    ·have hwj := wrapNat hjt hcl
     have hstj := Ss.drop_all Ss.Ins.small hjt
     obtain ⟨⟨io, iN, ia, iu⟩, hx⟩ : ∃ b, code[j] = b := ⟨_, rfl⟩
     rw [hx] at hstj
     have hX : Ss.Ins.small ⟨io, iN, ia, iu⟩ = (decide (ia.length ≤ 4096) && decide (iu.length ≤ 4096)) := rfl
     by_cases q1 : (4096 : Int) < (ia.length : Int)
     ·have e : code.all Ss.Ins.small = false := by rw [← hdj, hstj, hX]; simp; omega
      rw [← hd, hst, e]
      repeat (first|refine QG ?_|refine QX (r:=by conv=>lhs;simp[-List.map_set,QV,hjt,hx,q1]) (k:=?_))
      exact done_pure hwf rfl rfl
     by_cases q2 : (4096 : Int) < (iu.length : Int)
     ·have e : code.all Ss.Ins.small = false := by rw [← hdj, hstj, hX]; simp; omega
      rw [← hd, hst, e]
      repeat (first|refine QG ?_|refine QX (r:=by conv=>lhs;simp[-List.map_set,QV,hjt,hx,q1,q2]) (k:=?_))
      exact done_pure hwf rfl rfl
     rw [hX, show decide (ia.length ≤ 4096) = true by simp; omega, show decide (iu.length ≤ 4096) = true by simp; omega, Bool.true_and, Bool.true_and] at hstj
     repeat (first|refine QG ?_|refine QX (r:=by conv=>lhs;simp[-List.map_set,QV,hjt,hx,q1,q2]) (k:=?_))
     show Again _ _ _ _ _ _ _
     exact again ⟨Nat.sub_lt_sub_left hjt (Nat.lt_succ_self j), j + 1, hjt, rfl, by rw [← hdj, hstj], by simp [Fr.only, hwj], rfl⟩
    ·rw [Ss.drop_all_end _ hjt] at hdj
     rw [← hdj, Bool.true_and] at hst
     repeat (first|refine QG ?_|refine QX (r:=by conv=>lhs;simp[-List.map_set,QV,hjt]) (k:=?_))
     repeat refine QS ?_
     refine vw_loopAt [1, 3, 4, 5, 7] rfl (fun c σ S' => ∃ (j : Nat), j ≤ to.length ∧ c = to.length - j ∧ (to.drop j).all Ss.Edge.small = to.all Ss.Edge.small ∧ σ = [(1, .ptr (lid S.nx 0) 0), (3, vnat (n + code.length)), (4, vnat k), (5, .ptr (lid S.nx 1) 0), (7, vnat j)] ∧ S' = St S [] [some (4, [vl vint fi, vl vint fo, vl vint ts, vl encBlock bs]), some (6, [vl vint ps, vl encIns code, vint tk, vint ta, vl encEdge to, vl vint az])]) to.length ?_ ?_
     ·exact ⟨0, by omega, rfl, rfl, by simp [Fr.only], rfl⟩
     ·rintro c σ T ⟨j, hj, rfl, hdj, rfl, rfl⟩
      by_cases hjt : j < to.length
      ·have hwj := wrapNat hjt htl
       have hstj := Ss.drop_all Ss.Edge.small hjt
       obtain ⟨⟨io, ia⟩, hx⟩ : ∃ b, to[j] = b := ⟨_, rfl⟩
       rw [hx] at hstj
       have hX : Ss.Edge.small ⟨io, ia⟩ = decide (ia.length ≤ 4096) := rfl
       by_cases q1 : (4096 : Int) < (ia.length : Int)
       ·have e : to.all Ss.Edge.small = false := by rw [← hdj, hstj, hX]; simp; omega
        rw [← hd, hst, e]
        repeat (first|refine QG ?_|refine QX (r:=by conv=>lhs;simp[-List.map_set,QV,hjt,hx,q1]) (k:=?_))
        exact done_pure hwf rfl rfl
       rw [hX, show decide (ia.length ≤ 4096) = true by simp; omega, Bool.true_and] at hstj
       repeat (first|refine QG ?_|refine QX (r:=by conv=>lhs;simp[-List.map_set,QV,hjt,hx,q1]) (k:=?_))
       show Again _ _ _ _ _ _ _
       exact again ⟨Nat.sub_lt_sub_left hjt (Nat.lt_succ_self j), j + 1, hjt, rfl, by rw [← hdj, hstj], by simp [Fr.only, hwj], rfl⟩
      ·rw [Ss.drop_all_end _ hjt] at hdj
       rw [← hdj, Bool.true_and] at hst
       repeat (first|refine QG ?_|refine QX (r:=by conv=>lhs;simp[-List.map_set,QV,hjt,hw]) (k:=?_))
       refine QA [0] (h:=⟨?_, k + 1, n + code.length, hkt, by omega, rfl, by rw [← hd, hst], by simp, rfl⟩)
       omega
  ·rw [Ss.drop_small_end hkt] at hd
   rw [← hd]
   repeat (first|refine QG ?_|refine QX (r:=by conv=>lhs;simp[-List.map_set,QV,hkt]) (k:=?_))
   exact done_pure hwf rfl rfl
end Go.Vw

namespace Go.Vw
open Go.Proofs Go.RowKit
set_option maxRecDepth 10000
set_option maxHeartbeats 4000000
def findI {α : Type} (p : α → Bool) : List α → Nat → Int
 | [], _ => -1
 | x :: xs, k => if p x then (k : Int) else findI p xs (k + 1)
theorem findI_any {α : Type} (p : α → Bool) : ∀ (l : List α) (k : Nat), decide (0 ≤ findI p l k) = l.any p
 | [], k => by simp [findI]
 | x :: xs, k => by
   cases h : p x
   ·simp [findI, h, findI_any p xs (k + 1)]
   ·simp [findI, h]
def eqF {α : Type} (p : α → α → Bool) : List α → List α → Bool
 | [], [] => true
 | x :: xs, y :: ys => p x y && eqF p xs ys
 | _, _ => false
theorem eqF_len {α : Type} {p : α → α → Bool} : ∀ {l m : List α}, ¬ l.length = m.length → eqF p l m = false
 | [], [], h => absurd rfl h
 | [], _ :: _, _ => rfl
 | _ :: _, [], _ => rfl
 | x :: xs, y :: ys, h => by rw [eqF, eqF_len (l := xs) (m := ys) (by simpa using h)]; simp
theorem eqF_eq {α : Type} [DecidableEq α] {p : α → α → Bool} (hp : ∀ x y, p x y = decide (x = y)) : ∀ (l m : List α), eqF p l m = decide (l = m)
 | [], [] => by simp [eqF]
 | [], _ :: _ => by simp [eqF]
 | _ :: _, [] => by simp [eqF]
 | x :: xs, y :: ys => by rw [eqF, hp, eqF_eq hp xs ys]; simp
theorem IndexL_v (l : List (List Int)) (p : List Int → Bool) (fid : FuncId) (caps : List V) (hc : callable Try.prog fid = true) (hl : l.length < 2^63) (h : ∀ x ∈ l, VPure Try.prog fid ([vl vint x] ++ caps) (.bool (p x))) :
  VPure Try.prog 106 [vl (vl vint) l, .func fid caps] (vint (findI p l 0)) := by
 intro S
 refine vcalls_start (c := bodyOf Try.f106) Try.func106 rfl rfl (by simp [Try.ntmps106]) ?_
 rw [Try.ntmps106]
 intro hwf
 repeat (first|refine QG ?_|refine QX (r:=by conv=>lhs;simp[-List.map_set,QV]) (k:=?_))
 repeat refine QS ?_
 refine vw_loopAt [0, 1, 7, 8] rfl (fun c σ S' => ∃ (k : Nat), k ≤ l.length ∧ c = l.length - k ∧ findI p (l.drop k) k = findI p l 0 ∧ σ = [(0, vl (vl vint) l), (1, .func fid caps), (7, vnat l.length), (8, vnat k)] ∧ S' = St S [] []) l.length ?_ ?_
 ·exact ⟨0, by omega, rfl, rfl, by simp [Fr.only], rfl⟩
 ·rintro c σ T ⟨k, hk, rfl, hd, rfl, rfl⟩
  by_cases hkt : k < l.length
  ·have hst : findI p (l.drop k) k = if p l[k] then (k : Int) else findI p (l.drop (k + 1)) (k + 1) := by rw [List.drop_eq_getElem_cons hkt, findI]
   have hw := wrapNat hkt hl
   repeat (first|refine QG ?_|refine QX (r:=by conv=>lhs;simp[-List.map_set,QV,hkt]) (k:=?_))
   repeat refine QS ?_
   refine QR (r:=by conv=>lhs;simp[-List.map_set,QV,hkt]) (k:=?_)
   refine vcallv_use rfl hc rfl (h _ (List.getElem_mem hkt)) ?_
   refine QM (by conv=>lhs;simp[-List.map_set,QV]) ?_
   refine QN ?_
   cases hp : p l[k] with
   | true =>
    rw [hp] at hst
    repeat (first|refine QG ?_|refine QX (r:=by conv=>lhs;simp[-List.map_set,QV,hp]) (k:=?_))
    exact done_pure hwf (by rw [← hd, hst]; rfl) rfl
   | false =>
    rw [hp] at hst
    repeat (first|refine QG ?_|refine QX (r:=by conv=>lhs;simp[-List.map_set,QV,hp]) (k:=?_))
    show Again _ _ _ _ _ _ _
    exact again ⟨Nat.sub_lt_sub_left hkt (Nat.lt_succ_self k), k + 1, hkt, rfl, by rw [← hd, hst]; rfl, by simp [Fr.only, hw], rfl⟩
  ·have e : l.drop k = [] := by rw [List.drop_eq_nil_iff]; omega
   rw [e] at hd
   repeat (first|refine QG ?_|refine QX (r:=by conv=>lhs;simp[-List.map_set,QV,hkt]) (k:=?_))
   exact done_pure hwf (by rw [← hd]; rfl) rfl
theorem AnyL_v (l : List (List Int)) (p : List Int → Bool) (fid : FuncId) (caps : List V) (hc : callable Try.prog fid = true) (hl : l.length < 2^63) (h : ∀ x ∈ l, VPure Try.prog fid ([vl vint x] ++ caps) (.bool (p x))) :
  VPure Try.prog 90 [vl (vl vint) l, .func fid caps] (.bool (l.any p)) := by
 intro S
 refine vcalls_start (c := bodyOf Try.f90) Try.func90 rfl rfl (by simp [Try.ntmps90]) ?_
 rw [Try.ntmps90]
 intro hwf
 rw [← findI_any p l 0]
 repeat (first|refine QG ?_|refine QX (r:=by conv=>lhs;simp[-List.map_set,QV]) (k:=?_))
 repeat refine QS ?_
 refine QR (r:=by conv=>lhs;simp[-List.map_set,QV]) (k:=?_)
 refine vcall_use rfl (IndexL_v l p fid caps hc hl h) ?_
 refine QM (by conv=>lhs;simp[-List.map_set,QV]) ?_
 refine QN ?_
 repeat (first|refine QG ?_|refine QX (r:=by conv=>lhs;simp[-List.map_set,QV]) (k:=?_))
 exact done_pure hwf rfl rfl
theorem IndexI_v (l : List (Int)) (p : Int → Bool) (fid : FuncId) (caps : List V) (hc : callable Try.prog fid = true) (hl : l.length < 2^63) (h : ∀ x ∈ l, VPure Try.prog fid ([vint x] ++ caps) (.bool (p x))) :
  VPure Try.prog 92 [vl (vint) l, .func fid caps] (vint (findI p l 0)) := by
 intro S
 refine vcalls_start (c := bodyOf Try.f92) Try.func92 rfl rfl (by simp [Try.ntmps92]) ?_
 rw [Try.ntmps92]
 intro hwf
 repeat (first|refine QG ?_|refine QX (r:=by conv=>lhs;simp[-List.map_set,QV]) (k:=?_))
 repeat refine QS ?_
 refine vw_loopAt [0, 1, 7, 8] rfl (fun c σ S' => ∃ (k : Nat), k ≤ l.length ∧ c = l.length - k ∧ findI p (l.drop k) k = findI p l 0 ∧ σ = [(0, vl (vint) l), (1, .func fid caps), (7, vnat l.length), (8, vnat k)] ∧ S' = St S [] []) l.length ?_ ?_
 ·exact ⟨0, by omega, rfl, rfl, by simp [Fr.only], rfl⟩
 ·rintro c σ T ⟨k, hk, rfl, hd, rfl, rfl⟩
  by_cases hkt : k < l.length
  ·have hst : findI p (l.drop k) k = if p l[k] then (k : Int) else findI p (l.drop (k + 1)) (k + 1) := by rw [List.drop_eq_getElem_cons hkt, findI]
   have hw := wrapNat hkt hl
   repeat (first|refine QG ?_|refine QX (r:=by conv=>lhs;simp[-List.map_set,QV,hkt]) (k:=?_))
   repeat refine QS ?_
   refine QR (r:=by conv=>lhs;simp[-List.map_set,QV,hkt]) (k:=?_)
   refine vcallv_use rfl hc rfl (h _ (List.getElem_mem hkt)) ?_
   refine QM (by conv=>lhs;simp[-List.map_set,QV]) ?_
   refine QN ?_
   cases hp : p l[k] with
   | true =>
    rw [hp] at hst
    repeat (first|refine QG ?_|refine QX (r:=by conv=>lhs;simp[-List.map_set,QV,hp]) (k:=?_))
    exact done_pure hwf (by rw [← hd, hst]; rfl) rfl
   | false =>
    rw [hp] at hst
    repeat (first|refine QG ?_|refine QX (r:=by conv=>lhs;simp[-List.map_set,QV,hp]) (k:=?_))
    show Again _ _ _ _ _ _ _
    exact again ⟨Nat.sub_lt_sub_left hkt (Nat.lt_succ_self k), k + 1, hkt, rfl, by rw [← hd, hst]; rfl, by simp [Fr.only, hw], rfl⟩
  ·have e : l.drop k = [] := by rw [List.drop_eq_nil_iff]; omega
   rw [e] at hd
   repeat (first|refine QG ?_|refine QX (r:=by conv=>lhs;simp[-List.map_set,QV,hkt]) (k:=?_))
   exact done_pure hwf (by rw [← hd]; rfl) rfl
theorem AnyI_v (l : List (Int)) (p : Int → Bool) (fid : FuncId) (caps : List V) (hc : callable Try.prog fid = true) (hl : l.length < 2^63) (h : ∀ x ∈ l, VPure Try.prog fid ([vint x] ++ caps) (.bool (p x))) :
  VPure Try.prog 73 [vl (vint) l, .func fid caps] (.bool (l.any p)) := by
 intro S
 refine vcalls_start (c := bodyOf Try.f73) Try.func73 rfl rfl (by simp [Try.ntmps73]) ?_
 rw [Try.ntmps73]
 intro hwf
 rw [← findI_any p l 0]
 repeat (first|refine QG ?_|refine QX (r:=by conv=>lhs;simp[-List.map_set,QV]) (k:=?_))
 repeat refine QS ?_
 refine QR (r:=by conv=>lhs;simp[-List.map_set,QV]) (k:=?_)
 refine vcall_use rfl (IndexI_v l p fid caps hc hl h) ?_
 refine QM (by conv=>lhs;simp[-List.map_set,QV]) ?_
 refine QN ?_
 repeat (first|refine QG ?_|refine QX (r:=by conv=>lhs;simp[-List.map_set,QV]) (k:=?_))
 exact done_pure hwf rfl rfl
theorem IndexB_v (l : List (Ss.Block)) (p : Ss.Block → Bool) (fid : FuncId) (caps : List V) (hc : callable Try.prog fid = true) (hl : l.length < 2^63) (h : ∀ x ∈ l, VPure Try.prog fid ([encBlock x] ++ caps) (.bool (p x))) :
  VPure Try.prog 76 [vl (encBlock) l, .func fid caps] (vint (findI p l 0)) := by
 intro S
 refine vcalls_start (c := bodyOf Try.f76) Try.func76 rfl rfl (by simp [Try.ntmps76]) ?_
 rw [Try.ntmps76]
 intro hwf
 repeat (first|refine QG ?_|refine QX (r:=by conv=>lhs;simp[-List.map_set,QV]) (k:=?_))
 repeat refine QS ?_
 refine vw_loopAt [0, 1, 7, 8] rfl (fun c σ S' => ∃ (k : Nat), k ≤ l.length ∧ c = l.length - k ∧ findI p (l.drop k) k = findI p l 0 ∧ σ = [(0, vl (encBlock) l), (1, .func fid caps), (7, vnat l.length), (8, vnat k)] ∧ S' = St S [] []) l.length ?_ ?_
 ·exact ⟨0, by omega, rfl, rfl, by simp [Fr.only], rfl⟩
 ·rintro c σ T ⟨k, hk, rfl, hd, rfl, rfl⟩
  by_cases hkt : k < l.length
  ·have hst : findI p (l.drop k) k = if p l[k] then (k : Int) else findI p (l.drop (k + 1)) (k + 1) := by rw [List.drop_eq_getElem_cons hkt, findI]
   have hw := wrapNat hkt hl
   repeat (first|refine QG ?_|refine QX (r:=by conv=>lhs;simp[-List.map_set,QV,hkt]) (k:=?_))
   repeat refine QS ?_
   refine QR (r:=by conv=>lhs;simp[-List.map_set,QV,hkt]) (k:=?_)
   refine vcallv_use rfl hc rfl (h _ (List.getElem_mem hkt)) ?_
   refine QM (by conv=>lhs;simp[-List.map_set,QV]) ?_
   refine QN ?_
   cases hp : p l[k] with
   | true =>
    rw [hp] at hst
    repeat (first|refine QG ?_|refine QX (r:=by conv=>lhs;simp[-List.map_set,QV,hp]) (k:=?_))
    exact done_pure hwf (by rw [← hd, hst]; rfl) rfl
   | false =>
    rw [hp] at hst
    repeat (first|refine QG ?_|refine QX (r:=by conv=>lhs;simp[-List.map_set,QV,hp]) (k:=?_))
    show Again _ _ _ _ _ _ _
    exact again ⟨Nat.sub_lt_sub_left hkt (Nat.lt_succ_self k), k + 1, hkt, rfl, by rw [← hd, hst]; rfl, by simp [Fr.only, hw], rfl⟩
  ·have e : l.drop k = [] := by rw [List.drop_eq_nil_iff]; omega
   rw [e] at hd
   repeat (first|refine QG ?_|refine QX (r:=by conv=>lhs;simp[-List.map_set,QV,hkt]) (k:=?_))
   exact done_pure hwf (by rw [← hd]; rfl) rfl
theorem AnyB_v (l : List (Ss.Block)) (p : Ss.Block → Bool) (fid : FuncId) (caps : List V) (hc : callable Try.prog fid = true) (hl : l.length < 2^63) (h : ∀ x ∈ l, VPure Try.prog fid ([encBlock x] ++ caps) (.bool (p x))) :
  VPure Try.prog 47 [vl (encBlock) l, .func fid caps] (.bool (l.any p)) := by
 intro S
 refine vcalls_start (c := bodyOf Try.f47) Try.func47 rfl rfl (by simp [Try.ntmps47]) ?_
 rw [Try.ntmps47]
 intro hwf
 rw [← findI_any p l 0]
 repeat (first|refine QG ?_|refine QX (r:=by conv=>lhs;simp[-List.map_set,QV]) (k:=?_))
 repeat refine QS ?_
 refine QR (r:=by conv=>lhs;simp[-List.map_set,QV]) (k:=?_)
 refine vcall_use rfl (IndexB_v l p fid caps hc hl h) ?_
 refine QM (by conv=>lhs;simp[-List.map_set,QV]) ?_
 refine QN ?_
 repeat (first|refine QG ?_|refine QX (r:=by conv=>lhs;simp[-List.map_set,QV]) (k:=?_))
 exact done_pure hwf rfl rfl
theorem IndexS_v (l : List (Ss.Sig)) (p : Ss.Sig → Bool) (fid : FuncId) (caps : List V) (hc : callable Try.prog fid = true) (hl : l.length < 2^63) (h : ∀ x ∈ l, VPure Try.prog fid ([encSig x] ++ caps) (.bool (p x))) :
  VPure Try.prog 89 [vl (encSig) l, .func fid caps] (vint (findI p l 0)) := by
 intro S
 refine vcalls_start (c := bodyOf Try.f89) Try.func89 rfl rfl (by simp [Try.ntmps89]) ?_
 rw [Try.ntmps89]
 intro hwf
 repeat (first|refine QG ?_|refine QX (r:=by conv=>lhs;simp[-List.map_set,QV]) (k:=?_))
 repeat refine QS ?_
 refine vw_loopAt [0, 1, 7, 8] rfl (fun c σ S' => ∃ (k : Nat), k ≤ l.length ∧ c = l.length - k ∧ findI p (l.drop k) k = findI p l 0 ∧ σ = [(0, vl (encSig) l), (1, .func fid caps), (7, vnat l.length), (8, vnat k)] ∧ S' = St S [] []) l.length ?_ ?_
 ·exact ⟨0, by omega, rfl, rfl, by simp [Fr.only], rfl⟩
 ·rintro c σ T ⟨k, hk, rfl, hd, rfl, rfl⟩
  by_cases hkt : k < l.length
  ·have hst : findI p (l.drop k) k = if p l[k] then (k : Int) else findI p (l.drop (k + 1)) (k + 1) := by rw [List.drop_eq_getElem_cons hkt, findI]
   have hw := wrapNat hkt hl
   repeat (first|refine QG ?_|refine QX (r:=by conv=>lhs;simp[-List.map_set,QV,hkt]) (k:=?_))
   repeat refine QS ?_
   refine QR (r:=by conv=>lhs;simp[-List.map_set,QV,hkt]) (k:=?_)
   refine vcallv_use rfl hc rfl (h _ (List.getElem_mem hkt)) ?_
   refine QM (by conv=>lhs;simp[-List.map_set,QV]) ?_
   refine QN ?_
   cases hp : p l[k] with
   | true =>
    rw [hp] at hst
    repeat (first|refine QG ?_|refine QX (r:=by conv=>lhs;simp[-List.map_set,QV,hp]) (k:=?_))
    exact done_pure hwf (by rw [← hd, hst]; rfl) rfl
   | false =>
    rw [hp] at hst
    repeat (first|refine QG ?_|refine QX (r:=by conv=>lhs;simp[-List.map_set,QV,hp]) (k:=?_))
    show Again _ _ _ _ _ _ _
    exact again ⟨Nat.sub_lt_sub_left hkt (Nat.lt_succ_self k), k + 1, hkt, rfl, by rw [← hd, hst]; rfl, by simp [Fr.only, hw], rfl⟩
  ·have e : l.drop k = [] := by rw [List.drop_eq_nil_iff]; omega
   rw [e] at hd
   repeat (first|refine QG ?_|refine QX (r:=by conv=>lhs;simp[-List.map_set,QV,hkt]) (k:=?_))
   exact done_pure hwf (by rw [← hd]; rfl) rfl
theorem AnyS_v (l : List (Ss.Sig)) (p : Ss.Sig → Bool) (fid : FuncId) (caps : List V) (hc : callable Try.prog fid = true) (hl : l.length < 2^63) (h : ∀ x ∈ l, VPure Try.prog fid ([encSig x] ++ caps) (.bool (p x))) :
  VPure Try.prog 70 [vl (encSig) l, .func fid caps] (.bool (l.any p)) := by
 intro S
 refine vcalls_start (c := bodyOf Try.f70) Try.func70 rfl rfl (by simp [Try.ntmps70]) ?_
 rw [Try.ntmps70]
 intro hwf
 rw [← findI_any p l 0]
 repeat (first|refine QG ?_|refine QX (r:=by conv=>lhs;simp[-List.map_set,QV]) (k:=?_))
 repeat refine QS ?_
 refine QR (r:=by conv=>lhs;simp[-List.map_set,QV]) (k:=?_)
 refine vcall_use rfl (IndexS_v l p fid caps hc hl h) ?_
 refine QM (by conv=>lhs;simp[-List.map_set,QV]) ?_
 refine QN ?_
 repeat (first|refine QG ?_|refine QX (r:=by conv=>lhs;simp[-List.map_set,QV]) (k:=?_))
 exact done_pure hwf rfl rfl
theorem IndexN_v (l : List (Ss.Ins)) (p : Ss.Ins → Bool) (fid : FuncId) (caps : List V) (hc : callable Try.prog fid = true) (hl : l.length < 2^63) (h : ∀ x ∈ l, VPure Try.prog fid ([encIns x] ++ caps) (.bool (p x))) :
  VPure Try.prog 62 [vl (encIns) l, .func fid caps] (vint (findI p l 0)) := by
 intro S
 refine vcalls_start (c := bodyOf Try.f62) Try.func62 rfl rfl (by simp [Try.ntmps62]) ?_
 rw [Try.ntmps62]
 intro hwf
 repeat (first|refine QG ?_|refine QX (r:=by conv=>lhs;simp[-List.map_set,QV]) (k:=?_))
 repeat refine QS ?_
 refine vw_loopAt [0, 1, 7, 8] rfl (fun c σ S' => ∃ (k : Nat), k ≤ l.length ∧ c = l.length - k ∧ findI p (l.drop k) k = findI p l 0 ∧ σ = [(0, vl (encIns) l), (1, .func fid caps), (7, vnat l.length), (8, vnat k)] ∧ S' = St S [] []) l.length ?_ ?_
 ·exact ⟨0, by omega, rfl, rfl, by simp [Fr.only], rfl⟩
 ·rintro c σ T ⟨k, hk, rfl, hd, rfl, rfl⟩
  by_cases hkt : k < l.length
  ·have hst : findI p (l.drop k) k = if p l[k] then (k : Int) else findI p (l.drop (k + 1)) (k + 1) := by rw [List.drop_eq_getElem_cons hkt, findI]
   have hw := wrapNat hkt hl
   repeat (first|refine QG ?_|refine QX (r:=by conv=>lhs;simp[-List.map_set,QV,hkt]) (k:=?_))
   repeat refine QS ?_
   refine QR (r:=by conv=>lhs;simp[-List.map_set,QV,hkt]) (k:=?_)
   refine vcallv_use rfl hc rfl (h _ (List.getElem_mem hkt)) ?_
   refine QM (by conv=>lhs;simp[-List.map_set,QV]) ?_
   refine QN ?_
   cases hp : p l[k] with
   | true =>
    rw [hp] at hst
    repeat (first|refine QG ?_|refine QX (r:=by conv=>lhs;simp[-List.map_set,QV,hp]) (k:=?_))
    exact done_pure hwf (by rw [← hd, hst]; rfl) rfl
   | false =>
    rw [hp] at hst
    repeat (first|refine QG ?_|refine QX (r:=by conv=>lhs;simp[-List.map_set,QV,hp]) (k:=?_))
    show Again _ _ _ _ _ _ _
    exact again ⟨Nat.sub_lt_sub_left hkt (Nat.lt_succ_self k), k + 1, hkt, rfl, by rw [← hd, hst]; rfl, by simp [Fr.only, hw], rfl⟩
  ·have e : l.drop k = [] := by rw [List.drop_eq_nil_iff]; omega
   rw [e] at hd
   repeat (first|refine QG ?_|refine QX (r:=by conv=>lhs;simp[-List.map_set,QV,hkt]) (k:=?_))
   exact done_pure hwf (by rw [← hd]; rfl) rfl
theorem AnyN_v (l : List (Ss.Ins)) (p : Ss.Ins → Bool) (fid : FuncId) (caps : List V) (hc : callable Try.prog fid = true) (hl : l.length < 2^63) (h : ∀ x ∈ l, VPure Try.prog fid ([encIns x] ++ caps) (.bool (p x))) :
  VPure Try.prog 94 [vl (encIns) l, .func fid caps] (.bool (l.any p)) := by
 intro S
 refine vcalls_start (c := bodyOf Try.f94) Try.func94 rfl rfl (by simp [Try.ntmps94]) ?_
 rw [Try.ntmps94]
 intro hwf
 rw [← findI_any p l 0]
 repeat (first|refine QG ?_|refine QX (r:=by conv=>lhs;simp[-List.map_set,QV]) (k:=?_))
 repeat refine QS ?_
 refine QR (r:=by conv=>lhs;simp[-List.map_set,QV]) (k:=?_)
 refine vcall_use rfl (IndexN_v l p fid caps hc hl h) ?_
 refine QM (by conv=>lhs;simp[-List.map_set,QV]) ?_
 refine QN ?_
 repeat (first|refine QG ?_|refine QX (r:=by conv=>lhs;simp[-List.map_set,QV]) (k:=?_))
 exact done_pure hwf rfl rfl
end Go.Vw

namespace Go.Vw
open Go.Proofs Go.RowKit
set_option maxRecDepth 10000
set_option maxHeartbeats 8000000
theorem short1_v (l : List Int) : VPure Try.prog 91 ([vl vint l] ++ []) (.bool (decide (4096 < l.length))) := by
 intro S
 refine vcalls_start (c := bodyOf Try.f91) Try.func91 rfl rfl (by simp [Try.ntmps91]) ?_
 rw [Try.ntmps91]
 intro hwf
 repeat (first|refine QG ?_|refine QX (r:=by conv=>lhs;simp[-List.map_set,QV]) (k:=?_))
 exact done_pure hwf (by simp; omega) rfl
theorem short_v (ls : List (List Int)) (hl : ls.length < 2^63) : VPure Try.prog 72 [vl (vl vint) ls] (.bool (Ss.shortL ls)) := by
 intro S
 have e : (!ls.any fun l => decide (4096 < l.length)) = Ss.shortL ls := by
  rw [Ss.shortL, List.not_any_eq_all_not]
  congr 1; funext l; by_cases h : l.length ≤ 4096 <;> simp [h] <;> omega
 rw [← e]
 refine vcalls_start (c := bodyOf Try.f72) Try.func72 rfl rfl (by simp [Try.ntmps72]) ?_
 rw [Try.ntmps72]
 intro hwf
 repeat (first|refine QG ?_|refine QX (r:=by conv=>lhs;simp[-List.map_set,QV]) (k:=?_))
 repeat refine QS ?_
 refine QR (r:=by conv=>lhs;simp[-List.map_set,QV]) (k:=?_)
 refine vcall_use rfl (AnyL_v ls (fun l => decide (4096 < l.length)) _ [] rfl hl (fun l _ => short1_v l)) ?_
 refine QM (by conv=>lhs;simp[-List.map_set,QV]) ?_
 refine QN ?_
 repeat (first|refine QG ?_|refine QX (r:=by conv=>lhs;simp[-List.map_set,QV]) (k:=?_))
 exact done_pure hwf rfl rfl
theorem shortL_1 (a : List Int) : Ss.shortL [a] = decide (a.length ≤ 4096) := by simp [Ss.shortL]
theorem shortL_2 (a b : List Int) : Ss.shortL [a, b] = (decide (a.length ≤ 4096) && decide (b.length ≤ 4096)) := by simp [Ss.shortL]
theorem shortL_3 (a b c : List Int) : Ss.shortL [a, b, c] = (decide (a.length ≤ 4096) && decide (b.length ≤ 4096) && decide (c.length ≤ 4096)) := by simp [Ss.shortL, Bool.and_assoc]
theorem small_v (f : Ss.Fn) (hf : f.Fits) : VPure Try.prog 44 [encFn f] (.bool f.small) := by
 intro S
 obtain ⟨⟨fi, fo⟩, ts, bs⟩ := f
 obtain ⟨_, _, hbl0, hbf⟩ := hf
 simp only at hbl0 hbf
 have hbl : bs.length < 2^63 := by omega
 refine vcalls_start (c := bodyOf Try.f44) Try.func44 rfl rfl (by simp [Try.ntmps44]) ?_
 rw [Try.ntmps44]
 intro hwf
 repeat (first|refine QG ?_|refine QX (r:=by conv=>lhs;simp[-List.map_set,QV]) (k:=?_))
 repeat refine QS ?_
 refine QR (r:=by conv=>lhs;simp[-List.map_set,QV]) (k:=?_)
 refine vcall_useG (xs' := [vl (vl vint) [ts, fi, fo]]) rfl (GhostArgs.one [] [] (frz1 (k := 1) (len := 3) (by simp) rfl rfl rfl)) (short_v _ (by simp)) ?_
 simp only [List.set_cons_succ, List.set_cons_zero]
 cases h1 : Ss.shortL [ts, fi, fo] with
 | false =>
  refine QM (by conv=>lhs;simp[-List.map_set,QV,h1]) ?_
  refine QN ?_
  repeat (first|refine QG ?_|refine QX (r:=by conv=>lhs;simp[-List.map_set,QV]) (k:=?_))
  refine done_pure hwf ?_ rfl
  rw [shortL_3] at h1
  simp [Ss.Fn.small, Ss.Fn.heads] at h1 ⊢
  omega
 | true =>
 by_cases h2 : (4096 : Int) < (bs.length : Int)
 ·refine QM (by conv=>lhs;simp[-List.map_set,QV,h1,h2]) ?_
  refine QN ?_
  repeat (first|refine QG ?_|refine QX (r:=by conv=>lhs;simp[-List.map_set,QV]) (k:=?_))
  exact done_pure hwf (by simp [Ss.Fn.small, Ss.Fn.heads]; omega) rfl
 have hh : Ss.Fn.small ⟨⟨fi, fo⟩, ts, bs⟩ = Ss.smallFrom 0 bs := by
  have : Ss.Fn.heads ⟨⟨fi, fo⟩, ts, bs⟩ = true := by rw [shortL_3] at h1; simp [Ss.Fn.heads] at h1 ⊢; omega
  simp [Ss.Fn.small, this]
 rw [hh]
 refine QM (by conv=>lhs;simp[-List.map_set,QV,h1,h2]) ?_
 refine QN ?_
 repeat (first|refine QG ?_|refine QX (r:=by conv=>lhs;simp[-List.map_set,QV]) (k:=?_))
 refine vw_only' [3, 28, 29, 30] (by conv => lhs; simp [Fr.only, Fr.look]) ?_
 refine vw_gc [0] hwf (by decide) (by simp [-List.map_set]) (by conv => lhs; simp [-List.map_set]) (by conv => lhs; simp [-List.map_set]) (by conv => lhs; simp [-List.map_set]) ?_
 repeat refine QS ?_
 refine vw_loopAt [3, 28, 29, 30] rfl (fun c σ S' => ∃ (k n : Nat), k ≤ bs.length ∧ n ≤ 4096 ∧ c = bs.length - k ∧ Ss.smallFrom n (bs.drop k) = Ss.smallFrom 0 bs ∧ σ = [(3, vint (4096 - (n : Int))), (28, vl encBlock bs), (29, vnat bs.length), (30, vnat k)] ∧ S' = St S [] [some (4, [vl vint fi, vl vint fo, vl vint ts, vl encBlock bs])]) bs.length ?_ ?_
 ·exact ⟨0, 0, by omega, by omega, rfl, rfl, by simp [Fr.only], rfl⟩
 ·rintro c σ T ⟨k, n, hk, hn, rfl, hd, rfl, rfl⟩
  by_cases hkt : k < bs.length
  ·have hw := wrapNat hkt hbl
   have hbk := hbf _ (List.getElem_mem hkt)
   have hst := Ss.drop_small (n := n) hkt
   obtain ⟨⟨ps, code, ⟨tk, ta, to, az⟩⟩, hb⟩ : ∃ b, bs[k] = b := ⟨_, rfl⟩
   rw [hb] at hst hbk
   obtain ⟨_, ⟨hcl0, _⟩, _, _, ⟨htl0, _⟩, _⟩ := hbk
   simp only at hcl0 htl0
   have hcl : code.length < 2^63 := by omega
   have htl : to.length < 2^63 := by omega
   have hwn : IntKind.i64.wrap (4096 - (n : Int) - (code.length : Int)) = 4096 - (n : Int) - (code.length : Int) := wrap_i64 (by omega) (by omega)
   have hS : Ss.Block.small ⟨ps, code, ⟨tk, ta, to, az⟩⟩ = (decide (ps.length ≤ 4096) && decide (to.length ≤ 4096) && decide (az.length ≤ 4096) && code.all Ss.Ins.small && to.all Ss.Edge.small) := rfl
   by_cases g1 : 4096 - (n : Int) - (code.length : Int) < 0
   ·have e : Ss.smallFrom n (bs.drop k) = false := by rw [hst]; simp; omega
    rw [← hd, e]
    repeat (first|refine QG ?_|refine QX (r:=by conv=>lhs;simp[-List.map_set,QV,hkt,hb,hwn,g1]) (k:=?_))
    exact done_pure hwf rfl rfl
   repeat (first|refine QG ?_|refine QX (r:=by conv=>lhs;simp[-List.map_set,QV,hkt,hb,hwn,g1]) (k:=?_))
   repeat refine QS ?_
   refine QR (r:=by conv=>lhs;simp[-List.map_set,QV,hkt,hb,hwn,g1]) (k:=?_)
   refine vcall_useG (xs' := [vl (vl vint) [ps, az]]) rfl (GhostArgs.one [] [] (frz1 (k := 2) (len := 2) (by simp) rfl rfl rfl)) (short_v _ (by simp)) ?_
   simp only [List.set_cons_succ, List.set_cons_zero]
   cases g2 : Ss.shortL [ps, az] with
   | false =>
    have e : Ss.smallFrom n (bs.drop k) = false := by rw [shortL_2] at g2; rw [hst, hS]; simp at g2 ⊢; omega
    rw [← hd, e]
    refine QM (by conv=>lhs;simp[-List.map_set,QV,g2]) ?_
    refine QN ?_
    repeat (first|refine QG ?_|refine QX (r:=by conv=>lhs;simp[-List.map_set,QV]) (k:=?_))
    exact done_pure hwf rfl rfl
   | true =>
   by_cases g3 : (4096 : Int) < (to.length : Int)
   ·have e : Ss.smallFrom n (bs.drop k) = false := by rw [hst, hS]; simp; omega
    rw [← hd, e]
    refine QM (by conv=>lhs;simp[-List.map_set,QV,g2,g3]) ?_
    refine QN ?_
    repeat (first|refine QG ?_|refine QX (r:=by conv=>lhs;simp[-List.map_set,QV]) (k:=?_))
    exact done_pure hwf rfl rfl
   rw [shortL_2] at g2
   have g2' : ps.length ≤ 4096 ∧ az.length ≤ 4096 := by simpa using g2
   rw [show decide (n + code.length ≤ 4096) = true by simp; omega, hS, show decide (ps.length ≤ 4096) = true by simp; omega, show decide (to.length ≤ 4096) = true by simp; omega, show decide (az.length ≤ 4096) = true by simp; omega, Bool.true_and, Bool.true_and, Bool.true_and, Bool.true_and] at hst
   rw [← shortL_2] at g2
   refine QM (by conv=>lhs;simp[-List.map_set,QV,g2,g3]) ?_
   refine QN ?_
   repeat (first|refine QG ?_|refine QX (r:=by conv=>lhs;simp[-List.map_set,QV]) (k:=?_))
   refine vw_only' [3, 5, 28, 29, 30, 59, 60, 61] (by conv => lhs; simp [Fr.only, Fr.look]) ?_
   refine vw_gc [0, 1] hwf (by decide) (by simp [-List.map_set]) (by conv => lhs; simp [-List.map_set]) (by conv => lhs; simp [-List.map_set]) (by conv => lhs; simp [-List.map_set]) ?_
   repeat refine QS ?_
   refine vw_loopAt [3, 5, 28, 29, 30, 59, 60, 61] rfl (fun c σ S' => ∃ (j : Nat), j ≤ code.length ∧ c = code.length - j ∧ (code.drop j).all Ss.Ins.small = code.all Ss.Ins.small ∧ σ = [(3, vint (4096 - (n : Int) - (code.length : Int))), (5, .ptr (lid S.nx 1) 0), (28, vl encBlock bs), (29, vnat bs.length), (30, vnat k), (59, vl encIns code), (60, vnat code.length), (61, vnat j)] ∧ S' = St S [] [some (4, [vl vint fi, vl vint fo, vl vint ts, vl encBlock bs]), some (6, [vl vint ps, vl encIns code, .int .i64 tk, .int .i64 ta, vl encEdge to, vl vint az])]) code.length ?_ ?_
   ·exact ⟨0, by omega, rfl, rfl, by simp [Fr.only], rfl⟩
   ·rintro c σ T ⟨j, hj, rfl, hdj, rfl, rfl⟩
    by_cases hjt : j < code.length
    ·have hwj := wrapNat hjt hcl
     have hstj := Ss.drop_all Ss.Ins.small hjt
     obtain ⟨⟨io, iN, ia, iu⟩, hx⟩ : ∃ b, code[j] = b := ⟨_, rfl⟩
     rw [hx] at hstj
     have hX : Ss.Ins.small ⟨io, iN, ia, iu⟩ = Ss.shortL [ia, iu] := (shortL_2 _ _).symm
     rw [hX] at hstj
     repeat (first|refine QG ?_|refine QX (r:=by conv=>lhs;simp[-List.map_set,QV,hjt,hx]) (k:=?_))
     repeat refine QS ?_
     refine QR (r:=by conv=>lhs;simp[-List.map_set,QV,hjt,hx]) (k:=?_)
     refine vcall_useG (xs' := [vl (vl vint) [ia, iu]]) rfl (GhostArgs.one [] [] (frz1 (k := 3) (len := 2) (by simp) rfl rfl rfl)) (short_v _ (by simp)) ?_
     simp only [List.set_cons_succ, List.set_cons_zero]
     cases q1 : Ss.shortL [ia, iu] with
     | false =>
      rw [q1, Bool.false_and] at hstj
      have e : code.all Ss.Ins.small = false := by rw [← hdj, hstj]
      rw [← hd, hst, e]
      refine QM (by conv=>lhs;simp[-List.map_set,QV,q1]) ?_
      refine QN ?_
      repeat (first|refine QG ?_|refine QX (r:=by conv=>lhs;simp[-List.map_set,QV]) (k:=?_))
      exact done_pure hwf rfl rfl
     | true =>
      rw [q1, Bool.true_and] at hstj
      refine QM (by conv=>lhs;simp[-List.map_set,QV,q1]) ?_
      refine QN ?_
      repeat (first|refine QG ?_|refine QX (r:=by conv=>lhs;simp[-List.map_set,QV]) (k:=?_))
      refine QA [0, 1] (h:=⟨?_, j + 1, hjt, rfl, by rw [← hdj, hstj], by simp [hwj], rfl⟩)
      omega
    ·rw [Ss.drop_all_end _ hjt] at hdj
     rw [← hdj, Bool.true_and] at hst
     repeat (first|refine QG ?_|refine QX (r:=by conv=>lhs;simp[-List.map_set,QV,hjt]) (k:=?_))
     repeat refine QS ?_
     refine vw_loopAt [3, 28, 29, 30, 75, 76, 77] rfl (fun c σ S' => ∃ (j : Nat), j ≤ to.length ∧ c = to.length - j ∧ (to.drop j).all Ss.Edge.small = to.all Ss.Edge.small ∧ σ = [(3, vint (4096 - (n : Int) - (code.length : Int))), (28, vl encBlock bs), (29, vnat bs.length), (30, vnat k), (75, vl encEdge to), (76, vnat to.length), (77, vnat j)] ∧ S' = St S [] [some (4, [vl vint fi, vl vint fo, vl vint ts, vl encBlock bs]), some (6, [vl vint ps, vl encIns code, .int .i64 tk, .int .i64 ta, vl encEdge to, vl vint az])]) to.length ?_ ?_
     ·exact ⟨0, by omega, rfl, rfl, by simp [Fr.only], rfl⟩
     ·rintro c σ T ⟨j, hj, rfl, hdj, rfl, rfl⟩
      by_cases hjt : j < to.length
      ·have hwj := wrapNat hjt htl
       have hstj := Ss.drop_all Ss.Edge.small hjt
       obtain ⟨⟨io, ia⟩, hx⟩ : ∃ b, to[j] = b := ⟨_, rfl⟩
       rw [hx] at hstj
       have hX : Ss.Edge.small ⟨io, ia⟩ = Ss.shortL [ia] := (shortL_1 _).symm
       rw [hX] at hstj
       repeat (first|refine QG ?_|refine QX (r:=by conv=>lhs;simp[-List.map_set,QV,hjt,hx]) (k:=?_))
       repeat refine QS ?_
       refine QR (r:=by conv=>lhs;simp[-List.map_set,QV,hjt,hx]) (k:=?_)
       refine vcall_useG (xs' := [vl (vl vint) [ia]]) rfl (GhostArgs.one [] [] (frz1 (k := 3) (len := 1) (by simp) rfl rfl rfl)) (short_v _ (by simp)) ?_
       simp only [List.set_cons_succ, List.set_cons_zero]
       cases q1 : Ss.shortL [ia] with
       | false =>
        rw [q1, Bool.false_and] at hstj
        have e : to.all Ss.Edge.small = false := by rw [← hdj, hstj]
        rw [← hd, hst, e]
        refine QM (by conv=>lhs;simp[-List.map_set,QV,q1]) ?_
        refine QN ?_
        repeat (first|refine QG ?_|refine QX (r:=by conv=>lhs;simp[-List.map_set,QV]) (k:=?_))
        exact done_pure hwf rfl rfl
       | true =>
        rw [q1, Bool.true_and] at hstj
        refine QM (by conv=>lhs;simp[-List.map_set,QV,q1]) ?_
        refine QN ?_
        repeat (first|refine QG ?_|refine QX (r:=by conv=>lhs;simp[-List.map_set,QV]) (k:=?_))
        refine QA [0, 1] (h:=⟨?_, j + 1, hjt, rfl, by rw [← hdj, hstj], by simp [hwj], rfl⟩)
        omega
      ·rw [Ss.drop_all_end _ hjt] at hdj
       rw [← hdj] at hst
       repeat (first|refine QG ?_|refine QX (r:=by conv=>lhs;simp[-List.map_set,QV,hjt,hw]) (k:=?_))
       refine QA [0] (h:=⟨?_, k + 1, n + code.length, hkt, by omega, rfl, by rw [← hd, hst, Bool.true_and], by simp; omega, rfl⟩)
       omega
  ·rw [Ss.drop_small_end hkt] at hd
   rw [← hd]
   repeat (first|refine QG ?_|refine QX (r:=by conv=>lhs;simp[-List.map_set,QV,hkt]) (k:=?_))
   exact done_pure hwf rfl rfl
end Go.Vw
