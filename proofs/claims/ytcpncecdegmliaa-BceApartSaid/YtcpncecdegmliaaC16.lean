import Derived.Test.YtcpncecdegmliaaC13
import Derived.Test.YtcpncecdegmliaaC15
import Derived.Test.YtcpncecdegmliaaProg
/-
  Part of the proof (texts BPlain, SRSmall, SIdx).
-/
set_option linter.unusedVariables false
set_option linter.unusedSimpArgs false
namespace Ss
open Go.Vw.G
def chain (near : List Int) : Nat → Int → List Int
 | 0, _ => []
 | n + 1, b => if okIx near b then b :: chain near n (near.getD b.toNat 0) else []
theorem chain_ok {near : List Int} : ∀ {n : Nat} {b a : Int}, a ∈ chain near n b → okIx near a
 | 0, _, _, h => by simp [chain] at h
 | n + 1, b, a, h => by
  rw [chain] at h
  split at h
  ·rename_i hb
   rcases List.mem_cons.1 h with rfl | h
   ·exact hb
   ·exact chain_ok h
  ·simp at h
theorem dom1_chain (near : List Int) (a : Int) : ∀ (n : Nat) (b : Int), dom1 near a n b = true ↔ a ∈ chain near n b
 | 0, _ => by simp [dom1, chain]
 | n + 1, b => by
  rw [dom1, chain]
  by_cases hb : okIx near b
  ·rw [if_pos hb, if_pos hb, List.mem_cons]
   by_cases e : a = b
   ·simp [e]
   ·rw [if_neg e, dom1_chain near a n]; simp [e]
  ·rw [if_neg hb, if_neg hb]; simp
theorem dominates_chain (near : List Int) (a b : Int) : dominates near a b = true ↔ a ∈ chain near 257 b := by
 rw [dominates]
 by_cases ha : okIx near a
 ·rw [if_pos ha, dom1_chain]
 ·rw [if_neg ha]
  exact ⟨fun h => by simp at h, fun h => absurd (chain_ok h) ha⟩
def covers (y x : Ins) : Bool := decide (y.op = 257) && decide (x.op = 257) && decide (y.args.getD 0 0 = x.args.getD 0 0) && decide (x.n ≤ y.n)
abbrev Kept := List (Ins × Int)
def rcov (near : List Int) (n : Int) (all : Kept) (x : Ins) : Bool := all.any fun p => covers p.1 x && dominates near p.2 n
def rcode (near : List Int) (n : Int) : Kept → List Ins → List Ins × Kept
 | all, [] => ([], all)
 | all, x :: r => if rcov near n all x then rcode near n all r else (x :: (rcode near n (if x.op = 257 then all ++ [(x, n)] else all) r).1, (rcode near n (if x.op = 257 then all ++ [(x, n)] else all) r).2)
def rstep (near : List Int) (st : List Block × Kept) (n : Nat) : List Block × Kept :=
 (st.1.set n ⟨(st.1.getD n default).params, (rcode near n st.2 (st.1.getD n default).code).1, (st.1.getD n default).term⟩, (rcode near n st.2 (st.1.getD n default).code).2)
def bce (near : List Int) (order : List Nat) (f : Fn) : Fn := ⟨f.sig, f.types, (order.foldl (rstep near) (f.blocks, [])).1⟩
/-! ### The same by a map of places -/
abbrev Far := List ((Int × Int) × Int)
def farGet (k : Int × Int) : Far → Int
 | [] => 0
 | (k', w) :: r => if k = k' then w else farGet k r
def farPut (k : Int × Int) (w : Int) : Far → Far
 | [] => [(k, w)]
 | (k', w') :: r => if k = k' then (k, w) :: r else (k', w') :: farPut k w r
theorem farGet_put (k : Int × Int) (w : Int) (k' : Int × Int) : ∀ (M : Far), farGet k' (farPut k w M) = if k' = k then w else farGet k' M
 | [] => by simp only [farPut, farGet]
 | (k2, w2) :: r => by
  simp only [farPut]
  by_cases e : k = k2
  ·subst e
   rw [if_pos rfl]
   simp only [farGet]
   by_cases e2 : k' = k
   ·rw [if_pos e2, if_pos e2]
   ·rw [if_neg e2, if_neg e2, if_neg e2]
  ·rw [if_neg e]
   simp only [farGet]
   by_cases e2 : k' = k2
   ·subst e2
    rw [if_pos rfl, if_pos rfl, if_neg (fun h => e h.symm)]
   ·rw [if_neg e2, if_neg e2, farGet_put k w k' r]
def pcov (near : List Int) (n : Int) (M : Far) (x : Ins) : Bool := decide (x.op = 257) && (chain near 257 n).any fun up => decide (x.n < farGet (x.args.getD 0 0, up) M)
def pnext (near : List Int) (n : Int) (M : Far) (x : Ins) : Far := if x.op = 257 ∧ pcov near n M x = false then farPut (x.args.getD 0 0, n) (x.n + 1) M else M
def pcode (near : List Int) (n : Int) : Far → List Ins → List Ins × Far
 | M, [] => ([], M)
 | M, x :: r => if pcov near n M x then pcode near n (pnext near n M x) r else (x :: (pcode near n (pnext near n M x) r).1, (pcode near n (pnext near n M x) r).2)
def pstep (near : List Int) (st : List Block × Far) (n : Nat) : List Block × Far :=
 (st.1.set n ⟨(st.1.getD n default).params, (pcode near n st.2 (st.1.getD n default).code).1, (st.1.getD n default).term⟩, (pcode near n st.2 (st.1.getD n default).code).2)
def pbce (near : List Int) (order : List Nat) (f : Fn) : Fn := ⟨f.sig, f.types, (order.foldl (pstep near) (f.blocks, [])).1⟩
def Tells (all : Kept) (M : Far) : Prop := ∀ (v b N : Int), 0 ≤ N → (N < farGet (v, b) M ↔ ∃ p ∈ all, p.2 = b ∧ p.1.op = 257 ∧ p.1.args.getD 0 0 = v ∧ N ≤ p.1.n)
theorem tells_nil : Tells [] [] := fun v b N h => by
 simp only [farGet, List.not_mem_nil, false_and, exists_false, iff_false]; omega
theorem cov_same {near : List Int} {n : Int} {all : Kept} {M : Far} (h : Tells all M) (x : Ins) (hx : 0 ≤ x.n) : rcov near n all x = pcov near n M x := by
 rw [Bool.eq_iff_iff]
 simp only [rcov, pcov, List.any_eq_true, Bool.and_eq_true, covers, decide_eq_true_eq]
 constructor
 ·rintro ⟨p, hp, ⟨⟨⟨h1, h2⟩, h3⟩, h4⟩, h5⟩
  exact ⟨h2, p.2, (dominates_chain near _ _).1 h5, (h _ _ _ hx).2 ⟨p, hp, rfl, h1, h3, h4⟩⟩
 ·rintro ⟨h2, up, hup, hlt⟩
  obtain ⟨p, hp, rfl, h1, h3, h4⟩ := (h _ _ _ hx).1 hlt
  exact ⟨p, hp, ⟨⟨⟨h1, h2⟩, h3⟩, h4⟩, (dominates_chain near _ _).2 hup⟩
theorem chain_self {near : List Int} {n : Int} (hn : okIx near n) : n ∈ chain near 257 n := by rw [chain, if_pos hn]; simp
theorem tells_next {near : List Int} {n : Int} {all : Kept} {M : Far} (h : Tells all M) (x : Ins) (hx : 0 ≤ x.n) (hn : okIx near n) (hc : pcov near n M x = false) : Tells (if x.op = 257 then all ++ [(x, n)] else all) (pnext near n M x) := by
 by_cases ho : x.op = 257
 ·rw [if_pos ho, pnext, if_pos ⟨ho, hc⟩]
  intro v b N hN
  rw [farGet_put]
  by_cases e : (v, b) = (x.args.getD 0 0, n)
  ·rw [if_pos e]
   simp only [Prod.mk.injEq] at e
   obtain ⟨rfl, rfl⟩ := e
   constructor
   ·intro hlt
    exact ⟨(x, b), by simp, rfl, ho, rfl, by show N ≤ x.n; omega⟩
   ·rintro ⟨p, hp, h1, h2, h3, h4⟩
    rcases List.mem_append.1 hp with hp | hp
    ·have h5 := (h _ _ _ hN).2 ⟨p, hp, h1, h2, h3, h4⟩
     have h6 : ¬ x.n < farGet (x.args.getD 0 0, b) M := fun hlt => by
      have : pcov near b M x = true := by
       simp only [pcov, Bool.and_eq_true, decide_eq_true_eq, List.any_eq_true]
       exact ⟨ho, b, chain_self hn, hlt⟩
      rw [hc] at this; cases this
     omega
    ·simp only [List.mem_singleton] at hp
     subst hp
     have : N ≤ x.n := h4
     omega
  ·rw [if_neg e, h v b N hN]
   constructor
   ·rintro ⟨p, hp, h1⟩; exact ⟨p, by simp [hp], h1⟩
   ·rintro ⟨p, hp, h1, h2, h3, h4⟩
    rcases List.mem_append.1 hp with hp | hp
    ·exact ⟨p, hp, h1, h2, h3, h4⟩
    ·simp only [List.mem_singleton] at hp
     subst hp
     exact absurd (by rw [← h1, ← h3]) e
 ·rw [if_neg ho, pnext, if_neg (fun h => ho h.1)]; exact h
theorem code_same {near : List Int} {n : Int} (hn : okIx near n) : ∀ (code : List Ins) {all : Kept} {M : Far}, Tells all M → (∀ x ∈ code, 0 ≤ x.n) → (rcode near n all code).1 = (pcode near n M code).1 ∧ Tells (rcode near n all code).2 (pcode near n M code).2
 | [], _, _, h, _ => ⟨rfl, h⟩
 | x :: r, all, M, h, hx => by
  have e := cov_same (near := near) (n := n) h x (hx x (by simp))
  cases hc : pcov near n M x with
  | true =>
   have hM : pnext near n M x = M := by rw [pnext, if_neg (fun h => by rw [hc] at h; cases h.2)]
   have := code_same hn r h fun y hy => hx y (by simp [hy])
   simpa only [rcode, pcode, e, hc, if_true, hM] using this
  | false =>
   have := code_same hn r (tells_next h x (hx x (by simp)) hn hc) fun y hy => hx y (by simp [hy])
   rw [hc] at e
   simp only [rcode, pcode, e, hc, Bool.false_eq_true, if_false]
   exact ⟨by rw [this.1], this.2⟩
theorem code_sub (near : List Int) (n : Int) : ∀ (code : List Ins) (all : Kept), ∀ x ∈ (rcode near n all code).1, x ∈ code
 | [], _, x, h => by simp [rcode] at h
 | y :: r, all, x, h => by
  rw [rcode] at h
  split at h
  ·exact List.mem_cons_of_mem _ (code_sub near n r all x h)
  ·rcases List.mem_cons.1 h with rfl | h
   ·simp
   ·exact List.mem_cons_of_mem _ (code_sub near n r _ x h)
theorem fold_same {near : List Int} : ∀ (order : List Nat) {bs : List Block} {all : Kept} {M : Far}, Tells all M → (∀ n ∈ order, okIx near n) → (∀ b ∈ bs, ∀ x ∈ b.code, 0 ≤ x.n) → (∀ n ∈ order, n < bs.length) →
  (order.foldl (rstep near) (bs, all)).1 = (order.foldl (pstep near) (bs, M)).1
 | [], _, _, _, _, _, _, _ => rfl
 | n :: r, bs, all, M, h, hn, hx, hl => by
  have hnl := hl n (by simp)
  have eg : bs.getD n default = bs[n] := by rw [List.getD_eq_getElem?_getD, List.getElem?_eq_getElem hnl]; rfl
  have hxb : ∀ x ∈ (bs.getD n default).code, 0 ≤ x.n := by rw [eg]; exact hx _ (List.getElem_mem hnl)
  obtain ⟨h1, h2⟩ := code_same (hn n (by simp)) (bs.getD n default).code h hxb
  have e1 : (rstep near (bs, all) n).1 = (pstep near (bs, M) n).1 := by simp only [rstep, pstep, h1]
  rw [List.foldl_cons, List.foldl_cons]
  have : rstep near (bs, all) n = ((pstep near (bs, M) n).1, (rstep near (bs, all) n).2) := by rw [← e1]
  rw [this]
  refine (fold_same r (M := (pstep near (bs, M) n).2) h2 (fun m hm => hn m (by simp [hm])) (fun b hb x hxm => ?_) fun m hm => by simp only [pstep, List.length_set]; exact hl m (by simp [hm])).trans rfl
  rw [← e1] at hb
  rcases List.mem_or_eq_of_mem_set hb with hb | rfl
  ·exact hx b hb x hxm
  ·exact hxb x (code_sub near n _ _ x hxm)
theorem bce_same {near : List Int} {order : List Nat} {f : Fn} (hn : ∀ n ∈ order, okIx near n) (hx : ∀ b ∈ f.blocks, ∀ x ∈ b.code, 0 ≤ x.n) (hl : ∀ n ∈ order, n < f.blocks.length) : bce near order f = pbce near order f := by
 simp only [bce, pbce, fold_same order tells_nil hn hx hl]
end Ss

namespace Go.Vw
open Go.Proofs Go.RowKit
set_option maxRecDepth 10000
set_option maxHeartbeats 8000000
theorem RSmall_v (f : Ss.Fn) (hf : f.Fits) : VPure Try.prog 25 [encFn f] (.bool f.small) := by
 intro S
 obtain ⟨⟨fi, fo⟩, ts, bs⟩ := f
 obtain ⟨_, _, hbl0, hbf⟩ := hf
 simp only at hbl0 hbf
 have hbl : bs.length < 2^63 := by omega
 refine vcalls_start (c := bodyOf Try.f25) Try.func25 rfl rfl (by simp [Try.ntmps25]) ?_
 rw [Try.ntmps25]
 intro hwf
 by_cases h1 : (4096 : Int) < (ts.length : Int)
 ·repeat (first|refine QG ?_|refine QX (r:=by conv=>lhs;simp[-List.map_set,QV,h1]) (k:=?_))
  exact done_pure hwf (by simp [Ss.Fn.small, Ss.Fn.heads]; omega) rfl
 by_cases h2 : (4096 : Int) < (bs.length : Int)
 ·repeat (first|refine QG ?_|refine QX (r:=by conv=>lhs;simp[-List.map_set,QV,h1,h2]) (k:=?_))
  exact done_pure hwf (by simp [Ss.Fn.small, Ss.Fn.heads]; omega) rfl
 by_cases h3 : (4096 : Int) < (fi.length : Int)
 ·repeat (first|refine QG ?_|refine QX (r:=by conv=>lhs;simp[-List.map_set,QV,h1,h2,h3]) (k:=?_))
  exact done_pure hwf (by simp [Ss.Fn.small, Ss.Fn.heads]; omega) rfl
 by_cases h4 : (4096 : Int) < (fo.length : Int)
 ·repeat (first|refine QG ?_|refine QX (r:=by conv=>lhs;simp[-List.map_set,QV,h1,h2,h3,h4]) (k:=?_))
  exact done_pure hwf (by simp [Ss.Fn.small, Ss.Fn.heads]; omega) rfl
 have hh : Ss.Fn.small ⟨⟨fi, fo⟩, ts, bs⟩ = Ss.smallFrom 0 bs := by
  have : Ss.Fn.heads ⟨⟨fi, fo⟩, ts, bs⟩ = true := by simp [Ss.Fn.heads]; omega
  simp [Ss.Fn.small, this]
 rw [hh]
 repeat (first|refine QG ?_|refine QX (r:=by conv=>lhs;simp[-List.map_set,QV,h1,h2,h3,h4]) (k:=?_))
 repeat refine QS ?_
 refine vw_loopAt [1, 3, 4] rfl (fun c σ S' => ∃ (k n : Nat), k ≤ bs.length ∧ n ≤ 4096 ∧ c = bs.length - k ∧ Ss.smallFrom n (bs.drop k) = Ss.smallFrom 0 bs ∧ σ = [(1, .ptr (lid S.nx 0) 0), (3, vnat n), (4, vnat k)] ∧ S' = St S [] [some (4, [vl vint fi, vl vint fo, vl vint ts, vl encBlock bs])]) bs.length ?_ ?_
 ·exact ⟨0, 0, by omega, by omega, rfl, rfl, by simp [Fr.only], rfl⟩
 ·rintro c σ T ⟨k, n, hk, hn, rfl, hd, rfl, rfl⟩
  by_cases hkt : k < bs.length
  ·have hw := wrapNat hkt hbl
   have hbk := hbf _ (List.getElem_mem hkt)
   have hst := Ss.drop_small (n := n) hkt
   obtain ⟨⟨ps, code, ⟨tk, ta, to, az⟩⟩, hb⟩ : ∃ b, bs[k] = b := ⟨_, rfl⟩
   rw [hb] at hst hbk
   obtain ⟨_, ⟨hcl0, _⟩, _, _, ⟨htl0, _⟩, _⟩ := hbk
   simp only at hcl0 htl0
   have hcl : code.length < 2^63 := by omega
   have htl : to.length < 2^63 := by omega
   have hwn : IntKind.i64.wrap ((n : Int) + (code.length : Int)) = (n : Int) + (code.length : Int) := wrap_i64 (by omega) (by omega)
   have hS : Ss.Block.small ⟨ps, code, ⟨tk, ta, to, az⟩⟩ = (decide (ps.length ≤ 4096) && decide (to.length ≤ 4096) && decide (az.length ≤ 4096) && code.all Ss.Ins.small && to.all Ss.Edge.small) := rfl
   by_cases g1 : (4096 : Int) < (n : Int) + (code.length : Int)
   ·have e : Ss.smallFrom n (bs.drop k) = false := by rw [hst]; simp; omega
    rw [← hd, e]
    repeat (first|refine QG ?_|refine QX (r:=by conv=>lhs;simp[-List.map_set,QV,hkt,hb,hwn,g1]) (k:=?_))
    exact done_pure hwf rfl rfl
   by_cases g2 : (4096 : Int) < (ps.length : Int)
   ·have e : Ss.smallFrom n (bs.drop k) = false := by rw [hst, hS]; simp; omega
    rw [← hd, e]
    repeat (first|refine QG ?_|refine QX (r:=by conv=>lhs;simp[-List.map_set,QV,hkt,hb,hwn,g1,g2]) (k:=?_))
    exact done_pure hwf rfl rfl
   by_cases g3 : (4096 : Int) < (to.length : Int)
   ·have e : Ss.smallFrom n (bs.drop k) = false := by rw [hst, hS]; simp; omega
    rw [← hd, e]
    repeat (first|refine QG ?_|refine QX (r:=by conv=>lhs;simp[-List.map_set,QV,hkt,hb,hwn,g1,g2,g3]) (k:=?_))
    exact done_pure hwf rfl rfl
   by_cases g4 : (4096 : Int) < (az.length : Int)
   ·have e : Ss.smallFrom n (bs.drop k) = false := by rw [hst, hS]; simp; omega
    rw [← hd, e]
    repeat (first|refine QG ?_|refine QX (r:=by conv=>lhs;simp[-List.map_set,QV,hkt,hb,hwn,g1,g2,g3,g4]) (k:=?_))
    exact done_pure hwf rfl rfl
   rw [show decide (n + code.length ≤ 4096) = true by simp; omega, hS, show decide (ps.length ≤ 4096) = true by simp; omega, show decide (to.length ≤ 4096) = true by simp; omega, show decide (az.length ≤ 4096) = true by simp; omega, Bool.true_and, Bool.true_and, Bool.true_and, Bool.true_and] at hst
   repeat (first|refine QG ?_|refine QX (r:=by conv=>lhs;simp[-List.map_set,QV,hkt,hb,hwn,g1,g2,g3,g4]) (k:=?_))
   repeat refine QS ?_
   refine vw_loopAt [1, 3, 4, 5, 6] rfl (fun c σ S' => ∃ (j : Nat), j ≤ code.length ∧ c = code.length - j ∧ (code.drop j).all Ss.Ins.small = code.all Ss.Ins.small ∧ σ = [(1, .ptr (lid S.nx 0) 0), (3, vnat (n + code.length)), (4, vnat k), (5, .ptr (lid S.nx 1) 0), (6, vnat j)] ∧ S' = St S [] [some (4, [vl vint fi, vl vint fo, vl vint ts, vl encBlock bs]), some (6, [vl vint ps, vl encIns code, vint tk, vint ta, vl encEdge to, vl vint az])]) code.length ?_ ?_
   ·exact ⟨0, by omega, rfl, rfl, by simp [Fr.only], rfl⟩
   ·rintro c σ T ⟨j, hj, rfl, hdj, rfl, rfl⟩
    by_cases hjt : j < code.length
    ·have hwj := wrapNat hjt hcl
     have hstj := Ss.drop_all Ss.Ins.small hjt
     obtain ⟨⟨io, iN, ia, iu⟩, hx⟩ : ∃ b, code[j] = b := ⟨_, rfl⟩
     rw [hx] at hstj
     have hX : Ss.Ins.small ⟨io, iN, ia, iu⟩ = (decide (ia.length ≤ 4096) && decide (iu.length ≤ 4096)) := rfl
     by_cases q1 : (4096 : Int) < (ia.length : Int)
     ·have e : code.all Ss.Ins.small = false := by rw [← hdj, hstj, hX]; simp; omega
      rw [← hd, hst, e]
      repeat (first|refine QG ?_|refine QX (r:=by conv=>lhs;simp[-List.map_set,QV,hjt,hx,q1]) (k:=?_))
      exact done_pure hwf rfl rfl
     by_cases q2 : (4096 : Int) < (iu.length : Int)
     ·have e : code.all Ss.Ins.small = false := by rw [← hdj, hstj, hX]; simp; omega
      rw [← hd, hst, e]
      repeat (first|refine QG ?_|refine QX (r:=by conv=>lhs;simp[-List.map_set,QV,hjt,hx,q1,q2]) (k:=?_))
      exact done_pure hwf rfl rfl
     rw [hX, show decide (ia.length ≤ 4096) = true by simp; omega, show decide (iu.length ≤ 4096) = true by simp; omega, Bool.true_and, Bool.true_and] at hstj
     repeat (first|refine QG ?_|refine QX (r:=by conv=>lhs;simp[-List.map_set,QV,hjt,hx,q1,q2]) (k:=?_))
     show Again _ _ _ _ _ _ _
     exact again ⟨Nat.sub_lt_sub_left hjt (Nat.lt_succ_self j), j + 1, hjt, rfl, by rw [← hdj, hstj], by simp [Fr.only, hwj], rfl⟩
    ·rw [Ss.drop_all_end _ hjt] at hdj
     rw [← hdj, Bool.true_and] at hst
     repeat (first|refine QG ?_|refine QX (r:=by conv=>lhs;simp[-List.map_set,QV,hjt]) (k:=?_))
     repeat refine QS ?_
     refine vw_loopAt [1, 3, 4, 5, 7] rfl (fun c σ S' => ∃ (j : Nat), j ≤ to.length ∧ c = to.length - j ∧ (to.drop j).all Ss.Edge.small = to.all Ss.Edge.small ∧ σ = [(1, .ptr (lid S.nx 0) 0), (3, vnat (n + code.length)), (4, vnat k), (5, .ptr (lid S.nx 1) 0), (7, vnat j)] ∧ S' = St S [] [some (4, [vl vint fi, vl vint fo, vl vint ts, vl encBlock bs]), some (6, [vl vint ps, vl encIns code, vint tk, vint ta, vl encEdge to, vl vint az])]) to.length ?_ ?_
     ·exact ⟨0, by omega, rfl, rfl, by simp [Fr.only], rfl⟩
     ·rintro c σ T ⟨j, hj, rfl, hdj, rfl, rfl⟩
      by_cases hjt : j < to.length
      ·have hwj := wrapNat hjt htl
       have hstj := Ss.drop_all Ss.Edge.small hjt
       obtain ⟨⟨io, ia⟩, hx⟩ : ∃ b, to[j] = b := ⟨_, rfl⟩
       rw [hx] at hstj
       have hX : Ss.Edge.small ⟨io, ia⟩ = decide (ia.length ≤ 4096) := rfl
       by_cases q1 : (4096 : Int) < (ia.length : Int)
       ·have e : to.all Ss.Edge.small = false := by rw [← hdj, hstj, hX]; simp; omega
        rw [← hd, hst, e]
        repeat (first|refine QG ?_|refine QX (r:=by conv=>lhs;simp[-List.map_set,QV,hjt,hx,q1]) (k:=?_))
        exact done_pure hwf rfl rfl
       rw [hX, show decide (ia.length ≤ 4096) = true by simp; omega, Bool.true_and] at hstj
       repeat (first|refine QG ?_|refine QX (r:=by conv=>lhs;simp[-List.map_set,QV,hjt,hx,q1]) (k:=?_))
       show Again _ _ _ _ _ _ _
       exact again ⟨Nat.sub_lt_sub_left hjt (Nat.lt_succ_self j), j + 1, hjt, rfl, by rw [← hdj, hstj], by simp [Fr.only, hwj], rfl⟩
      ·rw [Ss.drop_all_end _ hjt] at hdj
       rw [← hdj, Bool.true_and] at hst
       repeat (first|refine QG ?_|refine QX (r:=by conv=>lhs;simp[-List.map_set,QV,hjt,hw]) (k:=?_))
       refine QA [0] (h:=⟨?_, k + 1, n + code.length, hkt, by omega, rfl, by rw [← hd, hst], by simp, rfl⟩)
       omega
  ·rw [Ss.drop_small_end hkt] at hd
   rw [← hd]
   repeat (first|refine QG ?_|refine QX (r:=by conv=>lhs;simp[-List.map_set,QV,hkt]) (k:=?_))
   exact done_pure hwf rfl rfl
end Go.Vw

namespace Go.Vw
open Go.Proofs Go.RowKit
set_option maxRecDepth 10000
set_option maxHeartbeats 4000000
def findI {α : Type} (p : α → Bool) : List α → Nat → Int
 | [], _ => -1
 | x :: xs, k => if p x then (k : Int) else findI p xs (k + 1)
theorem findI_any {α : Type} (p : α → Bool) : ∀ (l : List α) (k : Nat), decide (0 ≤ findI p l k) = l.any p
 | [], k => by simp [findI]
 | x :: xs, k => by
   cases h : p x
   ·simp [findI, h, findI_any p xs (k + 1)]
   ·simp [findI, h]
def eqF {α : Type} (p : α → α → Bool) : List α → List α → Bool
 | [], [] => true
 | x :: xs, y :: ys => p x y && eqF p xs ys
 | _, _ => false
theorem eqF_len {α : Type} {p : α → α → Bool} : ∀ {l m : List α}, ¬ l.length = m.length → eqF p l m = false
 | [], [], h => absurd rfl h
 | [], _ :: _, _ => rfl
 | _ :: _, [], _ => rfl
 | x :: xs, y :: ys, h => by rw [eqF, eqF_len (l := xs) (m := ys) (by simpa using h)]; simp
theorem eqF_eq {α : Type} [DecidableEq α] {p : α → α → Bool} (hp : ∀ x y, p x y = decide (x = y)) : ∀ (l m : List α), eqF p l m = decide (l = m)
 | [], [] => by simp [eqF]
 | [], _ :: _ => by simp [eqF]
 | _ :: _, [] => by simp [eqF]
 | x :: xs, y :: ys => by rw [eqF, hp, eqF_eq hp xs ys]; simp
theorem IndexL_v (l : List (List Int)) (p : List Int → Bool) (fid : FuncId) (caps : List V) (hc : callable Try.prog fid = true) (hl : l.length < 2^63) (h : ∀ x ∈ l, VPure Try.prog fid ([vl vint x] ++ caps) (.bool (p x))) :
  VPure Try.prog 106 [vl (vl vint) l, .func fid caps] (vint (findI p l 0)) := by
 intro S
 refine vcalls_start (c := bodyOf Try.f106) Try.func106 rfl rfl (by simp [Try.ntmps106]) ?_
 rw [Try.ntmps106]
 intro hwf
 repeat (first|refine QG ?_|refine QX (r:=by conv=>lhs;simp[-List.map_set,QV]) (k:=?_))
 repeat refine QS ?_
 refine vw_loopAt [0, 1, 7, 8] rfl (fun c σ S' => ∃ (k : Nat), k ≤ l.length ∧ c = l.length - k ∧ findI p (l.drop k) k = findI p l 0 ∧ σ = [(0, vl (vl vint) l), (1, .func fid caps), (7, vnat l.length), (8, vnat k)] ∧ S' = St S [] []) l.length ?_ ?_
 ·exact ⟨0, by omega, rfl, rfl, by simp [Fr.only], rfl⟩
 ·rintro c σ T ⟨k, hk, rfl, hd, rfl, rfl⟩
  by_cases hkt : k < l.length
  ·have hst : findI p (l.drop k) k = if p l[k] then (k : Int) else findI p (l.drop (k + 1)) (k + 1) := by rw [List.drop_eq_getElem_cons hkt, findI]
   have hw := wrapNat hkt hl
   repeat (first|refine QG ?_|refine QX (r:=by conv=>lhs;simp[-List.map_set,QV,hkt]) (k:=?_))
   repeat refine QS ?_
   refine QR (r:=by conv=>lhs;simp[-List.map_set,QV,hkt]) (k:=?_)
   refine vcallv_use rfl hc rfl (h _ (List.getElem_mem hkt)) ?_
   refine QM (by conv=>lhs;simp[-List.map_set,QV]) ?_
   refine QN ?_
   cases hp : p l[k] with
   | true =>
    rw [hp] at hst
    repeat (first|refine QG ?_|refine QX (r:=by conv=>lhs;simp[-List.map_set,QV,hp]) (k:=?_))
    exact done_pure hwf (by rw [← hd, hst]; rfl) rfl
   | false =>
    rw [hp] at hst
    repeat (first|refine QG ?_|refine QX (r:=by conv=>lhs;simp[-List.map_set,QV,hp]) (k:=?_))
    show Again _ _ _ _ _ _ _
    exact again ⟨Nat.sub_lt_sub_left hkt (Nat.lt_succ_self k), k + 1, hkt, rfl, by rw [← hd, hst]; rfl, by simp [Fr.only, hw], rfl⟩
  ·have e : l.drop k = [] := by rw [List.drop_eq_nil_iff]; omega
   rw [e] at hd
   repeat (first|refine QG ?_|refine QX (r:=by conv=>lhs;simp[-List.map_set,QV,hkt]) (k:=?_))
   exact done_pure hwf (by rw [← hd]; rfl) rfl
theorem AnyL_v (l : List (List Int)) (p : List Int → Bool) (fid : FuncId) (caps : List V) (hc : callable Try.prog fid = true) (hl : l.length < 2^63) (h : ∀ x ∈ l, VPure Try.prog fid ([vl vint x] ++ caps) (.bool (p x))) :
  VPure Try.prog 90 [vl (vl vint) l, .func fid caps] (.bool (l.any p)) := by
 intro S
 refine vcalls_start (c := bodyOf Try.f90) Try.func90 rfl rfl (by simp [Try.ntmps90]) ?_
 rw [Try.ntmps90]
 intro hwf
 rw [← findI_any p l 0]
 repeat (first|refine QG ?_|refine QX (r:=by conv=>lhs;simp[-List.map_set,QV]) (k:=?_))
 repeat refine QS ?_
 refine QR (r:=by conv=>lhs;simp[-List.map_set,QV]) (k:=?_)
 refine vcall_use rfl (IndexL_v l p fid caps hc hl h) ?_
 refine QM (by conv=>lhs;simp[-List.map_set,QV]) ?_
 refine QN ?_
 repeat (first|refine QG ?_|refine QX (r:=by conv=>lhs;simp[-List.map_set,QV]) (k:=?_))
 exact done_pure hwf rfl rfl
theorem IndexI_v (l : List (Int)) (p : Int → Bool) (fid : FuncId) (caps : List V) (hc : callable Try.prog fid = true) (hl : l.length < 2^63) (h : ∀ x ∈ l, VPure Try.prog fid ([vint x] ++ caps) (.bool (p x))) :
  VPure Try.prog 92 [vl (vint) l, .func fid caps] (vint (findI p l 0)) := by
 intro S
 refine vcalls_start (c := bodyOf Try.f92) Try.func92 rfl rfl (by simp [Try.ntmps92]) ?_
 rw [Try.ntmps92]
 intro hwf
 repeat (first|refine QG ?_|refine QX (r:=by conv=>lhs;simp[-List.map_set,QV]) (k:=?_))
 repeat refine QS ?_
 refine vw_loopAt [0, 1, 7, 8] rfl (fun c σ S' => ∃ (k : Nat), k ≤ l.length ∧ c = l.length - k ∧ findI p (l.drop k) k = findI p l 0 ∧ σ = [(0, vl (vint) l), (1, .func fid caps), (7, vnat l.length), (8, vnat k)] ∧ S' = St S [] []) l.length ?_ ?_
 ·exact ⟨0, by omega, rfl, rfl, by simp [Fr.only], rfl⟩
 ·rintro c σ T ⟨k, hk, rfl, hd, rfl, rfl⟩
  by_cases hkt : k < l.length
  ·have hst : findI p (l.drop k) k = if p l[k] then (k : Int) else findI p (l.drop (k + 1)) (k + 1) := by rw [List.drop_eq_getElem_cons hkt, findI]
   have hw := wrapNat hkt hl
   repeat (first|refine QG ?_|refine QX (r:=by conv=>lhs;simp[-List.map_set,QV,hkt]) (k:=?_))
   repeat refine QS ?_
   refine QR (r:=by conv=>lhs;simp[-List.map_set,QV,hkt]) (k:=?_)
   refine vcallv_use rfl hc rfl (h _ (List.getElem_mem hkt)) ?_
   refine QM (by conv=>lhs;simp[-List.map_set,QV]) ?_
   refine QN ?_
   cases hp : p l[k] with
   | true =>
    rw [hp] at hst
    repeat (first|refine QG ?_|refine QX (r:=by conv=>lhs;simp[-List.map_set,QV,hp]) (k:=?_))
    exact done_pure hwf (by rw [← hd, hst]; rfl) rfl
   | false =>
    rw [hp] at hst
    repeat (first|refine QG ?_|refine QX (r:=by conv=>lhs;simp[-List.map_set,QV,hp]) (k:=?_))
    show Again _ _ _ _ _ _ _
    exact again ⟨Nat.sub_lt_sub_left hkt (Nat.lt_succ_self k), k + 1, hkt, rfl, by rw [← hd, hst]; rfl, by simp [Fr.only, hw], rfl⟩
  ·have e : l.drop k = [] := by rw [List.drop_eq_nil_iff]; omega
   rw [e] at hd
   repeat (first|refine QG ?_|refine QX (r:=by conv=>lhs;simp[-List.map_set,QV,hkt]) (k:=?_))
   exact done_pure hwf (by rw [← hd]; rfl) rfl
theorem AnyI_v (l : List (Int)) (p : Int → Bool) (fid : FuncId) (caps : List V) (hc : callable Try.prog fid = true) (hl : l.length < 2^63) (h : ∀ x ∈ l, VPure Try.prog fid ([vint x] ++ caps) (.bool (p x))) :
  VPure Try.prog 73 [vl (vint) l, .func fid caps] (.bool (l.any p)) := by
 intro S
 refine vcalls_start (c := bodyOf Try.f73) Try.func73 rfl rfl (by simp [Try.ntmps73]) ?_
 rw [Try.ntmps73]
 intro hwf
 rw [← findI_any p l 0]
 repeat (first|refine QG ?_|refine QX (r:=by conv=>lhs;simp[-List.map_set,QV]) (k:=?_))
 repeat refine QS ?_
 refine QR (r:=by conv=>lhs;simp[-List.map_set,QV]) (k:=?_)
 refine vcall_use rfl (IndexI_v l p fid caps hc hl h) ?_
 refine QM (by conv=>lhs;simp[-List.map_set,QV]) ?_
 refine QN ?_
 repeat (first|refine QG ?_|refine QX (r:=by conv=>lhs;simp[-List.map_set,QV]) (k:=?_))
 exact done_pure hwf rfl rfl
theorem IndexB_v (l : List (Ss.Block)) (p : Ss.Block → Bool) (fid : FuncId) (caps : List V) (hc : callable Try.prog fid = true) (hl : l.length < 2^63) (h : ∀ x ∈ l, VPure Try.prog fid ([encBlock x] ++ caps) (.bool (p x))) :
  VPure Try.prog 76 [vl (encBlock) l, .func fid caps] (vint (findI p l 0)) := by
 intro S
 refine vcalls_start (c := bodyOf Try.f76) Try.func76 rfl rfl (by simp [Try.ntmps76]) ?_
 rw [Try.ntmps76]
 intro hwf
 repeat (first|refine QG ?_|refine QX (r:=by conv=>lhs;simp[-List.map_set,QV]) (k:=?_))
 repeat refine QS ?_
 refine vw_loopAt [0, 1, 7, 8] rfl (fun c σ S' => ∃ (k : Nat), k ≤ l.length ∧ c = l.length - k ∧ findI p (l.drop k) k = findI p l 0 ∧ σ = [(0, vl (encBlock) l), (1, .func fid caps), (7, vnat l.length), (8, vnat k)] ∧ S' = St S [] []) l.length ?_ ?_
 ·exact ⟨0, by omega, rfl, rfl, by simp [Fr.only], rfl⟩
 ·rintro c σ T ⟨k, hk, rfl, hd, rfl, rfl⟩
  by_cases hkt : k < l.length
  ·have hst : findI p (l.drop k) k = if p l[k] then (k : Int) else findI p (l.drop (k + 1)) (k + 1) := by rw [List.drop_eq_getElem_cons hkt, findI]
   have hw := wrapNat hkt hl
   repeat (first|refine QG ?_|refine QX (r:=by conv=>lhs;simp[-List.map_set,QV,hkt]) (k:=?_))
   repeat refine QS ?_
   refine QR (r:=by conv=>lhs;simp[-List.map_set,QV,hkt]) (k:=?_)
   refine vcallv_use rfl hc rfl (h _ (List.getElem_mem hkt)) ?_
   refine QM (by conv=>lhs;simp[-List.map_set,QV]) ?_
   refine QN ?_
   cases hp : p l[k] with
   | true =>
    rw [hp] at hst
    repeat (first|refine QG ?_|refine QX (r:=by conv=>lhs;simp[-List.map_set,QV,hp]) (k:=?_))
    exact done_pure hwf (by rw [← hd, hst]; rfl) rfl
   | false =>
    rw [hp] at hst
    repeat (first|refine QG ?_|refine QX (r:=by conv=>lhs;simp[-List.map_set,QV,hp]) (k:=?_))
    show Again _ _ _ _ _ _ _
    exact again ⟨Nat.sub_lt_sub_left hkt (Nat.lt_succ_self k), k + 1, hkt, rfl, by rw [← hd, hst]; rfl, by simp [Fr.only, hw], rfl⟩
  ·have e : l.drop k = [] := by rw [List.drop_eq_nil_iff]; omega
   rw [e] at hd
   repeat (first|refine QG ?_|refine QX (r:=by conv=>lhs;simp[-List.map_set,QV,hkt]) (k:=?_))
   exact done_pure hwf (by rw [← hd]; rfl) rfl
theorem AnyB_v (l : List (Ss.Block)) (p : Ss.Block → Bool) (fid : FuncId) (caps : List V) (hc : callable Try.prog fid = true) (hl : l.length < 2^63) (h : ∀ x ∈ l, VPure Try.prog fid ([encBlock x] ++ caps) (.bool (p x))) :
  VPure Try.prog 47 [vl (encBlock) l, .func fid caps] (.bool (l.any p)) := by
 intro S
 refine vcalls_start (c := bodyOf Try.f47) Try.func47 rfl rfl (by simp [Try.ntmps47]) ?_
 rw [Try.ntmps47]
 intro hwf
 rw [← findI_any p l 0]
 repeat (first|refine QG ?_|refine QX (r:=by conv=>lhs;simp[-List.map_set,QV]) (k:=?_))
 repeat refine QS ?_
 refine QR (r:=by conv=>lhs;simp[-List.map_set,QV]) (k:=?_)
 refine vcall_use rfl (IndexB_v l p fid caps hc hl h) ?_
 refine QM (by conv=>lhs;simp[-List.map_set,QV]) ?_
 refine QN ?_
 repeat (first|refine QG ?_|refine QX (r:=by conv=>lhs;simp[-List.map_set,QV]) (k:=?_))
 exact done_pure hwf rfl rfl
theorem IndexS_v (l : List (Ss.Sig)) (p : Ss.Sig → Bool) (fid : FuncId) (caps : List V) (hc : callable Try.prog fid = true) (hl : l.length < 2^63) (h : ∀ x ∈ l, VPure Try.prog fid ([encSig x] ++ caps) (.bool (p x))) :
  VPure Try.prog 89 [vl (encSig) l, .func fid caps] (vint (findI p l 0)) := by
 intro S
 refine vcalls_start (c := bodyOf Try.f89) Try.func89 rfl rfl (by simp [Try.ntmps89]) ?_
 rw [Try.ntmps89]
 intro hwf
 repeat (first|refine QG ?_|refine QX (r:=by conv=>lhs;simp[-List.map_set,QV]) (k:=?_))
 repeat refine QS ?_
 refine vw_loopAt [0, 1, 7, 8] rfl (fun c σ S' => ∃ (k : Nat), k ≤ l.length ∧ c = l.length - k ∧ findI p (l.drop k) k = findI p l 0 ∧ σ = [(0, vl (encSig) l), (1, .func fid caps), (7, vnat l.length), (8, vnat k)] ∧ S' = St S [] []) l.length ?_ ?_
 ·exact ⟨0, by omega, rfl, rfl, by simp [Fr.only], rfl⟩
 ·rintro c σ T ⟨k, hk, rfl, hd, rfl, rfl⟩
  by_cases hkt : k < l.length
  ·have hst : findI p (l.drop k) k = if p l[k] then (k : Int) else findI p (l.drop (k + 1)) (k + 1) := by rw [List.drop_eq_getElem_cons hkt, findI]
   have hw := wrapNat hkt hl
   repeat (first|refine QG ?_|refine QX (r:=by conv=>lhs;simp[-List.map_set,QV,hkt]) (k:=?_))
   repeat refine QS ?_
   refine QR (r:=by conv=>lhs;simp[-List.map_set,QV,hkt]) (k:=?_)
   refine vcallv_use rfl hc rfl (h _ (List.getElem_mem hkt)) ?_
   refine QM (by conv=>lhs;simp[-List.map_set,QV]) ?_
   refine QN ?_
   cases hp : p l[k] with
   | true =>
    rw [hp] at hst
    repeat (first|refine QG ?_|refine QX (r:=by conv=>lhs;simp[-List.map_set,QV,hp]) (k:=?_))
    exact done_pure hwf (by rw [← hd, hst]; rfl) rfl
   | false =>
    rw [hp] at hst
    repeat (first|refine QG ?_|refine QX (r:=by conv=>lhs;simp[-List.map_set,QV,hp]) (k:=?_))
    show Again _ _ _ _ _ _ _
    exact again ⟨Nat.sub_lt_sub_left hkt (Nat.lt_succ_self k), k + 1, hkt, rfl, by rw [← hd, hst]; rfl, by simp [Fr.only, hw], rfl⟩
  ·have e : l.drop k = [] := by rw [List.drop_eq_nil_iff]; omega
   rw [e] at hd
   repeat (first|refine QG ?_|refine QX (r:=by conv=>lhs;simp[-List.map_set,QV,hkt]) (k:=?_))
   exact done_pure hwf (by rw [← hd]; rfl) rfl
theorem AnyS_v (l : List (Ss.Sig)) (p : Ss.Sig → Bool) (fid : FuncId) (caps : List V) (hc : callable Try.prog fid = true) (hl : l.length < 2^63) (h : ∀ x ∈ l, VPure Try.prog fid ([encSig x] ++ caps) (.bool (p x))) :
  VPure Try.prog 70 [vl (encSig) l, .func fid caps] (.bool (l.any p)) := by
 intro S
 refine vcalls_start (c := bodyOf Try.f70) Try.func70 rfl rfl (by simp [Try.ntmps70]) ?_
 rw [Try.ntmps70]
 intro hwf
 rw [← findI_any p l 0]
 repeat (first|refine QG ?_|refine QX (r:=by conv=>lhs;simp[-List.map_set,QV]) (k:=?_))
 repeat refine QS ?_
 refine QR (r:=by conv=>lhs;simp[-List.map_set,QV]) (k:=?_)
 refine vcall_use rfl (IndexS_v l p fid caps hc hl h) ?_
 refine QM (by conv=>lhs;simp[-List.map_set,QV]) ?_
 refine QN ?_
 repeat (first|refine QG ?_|refine QX (r:=by conv=>lhs;simp[-List.map_set,QV]) (k:=?_))
 exact done_pure hwf rfl rfl
theorem IndexN_v (l : List (Ss.Ins)) (p : Ss.Ins → Bool) (fid : FuncId) (caps : List V) (hc : callable Try.prog fid = true) (hl : l.length < 2^63) (h : ∀ x ∈ l, VPure Try.prog fid ([encIns x] ++ caps) (.bool (p x))) :
  VPure Try.prog 62 [vl (encIns) l, .func fid caps] (vint (findI p l 0)) := by
 intro S
 refine vcalls_start (c := bodyOf Try.f62) Try.func62 rfl rfl (by simp [Try.ntmps62]) ?_
 rw [Try.ntmps62]
 intro hwf
 repeat (first|refine QG ?_|refine QX (r:=by conv=>lhs;simp[-List.map_set,QV]) (k:=?_))
 repeat refine QS ?_
 refine vw_loopAt [0, 1, 7, 8] rfl (fun c σ S' => ∃ (k : Nat), k ≤ l.length ∧ c = l.length - k ∧ findI p (l.drop k) k = findI p l 0 ∧ σ = [(0, vl (encIns) l), (1, .func fid caps), (7, vnat l.length), (8, vnat k)] ∧ S' = St S [] []) l.length ?_ ?_
 ·exact ⟨0, by omega, rfl, rfl, by simp [Fr.only], rfl⟩
 ·rintro c σ T ⟨k, hk, rfl, hd, rfl, rfl⟩
  by_cases hkt : k < l.length
  ·have hst : findI p (l.drop k) k = if p l[k] then (k : Int) else findI p (l.drop (k + 1)) (k + 1) := by rw [List.drop_eq_getElem_cons hkt, findI]
   have hw := wrapNat hkt hl
   repeat (first|refine QG ?_|refine QX (r:=by conv=>lhs;simp[-List.map_set,QV,hkt]) (k:=?_))
   repeat refine QS ?_
   refine QR (r:=by conv=>lhs;simp[-List.map_set,QV,hkt]) (k:=?_)
   refine vcallv_use rfl hc rfl (h _ (List.getElem_mem hkt)) ?_
   refine QM (by conv=>lhs;simp[-List.map_set,QV]) ?_
   refine QN ?_
   cases hp : p l[k] with
   | true =>
    rw [hp] at hst
    repeat (first|refine QG ?_|refine QX (r:=by conv=>lhs;simp[-List.map_set,QV,hp]) (k:=?_))
    exact done_pure hwf (by rw [← hd, hst]; rfl) rfl
   | false =>
    rw [hp] at hst
    repeat (first|refine QG ?_|refine QX (r:=by conv=>lhs;simp[-List.map_set,QV,hp]) (k:=?_))
    show Again _ _ _ _ _ _ _
    exact again ⟨Nat.sub_lt_sub_left hkt (Nat.lt_succ_self k), k + 1, hkt, rfl, by rw [← hd, hst]; rfl, by simp [Fr.only, hw], rfl⟩
  ·have e : l.drop k = [] := by rw [List.drop_eq_nil_iff]; omega
   rw [e] at hd
   repeat (first|refine QG ?_|refine QX (r:=by conv=>lhs;simp[-List.map_set,QV,hkt]) (k:=?_))
   exact done_pure hwf (by rw [← hd]; rfl) rfl
theorem AnyN_v (l : List (Ss.Ins)) (p : Ss.Ins → Bool) (fid : FuncId) (caps : List V) (hc : callable Try.prog fid = true) (hl : l.length < 2^63) (h : ∀ x ∈ l, VPure Try.prog fid ([encIns x] ++ caps) (.bool (p x))) :
  VPure Try.prog 94 [vl (encIns) l, .func fid caps] (.bool (l.any p)) := by
 intro S
 refine vcalls_start (c := bodyOf Try.f94) Try.func94 rfl rfl (by simp [Try.ntmps94]) ?_
 rw [Try.ntmps94]
 intro hwf
 rw [← findI_any p l 0]
 repeat (first|refine QG ?_|refine QX (r:=by conv=>lhs;simp[-List.map_set,QV]) (k:=?_))
 repeat refine QS ?_
 refine QR (r:=by conv=>lhs;simp[-List.map_set,QV]) (k:=?_)
 refine vcall_use rfl (IndexN_v l p fid caps hc hl h) ?_
 refine QM (by conv=>lhs;simp[-List.map_set,QV]) ?_
 refine QN ?_
 repeat (first|refine QG ?_|refine QX (r:=by conv=>lhs;simp[-List.map_set,QV]) (k:=?_))
 exact done_pure hwf rfl rfl
end Go.Vw
