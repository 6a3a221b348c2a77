import Derived.Test.YtmfpoangempgaaaGreatC12
import Derived.Test.YtmfpoangempgaaaGreatProg
import Derived.Test.YtmfpoangempgaaaGreatC24
import Derived.Test.YtmfpoangempgaaaGreatC25
import Derived.Test.YtmfpoangempgaaaGreatC26
import Derived.Test.YtmfpoangempgaaaGreatC15
import Derived.Test.YtmfpoangempgaaaGreatC21
import Derived.Test.YtmfpoangempgaaaGreatC22
import Derived.Test.YtmfpoangempgaaaGreatC31
import Derived.Test.YtmfpoangempgaaaGreatC28
/-
  Part of the proof (texts GWalk, GOrder, GWithout, GTable, GRNear, CChk).
-/
set_option linter.unusedVariables false
set_option linter.unusedSimpArgs false
namespace Go.Vw
open Go.Proofs Go.RowKit
set_option maxRecDepth 10000
set_option maxHeartbeats 4000000


theorem opIndex_sl {s : Nat} {S : Store} {k : IntKind} {o off len n : Nat} {c} (h : S.get o = some c) (hn : n < len) : opIndex s S (.slice o off len) (.int k (n : Int)) = some (.ptr o (off + n * s)) := by
  simp [opIndex, h, hn]
theorem opLen_sl {S : Store} {o off len : Nat} {c} (h : S.get o = some c) : opLen S (.slice o off len) = some (.int .i64 (len : Int)) := by
  simp [opLen, h]

/-- One more at the end of a list that lies in object o. -/
def Store.push (S : Store) (o : Nat) (cs : List V) (x : V) : Store := ((S.add (1, [x])).del o).add (1, cs ++ [x])
def Store.push0 (S : Store) (x : V) : Store := (S.add (1, [x])).add (1, [x])

section
variable {S : Store} {o : Nat} {cs : List V} {x : V}
theorem push_nx : (S.push o cs x).nx = S.nx + 2 := rfl
theorem push0_nx : (S.push0 x).nx = S.nx + 2 := rfl
theorem push_new : (S.push o cs x).get (S.nx + 1) = some (1, cs ++ [x]) := by simp [Store.push, Store.add, Store.del]
theorem push0_new : (S.push0 x).get (S.nx + 1) = some (1, [x]) := by simp [Store.push0, Store.add]
theorem push_old {o' : Nat} (h : o' < S.nx) (hn : o' ≠ o) : (S.push o cs x).get o' = S.get o' := by
  have e1 : ¬ o' = S.nx + 1 := by omega
  have e2 : ¬ o' = S.nx := by omega
  simp [Store.push, Store.add, Store.del, e1, e2, hn]
theorem push0_old {o' : Nat} (h : o' < S.nx) : (S.push0 x).get o' = S.get o' := by
  have e1 : ¬ o' = S.nx + 1 := by omega
  have e2 : ¬ o' = S.nx := by omega
  simp [Store.push0, Store.add, e1, e2]
theorem Agree.push {S0 : Store} (h : Agree S0 S) (ho : S0.nx ≤ o) : Agree S0 (S.push o cs x) := ((h.add _).del ho).add _
theorem Agree.push0 {S0 : Store} (h : Agree S0 S) : Agree S0 (S.push0 x) := (h.add _).add _
theorem opAppend_push {b len : Nat} (h : S.get o = some (1, cs)) (ho : o < S.nx) (hl : cs.length = len) (hb : (len + 1) * b ≤ 140737488355328) (hb1 : len + 1 ≤ 140737488355328) :
    opAppend 1 b (S.add (1, [x])) (.slice o 0 len) (.slice S.nx 0 1) = some (.slice (S.nx + 1) 0 (len + 1), S.push o cs x) := by
  have : o ≠ S.nx := by omega
  subst hl
  simp [opAppend, srcCells, Store.add, Store.push, this, h, hb, hb1, Store.del]
  rfl
theorem opAppend_push0 {b : Nat} (hb : b ≤ 140737488355328) :
    opAppend 1 b (S.add (1, [x])) .nils (.slice S.nx 0 1) = some (.slice (S.nx + 1) 0 1, S.push0 x) := by
  simp [opAppend, srcCells, Store.add, Store.push0, hb]
end

namespace G
/-- The walker's list of what is done. -/
def DoneAt (S : Store) (b ow om : Nat) (dv : V) (done : List Nat) : Prop :=
  (dv = .nils ∧ done = []) ∨ ∃ od, dv = .slice od 0 done.length ∧ S.get od = some (1, done.map vnat) ∧ od ≠ ow ∧ od ≠ om ∧ b ≤ od ∧ od < S.nx

/-- The walker. -/
def WAt (S : Store) (g : List (List Nat)) (b ow om : Nat) (s : WS) : Prop :=
  s.1.length = g.length ∧ ow ≠ om ∧ b ≤ ow ∧ b ≤ om ∧ ow < S.nx ∧ om < S.nx ∧ S.get om = some (1, s.1.map V.bool) ∧
  ∃ dv, S.get ow = some (3, [vl (vl vnat) g, .slice om 0 g.length, dv]) ∧ DoneAt S b ow om dv s.2
end G

theorem get_upd (S : Store) (o : Nat) (c : Nat × List V) : (S.upd o c).get o = some c := by simp [Store.upd]
theorem get_upd' (S : Store) {o o' : Nat} (c : Nat × List V) (h : o' ≠ o) : (S.upd o c).get o' = S.get o' := by simp [Store.upd, h]

theorem Walk_v (g : List (List Nat)) (hg : G.Ok g) (S0 : Store) (ow om : Nat) : ∀ (f n : Nat) (s s' : G.WS) (S : Store), n < g.length → G.walk g f n s = some s' → s'.2.length ≤ 2^30 → Agree S0 S → G.WAt S g S0.nx ow om s →
    VCalls Tryz.prog 56 [.ptr ow 0, vnat n] S (fun r S' => r = .tuple [] ∧ Agree S0 S' ∧ G.WAt S' g S0.nx ow om s')
  | 0, n, s, s', S, hn, hw, hb, hag, hW => by cases hw
  | f + 1, n, s, s', S, hn, hw, hb, hag, hW => by
    rw [G.walk_succ] at hw
    obtain ⟨h1, h2, h3, h4, l1, l2, h5, dv, h6, h7⟩ := hW
    refine vcalls_body (c := bodyOf Tryz.f56) Tryz.func56 rfl rfl (by simp [Tryz.ntmps56]) ?_
    rw [Tryz.ntmps56]
    have hn1 : n < s.1.length := by omega
    repeat refine QS ?_
    refine vw_regionRun rfl (by conv => lhs; reduce) (by conv => lhs; simp [-opAppend_own, -opAppend_nils,h6,opFieldAddr,opIndex,h5,hn,hn1]) ?_
    refine QN ?_
    have hag1 : Agree S0 (S.upd om (1, (List.map V.bool s.1).set n (V.bool true))) := hag.upd h4 _
    have hW1 : G.WAt (S.upd om (1, (List.map V.bool s.1).set n (V.bool true))) g S0.nx ow om (s.1.set n true, s.2) := by
      refine ⟨by simpa using h1, h2, h3, h4, l1, l2, by rw [get_upd, ← List.map_set], dv, by rw [get_upd' _ _ h2]; exact h6, ?_⟩
      rcases h7 with h7 | ⟨od, k1, k2, k3, k4, k5, k6⟩
      · exact .inl h7
      · exact .inr ⟨od, k1, by rw [get_upd' _ _ k4]; exact k2, k3, k4, k5, k6⟩
    generalize S.upd om (1, (List.map V.bool s.1).set n (V.bool true)) = S1 at hag1 hW1 ⊢
    have hgn : g.getD n [] = g[n] := by simp [hn]
    rw [hgn] at hw
    obtain ⟨sk, hk, rfl⟩ := Option.map_eq_some_iff.1 hw
    repeat refine QS ?_
    refine vw_regionRun rfl (by conv => lhs; reduce) (by conv => lhs; simp [-opAppend_own, -opAppend_nils]) ?_
    refine QN ?_
    repeat refine QS ?_
    refine vw_blockAt 0 rfl rfl ?_
    repeat refine QS ?_
    refine vw_loopAt [0, 1, 4] rfl (fun c σ S' => ∃ (k : Nat) (t : G.WS), k ≤ g[n].length ∧ c = g[n].length - k ∧ G.kids g f (g[n].drop k) t = some sk ∧ Agree S0 S' ∧ G.WAt S' g S0.nx ow om t ∧ σ = [(0, .ptr ow 0), (1, vnat n), (4, vnat k)]) g[n].length ?_ ?_
    · exact ⟨0, _, by omega, rfl, hk, hag1, hW1, by simp [Fr.only, Fr.look, vnat, vint]⟩
    · rintro c σ S' ⟨k, t, hkl, rfl, hd, hag2, hW2, rfl⟩
      obtain ⟨g1, g2, g3, g4, l3, l4, g5, du, g6, g7⟩ := hW2
      by_cases hk6 : k < g[n].length
      · have h7 : (k : Int) < (g[n].length : Int) := by omega
        have hst : G.kids g f (g[n].drop k) t = if t.1.getD g[n][k] false then G.kids g f (g[n].drop (k + 1)) t else (G.walk g f g[n][k] t).bind (G.kids g f (g[n].drop (k + 1))) := by
          rw [List.drop_eq_getElem_cons hk6, G.kids_cons]
        rw [hst] at hd
        have hkn : g[n][k] < g.length := hg.elt _ (List.getElem_mem hn) _ (List.getElem_mem hk6)
        have hkt : g[n][k] < t.1.length := by omega
        have hr := hg.row _ (List.getElem_mem hn)
        have hw1 : IntKind.i64.wrap ((k : Int) + 1) = (k : Int) + 1 := wrap_i64 (by omega) (by omega)
        have hgd : t.1.getD g[n][k] false = t.1[g[n][k]] := by simp [hkt]
        rw [hgd] at hd
        repeat refine QS ?_
        refine vw_regionRun rfl (by conv => lhs; reduce) (by conv => lhs; simp [-opAppend_own, -opAppend_nils,g6,opFieldAddr,opIndex_vl,opLen_vl,hn,h7]) ?_
        refine QN ?_
        repeat refine QS ?_
        refine vw_condT rfl rfl rfl ?_
        repeat refine QS ?_
        refine vw_skipAt rfl ?_
        repeat refine QS ?_
        refine vw_blockAt 1 rfl rfl ?_
        have ix := opIndex_sl (s := 1) (k := .i64) (off := 0) g5 hkn
        repeat refine QS ?_
        refine vw_drawPlain rfl (by kernel_rfl) (by conv => lhs; reduce) (by conv => lhs; reduce) (by kernel_rfl) (by conv => lhs; simp [-opAppend_own, -opAppend_nils,g6,g5,opFieldAddr,opIndex_vl,ix,hn,hk6,hkt]) ?_
        refine QN ?_
        cases hm : t.1[g[n][k]]
        · rw [hm] at hd
          obtain ⟨u, e1, e2⟩ := Option.bind_eq_some_iff.1 hd
          refine vw_condT rfl rfl (by simp [ev, Fr.look, hm]) ?_
          repeat refine QS ?_
          refine vw_regionRun rfl (by conv => lhs; reduce) (by conv => lhs; simp [-opAppend_own, -opAppend_nils,g6,opFieldAddr,opIndex_vl,hn,hk6]) ?_
          refine vcall_any rfl (Walk_v g hg S0 ow om f g[n][k] t u S' hkn e1 ?_ hag2 ⟨g1, g2, g3, g4, l3, l4, g5, du, g6, g7⟩) ?_
          · have := (G.kids_len (G.walk_len g f) _ _ _ e2).1
            simp at hb; omega
          · rintro X S2 ⟨rfl, hag3, hW3⟩
            refine vseg_more (by conv => lhs; simp [-opAppend_own, -opAppend_nils]) ?_
            refine QN ?_
            repeat refine QS ?_
            refine vw_regionRun rfl (by conv => lhs; reduce) (by conv => lhs; simp [-opAppend_own, -opAppend_nils,hw1]) ?_
            refine QN ?_
            exact again ⟨Nat.sub_lt_sub_left (by omega) (Nat.lt_succ_self k), k + 1, u, by omega, rfl, e2, hag3, hW3, by simp [Fr.only, Fr.look, vnat, vint]⟩
        · rw [hm] at hd
          refine vw_condF rfl rfl (by simp [ev, Fr.look, hm]) ?_
          repeat refine QS ?_
          refine vw_skipAt rfl ?_
          repeat refine QS ?_
          refine vw_regionRun rfl (by conv => lhs; reduce) (by conv => lhs; simp [-opAppend_own, -opAppend_nils,hw1]) ?_
          refine QN ?_
          exact again ⟨Nat.sub_lt_sub_left (by omega) (Nat.lt_succ_self k), k + 1, t, by omega, rfl, hd, hag2, ⟨g1, g2, g3, g4, l3, l4, g5, du, g6, g7⟩, by simp [Fr.only, Fr.look, vnat, vint]⟩
      · have h7 : ¬ (k : Int) < (g[n].length : Int) := by omega
        repeat refine QS ?_
        refine vw_regionRun rfl (by conv => lhs; reduce) (by conv => lhs; simp [-opAppend_own, -opAppend_nils,g6,opFieldAddr,opIndex_vl,opLen_vl,hn,h7]) ?_
        refine QN ?_
        repeat refine QS ?_
        refine vw_condF rfl rfl rfl ?_
        repeat refine QS ?_
        refine vw_exitAt 0 rfl rfl ?_
        have hz : g[n].drop k = [] := by rw [List.drop_eq_nil_iff]; omega
        rw [hz, G.kids_nil] at hd
        cases hd
        rcases g7 with ⟨rfl, hnil⟩ | ⟨od, rfl, k2, k3, k4, k5, k6⟩
        · have ap := opAppend_push0 (S := S') (x := .int .i64 (n : Int)) (b := 8) (by omega)
          have gp : (S'.push0 (.int .i64 (n : Int))).get ow = some (3, [vl (vl vnat) g, V.slice om 0 g.length, V.nils]) := (push0_old l3).trans g6
          repeat refine QS ?_
          refine vw_regionRun rfl (by conv => lhs; reduce) (by conv => lhs; simp [-opAppend_own, -opAppend_nils,g6,opFieldAddr,opBuild,rep0,splice,ap,gp]) ?_
          refine QN ?_
          refine ⟨rfl, hag2.push0.upd g3 _, g1, g2, g3, g4, Nat.lt_add_right 2 l3, Nat.lt_add_right 2 l4, ?_, _, get_upd _ _ _, .inr ⟨S'.nx + 1, ?_, ?_, ?_, ?_, ?_, ?_⟩⟩
          · rw [get_upd' _ _ (Ne.symm g2), push0_old l4]; exact g5
          · simp [hnil]
          · rw [get_upd' _ _ (by omega), push0_new]; simp [hnil, vnat]
          · omega
          · omega
          · omega
          · show S'.nx + 1 < S'.nx + 2; omega
        · have hb2 : sk.2.length + 1 ≤ 2^30 := by simpa using hb
          have ap := opAppend_push (S := S') (x := .int .i64 (n : Int)) (b := 8) k2 k6 (by simp : _ = sk.2.length) (by omega) (by omega)
          have gp : (S'.push od (List.map vnat sk.2) (.int .i64 (n : Int))).get ow = some (3, [vl (vl vnat) g, V.slice om 0 g.length, V.slice od 0 sk.2.length]) := (push_old l3 (Ne.symm k3)).trans g6
          repeat refine QS ?_
          refine vw_regionRun rfl (by conv => lhs; reduce) (by conv => lhs; simp [-opAppend_own, -opAppend_nils,g6,opFieldAddr,opBuild,rep0,splice,ap,gp]) ?_
          refine QN ?_
          refine ⟨rfl, (hag2.push k5).upd g3 _, g1, g2, g3, g4, Nat.lt_add_right 2 l3, Nat.lt_add_right 2 l4, ?_, _, get_upd _ _ _, .inr ⟨S'.nx + 1, ?_, ?_, ?_, ?_, ?_, ?_⟩⟩
          · rw [get_upd' _ _ (Ne.symm g2), push_old l4 (Ne.symm k4)]; exact g5
          · simp
          · rw [get_upd' _ _ (by omega), push_new]; simp [vnat]
          · omega
          · omega
          · omega
          · show S'.nx + 1 < S'.nx + 2; omega
end Go.Vw

namespace Go.Vw
open Go.Proofs Go.RowKit
set_option maxRecDepth 10000
set_option maxHeartbeats 4000000

theorem add_nx (S : Store) (c : Nat × List V) : (S.add c).nx = S.nx + 1 := by cases S; simp [Store.add]


end Go.Vw

namespace Go.Vw
open Go.Proofs Go.RowKit
set_option maxRecDepth 10000
set_option maxHeartbeats 4000000

/-- The walker, behind its walk. -/
theorem WAt_dv {S0 T : Store} {g : List (List Nat)} {b ow om : Nat} {s : G.WS} (h : G.WAt T g b ow om s) : T.get om = some (1, s.1.map V.bool) := h.2.2.2.2.2.2.1

theorem Without_v (g : List (List Nat)) (hg : G.Ok g) (a : Option Nat) (ha : ∀ n, a = some n → n < g.length) : VPure Tryz.prog 26 [vl (vl vnat) g, vint (a.elim (-1) Int.ofNat)] (vl V.bool (G.without g a)) := by
  intro S
  refine vcalls_start (c := bodyOf Tryz.f26) Tryz.func26 rfl rfl (by simp [Tryz.ntmps26]) ?_
  rw [Tryz.ntmps26]
  intro hwf
  have hm256 := hg.max
  have hp : 0 < g.length := hg.pos
  have hb1 : g.length * 1 ≤ 140737488355328 := by omega
  have hb0 : g.length ≤ 140737488355328 := by omega
  have wat : ∀ m : List Bool, m.length = g.length → G.WAt (St S [] [some (1, m.map V.bool), some (3, [vl (vl vnat) g, .slice (lid S.nx 0) 0 g.length, .nils])]) g S.nx (lid S.nx 1) (lid S.nx 0) (m, []) := by
    intro m hm
    refine ⟨hm, by simp [lid], by simp [lid], by simp [lid], by rw [St_nx]; simp [lid], by rw [St_nx]; simp [lid], by simp [St_get], .nils, by simp [St_get], .inl ⟨rfl, rfl⟩⟩
  cases a with
  | none =>
    obtain ⟨t, w1, w2, w3, w4⟩ := G.metFrom_ends hg (m := List.replicate g.length false) (by simp) (G.rep_getD _ _)
    have hX : G.without g none = t.1 := w2
    have e1 : (-1 : Int) = -1 := rfl
    simp only [Option.elim]
    have hrep : List.replicate g.length (V.bool false) = (List.replicate g.length false).map V.bool := by simp
    repeat (first|refine QG ?_|refine QX (r:=by conv=>lhs;simp[-List.map_set,QV,hb1,hb0]) (k:=?_))
    repeat refine QS ?_
    refine QR (r:=by conv=>lhs;simp[-List.map_set,QV]) (k:=?_)
    refine vcall_any rfl (Walk_v g hg S (lid S.nx 1) (lid S.nx 0) g.length 0 _ t _ hp w1 (by omega) agree_St (by rw [hrep]; exact wat _ (by simp))) ?_
    rintro X T ⟨rfl, hag, hW⟩
    have hom := hW.2.2.2.2.2.2.1
    obtain ⟨dv, how, _⟩ := hW.2.2.2.2.2.2.2
    have hol := hW.2.2.2.2.2.1
    refine QM (by conv=>lhs;simp[-List.map_set,QV]) ?_
    refine QN ?_
    repeat (first|refine QG ?_|refine QX (r:=by conv=>lhs;simp[-List.map_set,QV,how]) (k:=?_))
    have hfr := Ghost.freeze1 (len := g.length) hom (by simp [V.closed1]) (by simp [w4])
    rw [hX]
    exact done_ghost hwf (hfr.toB _) (hag.del (by simp [lid])) rfl
  | some a =>
    have hal := ha a rfl
    simp only [Option.elim]
    have hrep : List.replicate g.length (V.bool false) = (List.replicate g.length false).map V.bool := by simp
    by_cases h0 : a = 0
    · subst h0
      have hX : G.without g (some 0) = List.replicate g.length false := by simp [G.without]
      repeat (first|refine QG ?_|refine QX (r:=by conv=>lhs;simp[-List.map_set,QV,hb1,hb0,hal]) (k:=?_))
      have hfr := frz1 (B := S) (u := []) (l := [some (1, (List.replicate g.length false).map V.bool), some (3, [vl (vl vnat) g, V.slice (lid S.nx 0) 0 g.length, V.nils])]) (k := 0) (len := g.length) (cells := (List.replicate g.length false).map V.bool) (by simp) rfl (by simp [V.closed1]) (by simp)
      rw [hX]
      rw [hrep]
      exact done_via hwf (hfr.toB _) rfl
    · have hz : ((List.replicate g.length false).set a true).getD 0 false = false := by rw [G.getD_set_other h0]; exact G.rep_getD _ _
      obtain ⟨t, w1, w2, w3, w4⟩ := G.metFrom_ends hg (m := (List.replicate g.length false).set a true) (by simp) hz
      have hX : G.without g (some a) = t.1.set a false := by simp [G.without, h0, w2]
      have ha0 : ¬ (a : Int) = 0 := by omega
      have hat : a < t.1.length := by omega
      repeat (first|refine QG ?_|refine QX (r:=by conv=>lhs;simp[-List.map_set,QV,hb1,hb0,hal,ha0,h0]) (k:=?_))
      repeat refine QS ?_
      refine QR (r:=by conv=>lhs;simp[-List.map_set,QV]) (k:=?_)
      refine vcall_any rfl (Walk_v g hg S (lid S.nx 1) (lid S.nx 0) g.length 0 _ t _ hp w1 (by omega) agree_St (by rw [hrep, ← List.map_set]; exact wat _ (by simp))) ?_
      rintro X T ⟨rfl, hag, hW⟩
      have hom := hW.2.2.2.2.2.2.1
      obtain ⟨dv, how, _⟩ := hW.2.2.2.2.2.2.2
      have hol := hW.2.2.2.2.2.1
      refine QM (by conv=>lhs;simp[-List.map_set,QV]) ?_
      refine QN ?_
      have hne : ¬ lid S.nx 1 = lid S.nx 0 := by simp [lid]
      repeat (first|refine QG ?_|refine QX (r:=by conv=>lhs;simp[-List.map_set,QV,how,hom,hal,hat,upd_old,upd_new,hne]) (k:=?_))
      have hfr := Ghost.freeze1 (S := T.upd (lid S.nx 0) (1, (t.1.set a false).map V.bool)) (o := lid S.nx 0) (cells := (t.1.set a false).map V.bool) (len := g.length) upd_new (all_closed1 V.bool (fun _ => rfl) _) (by simp [w4])
      rw [hX]
      exact done_ghost hwf (hfr.toB _) ((hag.upd (by simp [lid]) _).del (by simp [lid])) rfl
end Go.Vw

namespace Go.Vw
open Go.Proofs Go.RowKit
set_option maxRecDepth 10000
set_option maxHeartbeats 4000000

/-- The rows as far as they are done, and nils. -/
def tabCells (g : List (List Nat)) (a : Nat) : List V := ((List.range a).map (G.tableRow g)).map (vl V.bool) ++ List.replicate (g.length - a) .nils
theorem tabCells_set {g : List (List Nat)} {a : Nat} (h : a < g.length) (x : V) : (tabCells g a).set a x = ((List.range a).map (G.tableRow g)).map (vl V.bool) ++ x :: List.replicate (g.length - (a + 1)) .nils := by
  have e : g.length - a = (g.length - (a + 1)) + 1 := by omega
  rw [tabCells, e, List.replicate_succ, List.set_append_right _ _ (by simp)]
  simp
theorem tabCells_next {g : List (List Nat)} {a : Nat} (h : a < g.length) : (tabCells g a).set a (vl V.bool (G.tableRow g a)) = tabCells g (a + 1) := by
  rw [tabCells_set h, tabCells, List.range_succ]
  simp
theorem renL_tab (f : Nat → Nat) (g : List (List Nat)) (a : Nat) : V.renL f (tabCells g a) = tabCells g a := by
  simp only [tabCells, renL_append, renL_vl]
  rw [renL_eq, List.map_replicate, ren_nils]
theorem idsL_tab (p : Nat → Bool) (g : List (List Nat)) (a : Nat) : V.idsL p (tabCells g a) = true := by
  simp only [tabCells, idsL_append, idsL_vl, Bool.true_and]
  rw [idsL_eq]; simp [ids_nils]
theorem tabCells_len {g : List (List Nat)} {a : Nat} (h : a ≤ g.length) : (tabCells g a).length = g.length := by simp [tabCells]; omega

/-- A row as far as it is filled. -/
def fill (f : Nat → Bool) (n b : Nat) : List Bool := (List.range b).map f ++ List.replicate (n - b) false
theorem fill_set {f : Nat → Bool} {n b : Nat} (h : b < n) : (fill f n b).set b (f b) = fill f n (b + 1) := by
  have e : n - b = (n - (b + 1)) + 1 := by omega
  rw [fill, e, List.replicate_succ, List.set_append_right _ _ (by simp), fill, List.range_succ]
  simp
theorem fill_len {f : Nat → Bool} {n b : Nat} (h : b ≤ n) : (fill f n b).length = n := by simp [fill]; omega

theorem Table_v (g : List (List Nat)) (hg : G.Ok g) : VPure Tryz.prog 57 [vl (vl vnat) g] (vl (vl V.bool) (G.table g)) := by
  intro S
  refine vcalls_start (c := bodyOf Tryz.f57) Tryz.func57 rfl rfl (by simp [Tryz.ntmps57]) ?_
  rw [Tryz.ntmps57]
  intro hwf
  have hm256 := hg.max
  have hb24 : g.length * 24 ≤ 140737488355328 := by omega
  have hb1 : g.length * 1 ≤ 140737488355328 := by omega
  have hb0 : g.length ≤ 140737488355328 := by omega
  generalize hall : G.without g none = all
  have hal : all.length = g.length := by rw [← hall]; exact G.without_length hg none
  repeat (first|refine QG ?_|refine QX (r:=by conv=>lhs;simp[-List.map_set,QV]) (k:=?_))
  repeat refine QS ?_
  refine QR (r:=by conv=>lhs;simp[-List.map_set,QV]) (k:=?_)
  refine vcall_use rfl (hall ▸ Without_v g hg none (by simp)) ?_
  refine QM (by conv=>lhs;simp[-List.map_set,QV]) ?_
  refine QN ?_
  repeat (first|refine QG ?_|refine QX (r:=by conv=>lhs;simp[-List.map_set,QV,hb24,hb0]) (k:=?_))
  repeat refine QS ?_
  refine vw_loopAt [0, 3, 4, 5] rfl (fun c σ S' => ∃ (a : Nat), a ≤ g.length ∧ c = g.length - a ∧ σ = [(0, vl (vl vnat) g), (3, vl V.bool all), (4, .slice (lid S.nx 0) 0 g.length), (5, vnat a)] ∧ S' = St S [] [some (1, tabCells g a)]) g.length ?_ ?_
  · exact ⟨0, by omega, rfl, by simp [Fr.only, Fr.look, vnat], by simp [tabCells]⟩
  · rintro c σ T ⟨a, ha, rfl, rfl, rfl⟩
    by_cases hlt : a < g.length
    · have hw1 : IntKind.i64.wrap ((a : Int) + 1) = (a : Int) + 1 := wrap_i64 (by omega) (by omega)
      have htl := tabCells_len ha
      have haa : a < all.length := by omega
      have hat : a < (tabCells g a).length := by omega
      obtain ⟨b, hb⟩ : ∃ b, all[a] = b := ⟨_, rfl⟩
      have hbd : all.getD a false = b := by simp [haa, hb]
      cases b with
      | false =>
        have hrow : G.tableRow g a = List.replicate g.length false := by simp only [G.tableRow, hall, hbd]; simp
        repeat (first|refine QG ?_|refine QX (r:=by conv=>lhs;simp[-List.map_set,QV,hb1,hb0,hlt,hat,haa]) (k:=?_))
        refine vw_condT rfl rfl (by simp [ev, Fr.look, hb]) ?_
        repeat refine QS ?_
        refine vw_exitAt 1 rfl rfl ?_
        apply vw_reach
        · exact Reach.frzCell (k := 0) (j := 1) (i := a) (n := g.length) (cells' := (List.replicate g.length false).map V.bool) (by omega) (by simp) (by simp) rfl (by simp [hat]) (by simp) (all_closed1 V.bool (fun _ => rfl) _) (by simp)
        have e := tabCells_next hlt
        rw [hrow] at e
        simp only [List.set_cons_succ, List.set_cons_zero, List.set_set]
        rw [show V.list ((List.replicate g.length false).map V.bool) = vl V.bool (List.replicate g.length false) from rfl, e]
        repeat (first|refine QG ?_|refine QX (r:=by conv=>lhs;simp[-List.map_set,QV,hw1]) (k:=?_))
        refine again_gc [0] (by conv => lhs; simp [Fr.only]) hwf (by decide) (by simp [-List.map_set, renL_tab, idsL_tab]) (by conv => lhs; simp [-List.map_set, renL_tab, idsL_tab]) (by conv => lhs; simp [-List.map_set, renL_tab, idsL_tab]) (by conv => lhs; simp [-List.map_set, renL_tab, idsL_tab]) ⟨?_, a + 1, hlt, rfl, by simp [vnat], rfl⟩
        omega
      | true =>
        generalize hl : G.without g (some a) = l
        have hll : l.length = g.length := by rw [← hl]; exact G.without_length hg _
        obtain ⟨f, hf⟩ : ∃ f : Nat → Bool, f = fun b => all.getD b false && !(l.getD b false) := ⟨_, rfl⟩
        have hrow : G.tableRow g a = (List.range g.length).map f := by rw [hf]; simp only [G.tableRow, hall, hbd, hl]; simp
        repeat (first|refine QG ?_|refine QX (r:=by conv=>lhs;simp[-List.map_set,QV,hb1,hb0,hlt,hat,haa,hb]) (k:=?_))
        repeat refine QS ?_
        refine QR (r:=by conv=>lhs;simp[-List.map_set,QV]) (k:=?_)
        refine vcall_use rfl (hl ▸ Without_v g hg (some a) (by simpa using hlt)) ?_
        refine QM (by conv=>lhs;simp[-List.map_set,QV]) ?_
        refine QN ?_
        repeat (first|refine QG ?_|refine QX (r:=by conv=>lhs;simp[-List.map_set,QV]) (k:=?_))
        repeat refine QS ?_
        refine vw_loopAt [0, 3, 4, 5, 6, 7] rfl (fun c σ S' => ∃ (b : Nat), b ≤ g.length ∧ c = g.length - b ∧ σ = [(0, vl (vl vnat) g), (3, vl V.bool all), (4, .slice (lid S.nx 0) 0 g.length), (5, vnat a), (6, vl V.bool l), (7, vnat b)] ∧ S' = St S [] [some (1, (tabCells g a).set a (.slice (lid S.nx 1) 0 g.length)), some (1, (fill f g.length b).map V.bool)]) g.length ?_ ?_
        · exact ⟨0, by omega, rfl, by simp [Fr.only, Fr.look, vnat], by simp [fill]⟩
        · rintro c σ T ⟨b, hbl, rfl, rfl, rfl⟩
          by_cases hbt : b < g.length
          · have hw2 : IntKind.i64.wrap ((b : Int) + 1) = (b : Int) + 1 := wrap_i64 (by omega) (by omega)
            have hba : b < all.length := by omega
            have hbll : b < l.length := by omega
            obtain ⟨x, hx⟩ : ∃ x, all[b] = x := ⟨_, rfl⟩
            have hfl := fill_len (f := f) hbl
            have hbf : b < (fill f g.length b).length := by omega
            have hset := fill_set (f := f) hbt
            have hfb : f b = (x && !l[b]) := by rw [hf]; simp [hba, hbll, hx]
            rw [hfb] at hset
            cases x with
            | true =>
              repeat (first|refine QG ?_|refine QX (r:=by conv=>lhs;simp[-List.map_set,QV,hbt]) (k:=?_))
              repeat refine QS ?_
              refine vw_drawW (St S [] [some (1, (tabCells g a).set a (.slice (lid S.nx 1) 0 g.length)), none]) (St S [] [some (1, (tabCells g a).set a (.slice (lid S.nx 1) 0 g.length)), some (1, (fill f g.length b).map V.bool)]) [] rfl (by kernel_rfl) (by conv => lhs; reduce) (by conv => lhs; reduce) (by kernel_rfl) (by kernel_rfl) (ok_St (by simp [subU, shpU, subL, shpL])) (by conv => lhs; simp [-List.map_set,QV, hlt, hat, hbt, hba, hbll, hx, hbf]) ?_
              refine vseg_write rfl (by conv=>lhs;simp[-List.map_set,QV,hbt,hbf]) (ok_St (by simp [subU, shpU, subL, shpL])) ?_
              refine QN ?_
              repeat (first|refine QG ?_|refine QX (r:=by conv=>lhs;simp[-List.map_set,QV]) (k:=?_))
              show Again _ _ _ _ _ _ _
              exact again ⟨Nat.sub_lt_sub_left hbt (Nat.lt_succ_self b), b + 1, hbt, rfl, by simp [Fr.only, Fr.look, vnat]; exact hw2, by rw [← hset]; simp⟩
            | false =>
              repeat (first|refine QG ?_|refine QX (r:=by conv=>lhs;simp[-List.map_set,QV,hbt]) (k:=?_))
              repeat refine QS ?_
              refine vw_drawW (St S [] [some (1, (tabCells g a).set a (.slice (lid S.nx 1) 0 g.length)), none]) (St S [] [some (1, (tabCells g a).set a (.slice (lid S.nx 1) 0 g.length)), some (1, (fill f g.length b).map V.bool)]) [] rfl (by kernel_rfl) (by conv => lhs; reduce) (by conv => lhs; reduce) (by kernel_rfl) (by kernel_rfl) (ok_St (by simp [subU, shpU, subL, shpL])) (by conv => lhs; simp [-List.map_set,QV, hlt, hat, hbt, hba, hbll, hx, hbf]) ?_
              refine vseg_write rfl (by conv=>lhs;simp[-List.map_set,QV,hbt,hbf]) (ok_St (by simp [subU, shpU, subL, shpL])) ?_
              refine QN ?_
              repeat (first|refine QG ?_|refine QX (r:=by conv=>lhs;simp[-List.map_set,QV]) (k:=?_))
              show Again _ _ _ _ _ _ _
              exact again ⟨Nat.sub_lt_sub_left hbt (Nat.lt_succ_self b), b + 1, hbt, rfl, by simp [Fr.only, Fr.look, vnat]; exact hw2, by rw [← hset]; simp⟩
          · have hbg : b = g.length := by omega
            subst hbg
            repeat refine QS ?_
            refine QR (r:=by conv=>lhs;simp[-List.map_set,QV,hbt]) (k:=?_)
            refine QN ?_
            repeat refine QS ?_
            refine vw_condF rfl rfl rfl ?_
            repeat refine QS ?_
            refine vw_exitAt 2 rfl rfl ?_
            apply vw_reach
            · exact Reach.frzCell (k := 0) (j := 1) (i := a) (n := g.length) (cells' := (G.tableRow g a).map V.bool) (by omega) (by simp) (by simp) rfl (by simp [hat]) (by rw [hrow]; simp [fill]) (all_closed1 V.bool (fun _ => rfl) _) (by simp [G.tableRow_length])
            have e := tabCells_next hlt
            simp only [List.set_cons_succ, List.set_cons_zero, List.set_set]
            rw [show V.list ((G.tableRow g a).map V.bool) = vl V.bool (G.tableRow g a) from rfl, e]
            repeat (first|refine QG ?_|refine QX (r:=by conv=>lhs;simp[-List.map_set,QV,hw1]) (k:=?_))
            refine again_gc [0] (by conv => lhs; simp [Fr.only]) hwf (by decide) (by simp [-List.map_set, renL_tab, idsL_tab]) (by conv => lhs; simp [-List.map_set, renL_tab, idsL_tab]) (by conv => lhs; simp [-List.map_set, renL_tab, idsL_tab]) (by conv => lhs; simp [-List.map_set, renL_tab, idsL_tab]) ⟨?_, a + 1, hlt, rfl, by simp [vnat], rfl⟩
            omega
    · repeat (first|refine QG ?_|refine QX (r:=by conv=>lhs;simp[-List.map_set,QV,hlt]) (k:=?_))
      have hag : a = g.length := by omega
      subst hag
      have e : tabCells g g.length = (G.table g).map (vl V.bool) := by simp [tabCells, G.table]
      rw [e]
      exact done_via hwf ((frz1 (by simp) (by rfl) (all_closed1 (vl V.bool) (fun _ => rfl) _) (by simp [G.table])).toB _) rfl
end Go.Vw

namespace Go.Vw
open Go.Proofs Go.RowKit
set_option maxRecDepth 10000
set_option maxHeartbeats 4000000

theorem RNearestErr_v (g : List (List Int)) (hg : g.length < 2^63) (hl : ∀ l ∈ g, l.length < 2^63) (hr : G.right g = false) : VPure Tryz.prog 27 [vl (vl vint) g] (.tuple [vl vint [], vint 1]) := by
  intro S
  refine vcalls_start (c := bodyOf Tryz.f27) Tryz.func27 rfl rfl (by simp [Tryz.ntmps27]) ?_
  rw [Tryz.ntmps27]
  intro hwf
  repeat (first|refine QG ?_|refine QX (r:=by conv=>lhs;simp[-List.map_set,QV]) (k:=?_))
  repeat refine QS ?_
  refine QR (r:=by conv=>lhs;simp[-List.map_set,QV]) (k:=?_)
  refine vcall_use rfl (RRight_v g hg hl) ?_
  refine QM (by conv=>lhs;simp[-List.map_set,QV,hr]) ?_
  refine QN ?_
  repeat (first|refine QG ?_|refine QX (r:=by conv=>lhs;simp[-List.map_set,QV]) (k:=?_))
  exact done_via (l := []) hwf ((Ghost.tuple [] [vint 1] (Ghost.nils_list _)).toB _) rfl

theorem RNearest_v (g : List (List Nat)) (hg : G.Ok g) (hr : VPure Tryz.prog 25 [vl (vl vnat) g] (.bool true)) : VPure Tryz.prog 27 [vl (vl vnat) g] (.tuple [vl vint (G.rNear g), vint 0]) := by
  intro S
  refine vcalls_start (c := bodyOf Tryz.f27) Tryz.func27 rfl rfl (by simp [Tryz.ntmps27]) ?_
  rw [Tryz.ntmps27]
  intro hwf
  have hm256 := hg.max
  repeat (first|refine QG ?_|refine QX (r:=by conv=>lhs;simp[-List.map_set,QV]) (k:=?_))
  repeat refine QS ?_
  refine QR (r:=by conv=>lhs;simp[-List.map_set,QV]) (k:=?_)
  refine vcall_use rfl (hr) ?_
  refine QM (by conv=>lhs;simp[-List.map_set,QV]) ?_
  refine QN ?_
  repeat (first|refine QG ?_|refine QX (r:=by conv=>lhs;simp[-List.map_set,QV]) (k:=?_))
  repeat refine QS ?_
  refine QR (r:=by conv=>lhs;simp[-List.map_set,QV]) (k:=?_)
  refine vcall_use rfl (Table_v g hg) ?_
  refine QM (by conv=>lhs;simp[-List.map_set,QV]) ?_
  refine QN ?_
  generalize ht : G.table g = t
  have htl : t.length = g.length := by rw [← ht]; simp [G.table]
  have hrl : ∀ a, a < g.length → ∃ r, t[a]? = some r ∧ r.length = g.length := by
    intro a ha
    refine ⟨G.tableRow g a, by rw [← ht]; simp [G.table, ha], G.tableRow_length g a⟩
  obtain ⟨f, hf⟩ : ∃ f : Nat → Int, f = fun b => (G.bestTo t g.length b g.length).1 := ⟨_, rfl⟩
  have hfin : G.rNear g = upTo f g.length := by rw [hf]; simp only [G.rNear, ht, upTo]
  rw [hfin]
  repeat refine QS ?_
  refine QR (r:=by conv=>lhs;simp[-List.map_set,QV]) (k:=?_)
  refine QN ?_
  refine vw_void 5 1 rfl (by conv => lhs; simp [Fr.set]) ?_
  repeat (first|refine QG ?_|refine QX (r:=by conv=>lhs;simp[-List.map_set,QV]) (k:=?_))
  repeat refine QS ?_
  refine vw_loopAt [0, 4, 5, 6] rfl (fun c σ S' => ∃ (b : Nat), b ≤ g.length ∧ c = g.length - b ∧ σ = [(0, vl (vl vnat) g), (4, vl (vl V.bool) t), (5, .slice (lid S.nx 0) 0 b), (6, vnat b)] ∧ S' = St S [] [some (1, (upTo f b).map vint)]) g.length ?_ ?_
  · exact ⟨0, by omega, rfl, by simp [Fr.only, Fr.look, vnat], by simp [upTo_zero]⟩
  · rintro c σ T ⟨b, hb, rfl, rfl, rfl⟩
    by_cases hbt : b < g.length
    · have hwb : IntKind.i64.wrap ((b : Int) + 1) = (b : Int) + 1 := wrap_i64 (by omega) (by omega)
      repeat (first|refine QG ?_|refine QX (r:=by conv=>lhs;simp[-List.map_set,QV,hbt]) (k:=?_))
      repeat refine QS ?_
      refine vw_loopAt [0, 4, 5, 6, 7, 8, 9] rfl (fun c σ S' => ∃ (a : Nat), a ≤ g.length ∧ c = g.length - a ∧ σ = [(0, vl (vl vnat) g), (4, vl (vl V.bool) t), (5, .slice (lid S.nx 0) 0 b), (6, vnat b), (7, vint (G.bestTo t g.length b a).1), (8, vnat (G.bestTo t g.length b a).2), (9, vnat a)] ∧ S' = St S [] [some (1, (upTo f b).map vint)]) g.length ?_ ?_
      · exact ⟨0, by omega, rfl, by simp [Fr.only, Fr.look, vnat, vint, G.bestTo], by simp⟩
      · rintro c σ T ⟨a, ha, rfl, rfl, rfl⟩
        by_cases hat : a < g.length
        · have hwa : IntKind.i64.wrap ((a : Int) + 1) = (a : Int) + 1 := wrap_i64 (by omega) (by omega)
          have hst : ∀ x, x = G.bestTo t g.length b (a + 1) → x = if a ≠ b ∧ G.tabAt t a b = true ∧ (G.bestTo t g.length b a).2 < G.cntTo t a g.length then ((a : Int), G.cntTo t a g.length) else G.bestTo t g.length b a := fun x h => h
          have hst := hst _ rfl
          obtain ⟨r, hr, hrl'⟩ := hrl a hat
          have hta : a < t.length := by omega
          have hra : t[a] = r := by simpa [hta] using hr
          by_cases hab : a = b
          · subst hab
            rw [if_neg (by simp)] at hst
            repeat (first|refine QG ?_|refine QX (r:=by conv=>lhs;simp[-List.map_set,QV,hat]) (k:=?_))
            show Again _ _ _ _ _ _ _
            exact again ⟨Nat.sub_lt_sub_left hat (Nat.lt_succ_self a), a + 1, hat, rfl, by rw [hst]; simp [Fr.only, Fr.look, vnat, vint]; exact hwa, rfl⟩
          · have hab' : ¬ (a : Int) = (b : Int) := by omega
            by_cases htab : G.tabAt t a b = true
            · have htb : r[b]'(by omega) = true := by
                have : b < r.length := by omega
                simpa [G.tabAt, hta, hra, this] using htab
              have hbr : b < r.length := by omega
              have hab' : ¬ (a : Int) = (b : Int) := by omega
              repeat (first|refine QG ?_|refine QX (r:=by conv=>lhs;simp[-List.map_set,QV,hat,hab,hab',hta,hra,hbr,htb]) (k:=?_))
              repeat refine QS ?_
              refine vw_loopAt [0, 4, 5, 6, 7, 8, 9, 10, 11] rfl (fun c σ S' => ∃ (k : Nat), k ≤ g.length ∧ c = g.length - k ∧ σ = [(0, vl (vl vnat) g), (4, vl (vl V.bool) t), (5, .slice (lid S.nx 0) 0 b), (6, vnat b), (7, vint (G.bestTo t g.length b a).1), (8, vnat (G.bestTo t g.length b a).2), (9, vnat a), (10, vnat (G.cntTo t a k)), (11, vnat k)] ∧ S' = St S [] [some (1, (upTo f b).map vint)]) g.length ?_ ?_
              · exact ⟨0, by omega, rfl, by simp [Fr.only, Fr.look, vnat, vint, G.cntTo], rfl⟩
              · rintro c σ T ⟨k, hk, rfl, rfl, rfl⟩
                have hcle := G.cntTo_le t a k
                by_cases hkt : k < g.length
                · have hwk : IntKind.i64.wrap ((k : Int) + 1) = (k : Int) + 1 := wrap_i64 (by omega) (by omega)
                  have hwc : IntKind.i64.wrap ((G.cntTo t a k : Int) + 1) = (G.cntTo t a k : Int) + 1 := wrap_i64 (by omega) (by omega)
                  obtain ⟨q, hq, hql⟩ := hrl k hkt
                  have htk : k < t.length := by omega
                  have hqk : t[k] = q := by simpa [htk] using hq
                  have haq : a < q.length := by omega
                  obtain ⟨x, hx⟩ : ∃ x, q[a] = x := ⟨_, rfl⟩
                  have hxt : G.tabAt t k a = x := by simp [G.tabAt, htk, hqk, haq, hx]
                  have hcs : G.cntTo t a (k + 1) = if x = true then G.cntTo t a k + 1 else G.cntTo t a k := by simp only [G.cntTo, hxt]
                  cases x with
                  | true =>
                    repeat (first|refine QG ?_|refine QX (r:=by conv=>lhs;simp[-List.map_set,QV,hkt,htk,hqk,haq,hx]) (k:=?_))
                    show Again _ _ _ _ _ _ _
                    exact again ⟨Nat.sub_lt_sub_left hkt (Nat.lt_succ_self k), k + 1, hkt, rfl, by rw [hcs]; simp [Fr.only, Fr.look, vnat, vint, hwk, hwc], rfl⟩
                  | false =>
                    repeat (first|refine QG ?_|refine QX (r:=by conv=>lhs;simp[-List.map_set,QV,hkt,htk,hqk,haq,hx]) (k:=?_))
                    show Again _ _ _ _ _ _ _
                    exact again ⟨Nat.sub_lt_sub_left hkt (Nat.lt_succ_self k), k + 1, hkt, rfl, by rw [hcs]; simp [Fr.only, Fr.look, vnat, vint, hwk, hwc], rfl⟩
                · have hkg : k = g.length := by omega
                  subst hkg
                  by_cases hgt : (G.bestTo t g.length b a).2 < G.cntTo t a g.length
                  · rw [if_pos ⟨hab, htab, hgt⟩] at hst
                    repeat (first|refine QG ?_|refine QX (r:=by conv=>lhs;simp[-List.map_set,QV,hkt,hgt]) (k:=?_))
                    show Again _ _ _ _ _ _ _
                    exact again ⟨Nat.sub_lt_sub_left hat (Nat.lt_succ_self a), a + 1, hat, rfl, by rw [hst]; simp [Fr.only, Fr.look, vnat, vint, hwa], rfl⟩
                  · rw [if_neg (fun h => hgt h.2.2)] at hst
                    repeat (first|refine QG ?_|refine QX (r:=by conv=>lhs;simp[-List.map_set,QV,hkt,hgt]) (k:=?_))
                    show Again _ _ _ _ _ _ _
                    exact again ⟨Nat.sub_lt_sub_left hat (Nat.lt_succ_self a), a + 1, hat, rfl, by rw [hst]; simp [Fr.only, Fr.look, vnat, vint, hwa], rfl⟩
            · have htb : r[b]'(by omega) = false := by
                have : b < r.length := by omega
                simpa [G.tabAt, hta, hra, this] using htab
              have hbr : b < r.length := by omega
              rw [if_neg (fun h => htab h.2.1)] at hst
              repeat (first|refine QG ?_|refine QX (r:=by conv=>lhs;simp[-List.map_set,QV,hat,hab,hab',hta,hra,hbr,htb]) (k:=?_))
              show Again _ _ _ _ _ _ _
              exact again ⟨Nat.sub_lt_sub_left hat (Nat.lt_succ_self a), a + 1, hat, rfl, by rw [hst]; simp [Fr.only, Fr.look, vnat, vint, hwa], rfl⟩
        · have hag : a = g.length := by omega
          subst hag
          have hfb : f b = (G.bestTo t g.length b g.length).1 := by rw [hf]
          have hc8 : (b + 1) * 8 ≤ 140737488355328 := by omega
          have hc1 : b + 1 ≤ 140737488355328 := by omega
          repeat (first|refine QG ?_|refine QX (r:=by conv=>lhs;simp[-List.map_set,QV,hat,hc8,hc1]) (k:=?_))
          refine QA [2] (h:=⟨?_, b + 1, hbt, rfl, by simp [vnat, hwb], by rw [upTo_succ, hfb]; simp [vint]⟩)
          omega
    · repeat (first|refine QG ?_|refine QX (r:=by conv=>lhs;simp[-List.map_set,QV,hbt]) (k:=?_))
      have hag : b = g.length := by omega
      subst hag
      exact done_via hwf ((Ghost.tuple [] [vint 0] (frz1 (by simp) (by rfl) (all_closed1 vint (fun _ => rfl) _) (by simp [upTo_len]))).toB _) rfl
end Go.Vw

namespace Ss
def rcheckCode (e : Env) (f : Fn) (ds : List Def) (near : List Int) (i : Int) : Nat → List Ins → Bool
  | _, [] => true
  | k, x :: r => rinsOk e f ds near i k x && rcheckCode e f ds near i (k + 1) r
def rcheckBlock (e : Env) (f : Fn) (ds : List Def) (near : List Int) (i : Int) (b : Block) : Bool :=
  rcheckCode e f ds near i 0 b.code && (rtermOk f ds near i b.code.length b.term && b.term.to.all (redgeOk f ds near i b.code.length))
def rcheckBlocks (e : Env) (f : Fn) (ds : List Def) (near : List Int) : Nat → List Block → Bool
  | _, [] => true
  | i, b :: bs => rcheckBlock e f ds near i b && rcheckBlocks e f ds near (i + 1) bs
def firstTick : List Ins → Bool
  | [] => false
  | x :: _ => decide (x.op = 258)
noncomputable def rshape (f : Fn) : Bool := decide (typesOf f.types (f.blocks.getD 0 default).params = f.sig.inn) && (firstTick (f.blocks.getD 0 default).code && !circ (msk f.blocks (Go.Vw.G.nats (succs f.blocks))))
/-- May a function be, by the document? -/
noncomputable def rcheck (e : Env) (f : Fn) : Bool := checkHead e f && decide (1 ≤ f.blocks.length) && match defsOf f with
  | none => false
  | some ds => Go.Vw.G.right (succs f.blocks) && ((Go.Vw.G.without (Go.Vw.G.nats (succs f.blocks)) none).all id && (rshape f && rcheckBlocks e f ds (Go.Vw.G.nearI (succs f.blocks)) 0 f.blocks))
end Ss
namespace Go.Vw
open Go.Proofs Go.RowKit
set_option maxRecDepth 10000
set_option maxHeartbeats 8000000
theorem RNearI_v (g : List (List Int)) (hl : g.length < 2^63) (h : ∀ l ∈ g, l.length < 2^63) (hr : G.right g = true) : VPure Tryz.prog 27 [vl (vl vint) g] (.tuple [vl vint (G.nearI g), vint 0]) := by
  have h1 : VPure Tryz.prog 25 [vl (vl vnat) (G.nats g)] (.bool true) := by
    have := RRight_v g hl h
    rw [hr, G.right_enc hr] at this
    exact this
  have := RNearest_v _ (G.right_ok hr) h1
  rw [← G.right_enc hr] at this
  simp only [G.nearI, hr, if_true]
  exact this
theorem WithoutI_v (g : List (List Int)) (hr : G.right g = true) : VPure Tryz.prog 26 [vl (vl vint) g, vint (-1)] (vl V.bool (G.without (G.nats g) none)) := by
  have := Without_v _ (G.right_ok hr) none (fun _ h => by cases h)
  rw [← G.right_enc hr] at this
  exact this
end Go.Vw
