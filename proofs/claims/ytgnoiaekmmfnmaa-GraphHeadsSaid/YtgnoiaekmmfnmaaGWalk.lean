import Derived.Test.YtgnoiaekmmfnmaaVSimp
import Derived.Test.YtgnoiaekmmfnmaaProg
import Derived.Test.YtgnoiaekmmfnmaaGNat
set_option linter.unusedVariables false
set_option linter.unusedSimpArgs false
namespace Go.Vw
open Go.Proofs Go.RowKit
set_option maxRecDepth 10000
set_option maxHeartbeats 4000000


theorem opIndex_sl {s : Nat} {S : Store} {k : IntKind} {o off len n : Nat} {c} (h : S.get o = some c) (hn : n < len) : opIndex s S (.slice o off len) (.int k (n : Int)) = some (.ptr o (off + n * s)) := by
  simp [opIndex, h, hn]
theorem opLen_sl {S : Store} {o off len : Nat} {c} (h : S.get o = some c) : opLen S (.slice o off len) = some (.int .i64 (len : Int)) := by
  simp [opLen, h]

/-- One more at the end of a list that lies in object o. -/
def Store.push (S : Store) (o : Nat) (cs : List V) (x : V) : Store := ((S.add (1, [x])).del o).add (1, cs ++ [x])
def Store.push0 (S : Store) (x : V) : Store := (S.add (1, [x])).add (1, [x])

section
variable {S : Store} {o : Nat} {cs : List V} {x : V}
theorem push_nx : (S.push o cs x).nx = S.nx + 2 := rfl
theorem push0_nx : (S.push0 x).nx = S.nx + 2 := rfl
theorem push_new : (S.push o cs x).get (S.nx + 1) = some (1, cs ++ [x]) := by simp [Store.push, Store.add, Store.del]
theorem push0_new : (S.push0 x).get (S.nx + 1) = some (1, [x]) := by simp [Store.push0, Store.add]
theorem push_old {o' : Nat} (h : o' < S.nx) (hn : o' ≠ o) : (S.push o cs x).get o' = S.get o' := by
  have e1 : ¬ o' = S.nx + 1 := by omega
  have e2 : ¬ o' = S.nx := by omega
  simp [Store.push, Store.add, Store.del, e1, e2, hn]
theorem push0_old {o' : Nat} (h : o' < S.nx) : (S.push0 x).get o' = S.get o' := by
  have e1 : ¬ o' = S.nx + 1 := by omega
  have e2 : ¬ o' = S.nx := by omega
  simp [Store.push0, Store.add, e1, e2]
theorem Agree.push {S0 : Store} (h : Agree S0 S) (ho : S0.nx ≤ o) : Agree S0 (S.push o cs x) := ((h.add _).del ho).add _
theorem Agree.push0 {S0 : Store} (h : Agree S0 S) : Agree S0 (S.push0 x) := (h.add _).add _
theorem opAppend_push {b len : Nat} (h : S.get o = some (1, cs)) (ho : o < S.nx) (hl : cs.length = len) (hb : (len + 1) * b ≤ 140737488355328) (hb1 : len + 1 ≤ 140737488355328) :
    opAppend 1 b (S.add (1, [x])) (.slice o 0 len) (.slice S.nx 0 1) = some (.slice (S.nx + 1) 0 (len + 1), S.push o cs x) := by
  have : o ≠ S.nx := by omega
  subst hl
  simp [opAppend, srcCells, Store.add, Store.push, this, h, hb, hb1, Store.del]
  rfl
theorem opAppend_push0 {b : Nat} (hb : b ≤ 140737488355328) :
    opAppend 1 b (S.add (1, [x])) .nils (.slice S.nx 0 1) = some (.slice (S.nx + 1) 0 1, S.push0 x) := by
  simp [opAppend, srcCells, Store.add, Store.push0, hb]
end

namespace G
/-- The walker's list of what is done. -/
def DoneAt (S : Store) (b ow om : Nat) (dv : V) (done : List Nat) : Prop :=
  (dv = .nils ∧ done = []) ∨ ∃ od, dv = .slice od 0 done.length ∧ S.get od = some (1, done.map vnat) ∧ od ≠ ow ∧ od ≠ om ∧ b ≤ od ∧ od < S.nx

/-- The walker. -/
def WAt (S : Store) (g : List (List Nat)) (b ow om : Nat) (s : WS) : Prop :=
  s.1.length = g.length ∧ ow ≠ om ∧ b ≤ ow ∧ b ≤ om ∧ ow < S.nx ∧ om < S.nx ∧ S.get om = some (1, s.1.map V.bool) ∧
  ∃ dv, S.get ow = some (3, [vl (vl vnat) g, .slice om 0 g.length, dv]) ∧ DoneAt S b ow om dv s.2
end G

theorem get_upd (S : Store) (o : Nat) (c : Nat × List V) : (S.upd o c).get o = some c := by simp [Store.upd]
theorem get_upd' (S : Store) {o o' : Nat} (c : Nat × List V) (h : o' ≠ o) : (S.upd o c).get o' = S.get o' := by simp [Store.upd, h]

theorem Walk_v (g : List (List Nat)) (hg : G.Ok g) (S0 : Store) (ow om : Nat) : ∀ (f n : Nat) (s s' : G.WS) (S : Store), n < g.length → G.walk g f n s = some s' → s'.2.length ≤ 2^30 → Agree S0 S → G.WAt S g S0.nx ow om s →
    VCalls Try.prog 26 [.ptr ow 0, vnat n] S (fun r S' => r = .tuple [] ∧ Agree S0 S' ∧ G.WAt S' g S0.nx ow om s')
  | 0, n, s, s', S, hn, hw, hb, hag, hW => by cases hw
  | f + 1, n, s, s', S, hn, hw, hb, hag, hW => by
    rw [G.walk_succ] at hw
    obtain ⟨h1, h2, h3, h4, l1, l2, h5, dv, h6, h7⟩ := hW
    refine vcalls_body (c := bodyOf Try.f26) Try.func26 rfl rfl (by simp [Try.ntmps26]) ?_
    rw [Try.ntmps26]
    have hn1 : n < s.1.length := by omega
    repeat refine vw_seqAt rfl ?_
    refine vw_regionRun rfl (by conv => lhs; reduce) (by conv => lhs; simp [-opAppend_own, -opAppend_nils, h6, opFieldAddr, opIndex, h5, hn, hn1]) ?_
    refine vseg_done ?_
    have hag1 : Agree S0 (S.upd om (1, (List.map V.bool s.1).set n (V.bool true))) := hag.upd h4 _
    have hW1 : G.WAt (S.upd om (1, (List.map V.bool s.1).set n (V.bool true))) g S0.nx ow om (s.1.set n true, s.2) := by
      refine ⟨by simpa using h1, h2, h3, h4, l1, l2, by rw [get_upd, ← List.map_set], dv, by rw [get_upd' _ _ h2]; exact h6, ?_⟩
      rcases h7 with h7 | ⟨od, k1, k2, k3, k4, k5, k6⟩
      · exact .inl h7
      · exact .inr ⟨od, k1, by rw [get_upd' _ _ k4]; exact k2, k3, k4, k5, k6⟩
    generalize S.upd om (1, (List.map V.bool s.1).set n (V.bool true)) = S1 at hag1 hW1 ⊢
    have hgn : g.getD n [] = g[n] := by simp [hn]
    rw [hgn] at hw
    obtain ⟨sk, hk, rfl⟩ := Option.map_eq_some_iff.1 hw
    repeat refine vw_seqAt rfl ?_
    refine vw_regionRun rfl (by conv => lhs; reduce) (by conv => lhs; simp [-opAppend_own, -opAppend_nils]) ?_
    refine vseg_done ?_
    repeat refine vw_seqAt rfl ?_
    refine vw_blockAt 0 rfl rfl ?_
    repeat refine vw_seqAt rfl ?_
    refine vw_loopAt [0, 1, 4] rfl (fun c σ S' => ∃ (k : Nat) (t : G.WS), k ≤ g[n].length ∧ c = g[n].length - k ∧ G.kids g f (g[n].drop k) t = some sk ∧ Agree S0 S' ∧ G.WAt S' g S0.nx ow om t ∧ σ = [(0, .ptr ow 0), (1, vnat n), (4, vnat k)]) g[n].length ?_ ?_
    · exact ⟨0, _, by omega, rfl, hk, hag1, hW1, by simp [Fr.only, Fr.look, vnat, vint]⟩
    · rintro c σ S' ⟨k, t, hkl, rfl, hd, hag2, hW2, rfl⟩
      obtain ⟨g1, g2, g3, g4, l3, l4, g5, du, g6, g7⟩ := hW2
      by_cases hk6 : k < g[n].length
      · have h7 : (k : Int) < (g[n].length : Int) := by omega
        have hst : G.kids g f (g[n].drop k) t = if t.1.getD g[n][k] false then G.kids g f (g[n].drop (k + 1)) t else (G.walk g f g[n][k] t).bind (G.kids g f (g[n].drop (k + 1))) := by
          rw [List.drop_eq_getElem_cons hk6, G.kids_cons]
        rw [hst] at hd
        have hkn : g[n][k] < g.length := hg.elt _ (List.getElem_mem hn) _ (List.getElem_mem hk6)
        have hkt : g[n][k] < t.1.length := by omega
        have hr := hg.row _ (List.getElem_mem hn)
        have hw1 : IntKind.i64.wrap ((k : Int) + 1) = (k : Int) + 1 := wrap_i64 (by omega) (by omega)
        have hgd : t.1.getD g[n][k] false = t.1[g[n][k]] := by simp [hkt]
        rw [hgd] at hd
        repeat refine vw_seqAt rfl ?_
        refine vw_regionRun rfl (by conv => lhs; reduce) (by conv => lhs; simp [-opAppend_own, -opAppend_nils, g6, opFieldAddr, opIndex_vl, opLen_vl, hn, h7]) ?_
        refine vseg_done ?_
        repeat refine vw_seqAt rfl ?_
        refine vw_condT rfl rfl rfl ?_
        repeat refine vw_seqAt rfl ?_
        refine vw_skipAt rfl ?_
        repeat refine vw_seqAt rfl ?_
        refine vw_blockAt 1 rfl rfl ?_
        have ix := opIndex_sl (s := 1) (k := .i64) (off := 0) g5 hkn
        repeat refine vw_seqAt rfl ?_
        refine vw_drawPlain rfl (by kernel_rfl) (by conv => lhs; reduce) (by conv => lhs; reduce) (by kernel_rfl) (by conv => lhs; simp [-opAppend_own, -opAppend_nils, g6, g5, opFieldAddr, opIndex_vl, ix, hn, hk6, hkt]) ?_
        refine vseg_done ?_
        cases hm : t.1[g[n][k]]
        · rw [hm] at hd
          obtain ⟨u, e1, e2⟩ := Option.bind_eq_some_iff.1 hd
          refine vw_condT rfl rfl (by simp [ev, Fr.look, hm]) ?_
          repeat refine vw_seqAt rfl ?_
          refine vw_regionRun rfl (by conv => lhs; reduce) (by conv => lhs; simp [-opAppend_own, -opAppend_nils, g6, opFieldAddr, opIndex_vl, hn, hk6]) ?_
          refine vcall_any rfl (Walk_v g hg S0 ow om f g[n][k] t u S' hkn e1 ?_ hag2 ⟨g1, g2, g3, g4, l3, l4, g5, du, g6, g7⟩) ?_
          · have := (G.kids_len (G.walk_len g f) _ _ _ e2).1
            simp at hb; omega
          · rintro X S2 ⟨rfl, hag3, hW3⟩
            refine vseg_more (by conv => lhs; simp [-opAppend_own, -opAppend_nils]) ?_
            refine vseg_done ?_
            repeat refine vw_seqAt rfl ?_
            refine vw_regionRun rfl (by conv => lhs; reduce) (by conv => lhs; simp [-opAppend_own, -opAppend_nils, hw1]) ?_
            refine vseg_done ?_
            exact again ⟨Nat.sub_lt_sub_left (by omega) (Nat.lt_succ_self k), k + 1, u, by omega, rfl, e2, hag3, hW3, by simp [Fr.only, Fr.look, vnat, vint]⟩
        · rw [hm] at hd
          refine vw_condF rfl rfl (by simp [ev, Fr.look, hm]) ?_
          repeat refine vw_seqAt rfl ?_
          refine vw_skipAt rfl ?_
          repeat refine vw_seqAt rfl ?_
          refine vw_regionRun rfl (by conv => lhs; reduce) (by conv => lhs; simp [-opAppend_own, -opAppend_nils, hw1]) ?_
          refine vseg_done ?_
          exact again ⟨Nat.sub_lt_sub_left (by omega) (Nat.lt_succ_self k), k + 1, t, by omega, rfl, hd, hag2, ⟨g1, g2, g3, g4, l3, l4, g5, du, g6, g7⟩, by simp [Fr.only, Fr.look, vnat, vint]⟩
      · have h7 : ¬ (k : Int) < (g[n].length : Int) := by omega
        repeat refine vw_seqAt rfl ?_
        refine vw_regionRun rfl (by conv => lhs; reduce) (by conv => lhs; simp [-opAppend_own, -opAppend_nils, g6, opFieldAddr, opIndex_vl, opLen_vl, hn, h7]) ?_
        refine vseg_done ?_
        repeat refine vw_seqAt rfl ?_
        refine vw_condF rfl rfl rfl ?_
        repeat refine vw_seqAt rfl ?_
        refine vw_exitAt 0 rfl rfl ?_
        have hz : g[n].drop k = [] := by rw [List.drop_eq_nil_iff]; omega
        rw [hz, G.kids_nil] at hd
        cases hd
        rcases g7 with ⟨rfl, hnil⟩ | ⟨od, rfl, k2, k3, k4, k5, k6⟩
        · have ap := opAppend_push0 (S := S') (x := .int .i64 (n : Int)) (b := 8) (by omega)
          have gp : (S'.push0 (.int .i64 (n : Int))).get ow = some (3, [vl (vl vnat) g, V.slice om 0 g.length, V.nils]) := (push0_old l3).trans g6
          repeat refine vw_seqAt rfl ?_
          refine vw_regionRun rfl (by conv => lhs; reduce) (by conv => lhs; simp [-opAppend_own, -opAppend_nils, g6, opFieldAddr, opBuild, rep0, splice, ap, gp]) ?_
          refine vseg_done ?_
          refine ⟨rfl, hag2.push0.upd g3 _, g1, g2, g3, g4, Nat.lt_add_right 2 l3, Nat.lt_add_right 2 l4, ?_, _, get_upd _ _ _, .inr ⟨S'.nx + 1, ?_, ?_, ?_, ?_, ?_, ?_⟩⟩
          · rw [get_upd' _ _ (Ne.symm g2), push0_old l4]; exact g5
          · simp [hnil]
          · rw [get_upd' _ _ (by omega), push0_new]; simp [hnil, vnat]
          · omega
          · omega
          · omega
          · show S'.nx + 1 < S'.nx + 2; omega
        · have hb2 : sk.2.length + 1 ≤ 2^30 := by simpa using hb
          have ap := opAppend_push (S := S') (x := .int .i64 (n : Int)) (b := 8) k2 k6 (by simp : _ = sk.2.length) (by omega) (by omega)
          have gp : (S'.push od (List.map vnat sk.2) (.int .i64 (n : Int))).get ow = some (3, [vl (vl vnat) g, V.slice om 0 g.length, V.slice od 0 sk.2.length]) := (push_old l3 (Ne.symm k3)).trans g6
          repeat refine vw_seqAt rfl ?_
          refine vw_regionRun rfl (by conv => lhs; reduce) (by conv => lhs; simp [-opAppend_own, -opAppend_nils, g6, opFieldAddr, opBuild, rep0, splice, ap, gp]) ?_
          refine vseg_done ?_
          refine ⟨rfl, (hag2.push k5).upd g3 _, g1, g2, g3, g4, Nat.lt_add_right 2 l3, Nat.lt_add_right 2 l4, ?_, _, get_upd _ _ _, .inr ⟨S'.nx + 1, ?_, ?_, ?_, ?_, ?_, ?_⟩⟩
          · rw [get_upd' _ _ (Ne.symm g2), push_old l4 (Ne.symm k4)]; exact g5
          · simp
          · rw [get_upd' _ _ (by omega), push_new]; simp [vnat]
          · omega
          · omega
          · omega
          · show S'.nx + 1 < S'.nx + 2; omega
end Go.Vw
