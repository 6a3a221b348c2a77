import Derived.Test.YtgnoiaekmmfnmaaVSimp
import Derived.Test.YtgnoiaekmmfnmaaGWalk
import Derived.Test.YtgnoiaekmmfnmaaGRight3
set_option linter.unusedVariables false
set_option linter.unusedSimpArgs false
namespace Go.Vw
open Go.Proofs Go.RowKit
set_option maxRecDepth 10000
set_option maxHeartbeats 4000000

theorem add_nx (S : Store) (c : Nat × List V) : (S.add c).nx = S.nx + 1 := by cases S; simp [Store.add]


theorem ROrderErr_v (g : List (List Int)) (hg : g.length < 2^63) (hl : ∀ l ∈ g, l.length < 2^63) (hr : G.right g = false) : VPure Try.prog 11 [vl (vl vint) g] (.tuple [vl vnat [], vint 1]) := by
  intro S
  refine vcalls_gives rfl ?_
  refine vcalls_body (c := bodyOf Try.f11) Try.func11 rfl rfl (by simp [Try.ntmps11]) ?_
  rw [Try.ntmps11]
  repeat refine vw_seqAt rfl ?_
  refine vw_regionRun rfl (by conv => lhs; reduce) (by conv => lhs; simp [-opAppend_own, -opAppend_nils]) ?_
  refine vseg_done ?_
  repeat refine vw_seqAt rfl ?_
  refine vw_regionRun rfl (by conv => lhs; reduce) (by conv => lhs; simp [-opAppend_own, -opAppend_nils]) ?_
  refine vcall_use rfl (RRight_v g hg hl) ?_
  refine vseg_more (by conv => lhs; simp [-opAppend_own, -opAppend_nils]) ?_
  refine vseg_done ?_
  refine vw_condT rfl rfl (by simp [ev, Fr.look, hr]) ?_
  repeat refine vw_seqAt rfl ?_
  refine vw_regionRun rfl (by conv => lhs; reduce) (by conv => lhs; simp [-opAppend_own, -opAppend_nils]) ?_
  refine vseg_done ?_
  repeat refine vw_seqAt rfl ?_
  refine vw_retAt rfl ?_
  exact ⟨S, Ghost.tuple [] [vint 1] (Ghost.nils_list S), Agree.refl S⟩

theorem ROrder_v (g : List (List Nat)) (hg : G.Ok g) (f : Nat) (s : G.WS) (hr : VPure Try.prog 15 [vl (vl vnat) g] (.bool true)) (hw : G.walk g f 0 (List.replicate g.length false, []) = some s) (hs : s.2.length ≤ 2^30) :
    VPure Try.prog 11 [vl (vl vnat) g] (.tuple [vl vnat s.2.reverse, vint 0]) := by
  intro S
  refine vcalls_gives rfl ?_
  refine vcalls_body (c := bodyOf Try.f11) Try.func11 rfl rfl (by simp [Try.ntmps11]) ?_
  rw [Try.ntmps11]
  repeat refine vw_seqAt rfl ?_
  refine vw_regionRun rfl (by conv => lhs; reduce) (by conv => lhs; simp [-opAppend_own, -opAppend_nils]) ?_
  refine vseg_done ?_
  repeat refine vw_seqAt rfl ?_
  refine vw_regionRun rfl (by conv => lhs; reduce) (by conv => lhs; simp [-opAppend_own, -opAppend_nils]) ?_
  refine vcall_use rfl (hr) ?_
  refine vseg_more (by conv => lhs; simp [-opAppend_own, -opAppend_nils]) ?_
  refine vseg_done ?_
  repeat refine vw_seqAt rfl ?_
  refine vw_condF rfl rfl rfl ?_
  repeat refine vw_seqAt rfl ?_
  refine vw_skipAt rfl ?_
  have hl := hg.max
  have mk : opMake 1 1 [V.bool false] S (.int .i64 (g.length : Int)) (.int .i64 (g.length : Int)) = some (.slice S.nx 0 g.length, S.add (1, List.replicate g.length (.bool false))) := by
    simp [opMake, rep0]; omega
  have hgg : ((S.add (1, List.replicate g.length (V.bool false))).add (3, [V.nils, V.nils, V.nils])).get (S.nx + 1) = some (3, [V.nils, V.nils, V.nils]) := get_add _ _
  repeat refine vw_seqAt rfl ?_
  refine vw_regionRun rfl (by conv => lhs; reduce) (by conv => lhs; simp [-opAppend_own, -opAppend_nils, opLen_vl, mk, opBuild, splice, hgg, add_nx]) ?_
  refine vseg_done ?_
  refine vw_gen (fun T => Agree S T ∧ G.WAt T g S.nx (S.nx + 1) S.nx (List.replicate g.length false, [])) ?_ ?_
  · refine ⟨(((Agree.refl S).add _).add _).upd (Nat.le_succ _) _, by simp, by simp, by omega, by omega, by show S.nx + 1 < S.nx + 2; omega, by show S.nx < S.nx + 2; omega, ?_, _, get_upd _ _ _, .inl ⟨rfl, rfl⟩⟩
    simp [Store.upd, Store.add]
  rintro T ⟨hagT, hWT⟩
  repeat refine vw_seqAt rfl ?_
  refine vw_regionRun rfl (by conv => lhs; reduce) (by conv => lhs; simp [-opAppend_own, -opAppend_nils]) ?_
  refine vcall_any rfl (Walk_v g hg S (S.nx + 1) S.nx f 0 _ s T hg.pos hw hs hagT hWT) ?_
  rintro X S2 ⟨rfl, hag3, hW3⟩
  refine vseg_more (by conv => lhs; simp [-opAppend_own, -opAppend_nils]) ?_
  refine vseg_done ?_
  repeat refine vw_seqAt rfl ?_
  refine vw_regionRun rfl (by conv => lhs; reduce) (by conv => lhs; simp [-opAppend_own, -opAppend_nils]) ?_
  refine vseg_done ?_
  refine vw_ghost' 5 rfl ((Ghost.nils S2 1)) (by conv => lhs; simp [Fr.set]) ?_
  have hlt2 : S.nx ≤ S2.nx := hag3.1
  obtain ⟨w1, w2, w3, w4, w5, w6, w7, dv, w8, w9⟩ := hW3
  have hln : opLen (S2.add (1, [])) dv = some (.int .i64 (s.2.length : Int)) := by
    rcases w9 with ⟨rfl, h⟩ | ⟨od, rfl, k2, k3, k4, k5, k6⟩
    · simp [opLen, h]
    · have : ¬ od = S2.nx := by omega
      simp [opLen, Store.add, this, k2]
  have hgw : (S2.add (1, [])).get (S.nx + 1) = some (3, [vl (vl vnat) g, V.slice S.nx 0 g.length, dv]) := by
    have : ¬ S.nx + 1 = S2.nx := by omega
    simp [Store.add, this]; exact w8
  have hwr : IntKind.i64.wrap ((s.2.length : Int) - 1) = (s.2.length : Int) - 1 := wrap_i64 (by omega) (by omega)
  repeat refine vw_seqAt rfl ?_
  refine vw_regionRun rfl (by conv => lhs; reduce) (by conv => lhs; simp [-opAppend_own, -opAppend_nils, hgw, opFieldAddr, hln, hwr]) ?_
  refine vseg_done ?_
  repeat refine vw_seqAt rfl ?_
  refine vw_blockAt 0 rfl rfl ?_
  repeat refine vw_seqAt rfl ?_
  refine vw_loopAt [0, 4, 5, 6] rfl (fun c σ S' => ∃ (m oo : Nat), m ≤ s.2.length ∧ c = m ∧ Agree S S' ∧ S.nx ≤ oo ∧ oo < S'.nx ∧ oo ≠ S.nx + 1 ∧ S.nx + 1 < S'.nx ∧ S'.get (S.nx + 1) = some (3, [vl (vl vnat) g, V.slice S.nx 0 g.length, dv]) ∧ (dv = .nils ∧ s.2 = [] ∨ ∃ od, dv = .slice od 0 s.2.length ∧ S'.get od = some (1, s.2.map vnat) ∧ oo ≠ od ∧ od < S'.nx) ∧ S'.get oo = some (1, (s.2.drop m).reverse.map vnat) ∧ σ = [(0, vl (vl vnat) g), (4, .ptr (S.nx + 1) 0), (5, .slice oo 0 (s.2.length - m)), (6, vint ((m : Int) - 1))]) s.2.length ?_ ?_
  · refine ⟨s.2.length, S2.nx, Nat.le_refl _, rfl, hag3.add _, hlt2, Nat.lt_succ_self _, by omega, Nat.lt_succ_of_lt w5, hgw, ?_, by simp [Store.add], by simp [Fr.only, Fr.look, vnat, vint]⟩
    rcases w9 with h | ⟨od, rfl, k2, k3, k4, k5, k6⟩
    · exact .inl h
    · have : ¬ od = S2.nx := by omega
      exact .inr ⟨od, rfl, by simp [Store.add, this, k2], by omega, Nat.lt_succ_of_lt k6⟩
  · rintro m σ S' ⟨m', oo, hm, rfl, hag4, o1, o2, o3, o4, o5, o6, o7, rfl⟩
    cases m with
    | zero =>
      repeat refine vw_seqAt rfl ?_
      refine vw_regionRun rfl (by conv => lhs; reduce) (by conv => lhs; simp [-opAppend_own, -opAppend_nils]) ?_
      refine vseg_done ?_
      repeat refine vw_seqAt rfl ?_
      refine vw_condF rfl rfl rfl ?_
      repeat refine vw_seqAt rfl ?_
      refine vw_exitAt 0 rfl rfl ?_
      repeat refine vw_seqAt rfl ?_
      refine vw_regionRun rfl (by conv => lhs; reduce) (by conv => lhs; simp [-opAppend_own, -opAppend_nils]) ?_
      refine vseg_done ?_
      repeat refine vw_seqAt rfl ?_
      refine vw_retAt rfl ?_
      have hfr : Ghost (.slice oo 0 (s.2.length - 0)) S' (vl vnat s.2.reverse) (S'.del oo) :=
        Ghost.freeze1 o7 (by simp [vnat, V.closed1]) (by simp)
      exact ⟨_, Ghost.tuple [] [vint 0] hfr, hag4.del o1⟩
    | succ m =>
      rcases o6 with ⟨_, h0⟩ | ⟨od, rfl, k2, k3, k4⟩
      · rw [h0] at hm; simp at hm
      have t7 : (0 : Int) ≤ ((m + 1 : Nat) : Int) - 1 := by omega
      have hi : ((m + 1 : Nat) : Int) - 1 = (m : Int) := by omega
      have hmm : m < s.2.length := by omega
      have hw2 : IntKind.i64.wrap ((m : Int) - 1) = (m : Int) - 1 := wrap_i64 (by omega) (by omega)
      have hdr : (s.2.drop m).reverse = (s.2.drop (m + 1)).reverse ++ [s.2[m]] := by
        rw [List.drop_eq_getElem_cons hmm, List.reverse_cons]
      have ix := opIndex_sl (s := 1) (k := .i64) (off := 0) k2 hmm
      have ap := opAppend_push (S := S') (x := .int .i64 (s.2[m] : Int)) (b := 8) o7 o2 (by simp : _ = s.2.length - (m + 1)) (by omega) (by omega)
      have hgm : (List.map vnat s.2)[m]? = some (.int .i64 (s.2[m] : Int)) := by simp [hmm, vnat]
      rw [hi]
      have t8 : (0 : Int) ≤ (m : Int) := by omega
      repeat refine vw_seqAt rfl ?_
      refine vw_regionRun rfl (by conv => lhs; reduce) (by conv => lhs; simp [-opAppend_own, -opAppend_nils, t8]) ?_
      refine vseg_done ?_
      repeat refine vw_seqAt rfl ?_
      refine vw_condT rfl rfl rfl ?_
      repeat refine vw_seqAt rfl ?_
      refine vw_skipAt rfl ?_
      repeat refine vw_seqAt rfl ?_
      refine vw_blockAt 1 rfl rfl ?_
      repeat refine vw_seqAt rfl ?_
      refine vw_regionRun rfl (by conv => lhs; reduce) (by conv => lhs; simp [-opAppend_own, -opAppend_nils, o5, opFieldAddr, ix, k2, hmm, opBuild, rep0, splice, ap]) ?_
      refine vseg_done ?_
      repeat refine vw_seqAt rfl ?_
      refine vw_regionRun rfl (by conv => lhs; reduce) (by conv => lhs; simp [-opAppend_own, -opAppend_nils, hw2]) ?_
      refine vseg_done ?_
      refine again ⟨Nat.lt_succ_self m, m, S'.nx + 1, by omega, rfl, hag4.push o1, by have := hag4.1; omega, by show S'.nx + 1 < S'.nx + 2; omega, by omega, Nat.lt_add_right 2 o4, ?_, .inr ⟨od, rfl, ?_, by omega, Nat.lt_add_right 2 k4⟩, ?_, ?_⟩
      · rw [push_old o4 (Ne.symm o3)]; exact o5
      · rw [push_old k4 (Ne.symm k3)]; exact k2
      · rw [push_new, hdr]; simp [vnat]
      · have : s.2.length - (m + 1) + 1 = s.2.length - m := by omega
        simp [Fr.only, Fr.look, vnat, vint, this]
end Go.Vw
