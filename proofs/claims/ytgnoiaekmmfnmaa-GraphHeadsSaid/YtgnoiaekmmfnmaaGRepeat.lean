import Derived.Test.YtgnoiaekmmfnmaaVSimp
import Derived.Test.YtgnoiaekmmfnmaaProg
import Derived.Test.YtgnoiaekmmfnmaaGOrd
set_option linter.unusedVariables false
set_option linter.unusedSimpArgs false
namespace Go.Vw
open Go.Proofs Go.RowKit
set_option maxRecDepth 10000
set_option maxHeartbeats 4000000

theorem u64_bits : IntKind.u64.bits = 64 := nr rfl
theorem mask_small {n : Nat} (h : n < 4294967296) : n % 18446744073709551616 &&& 4294967295 = n := by
  have e : n % 18446744073709551616 = n := by omega
  rw [e]
  have := Nat.and_two_pow_sub_one_eq_mod n 32
  rw [show (4294967295 : Nat) = 2 ^ 32 - 1 from rfl, this]
  exact Nat.mod_eq_of_lt h
theorem u64_wrap {n : Nat} (h : n < 4294967296) : IntKind.u64.wrap (n : Int) = n := by
  have e : IntKind.u64.wrap (n : Int) = (n : Int) % 18446744073709551616 := rfl
  rw [e]; omega
theorem shr_small {n : Nat} (h : n < 4294967296) : Int.fdiv (n : Int) 4294967296 = 0 := by
  rw [Int.fdiv_eq_ediv_of_nonneg _ (by omega)]; omega

theorem Mul64_v (n : Nat) (h : n < 4294967296) : VPure Try.prog 37 [.int .u64 1, .int .u64 (n : Int)] (.tuple [.int .u64 0, .int .u64 (n : Int)]) := by
  intro S
  refine vcalls_start (c := bodyOf Try.f37) Try.func37 rfl rfl (by simp [Try.ntmps37]) ?_
  rw [Try.ntmps37]
  intro hwf
  have h1 := mask_small h
  have h2 := u64_wrap h
  have h3 := shr_small h
  have h4 : IntKind.u64.wrap 0 = 0 := by decide
  have h5 : IntKind.u64.wrap 1 = 1 := by decide
  have h6 : Int.fdiv 1 4294967296 = 0 := by decide
  have h7 : Int.fdiv 0 4294967296 = 0 := by decide
  repeat (first | refine vw_seqAt rfl ?_ | refine vw_scopeAt rfl ?_ | refine vw_labelAt rfl ?_ | refine vw_skipAt rfl ?_ | refine vw_exitAt _ rfl rfl ?_ | refine vw_retAt rfl ?_ | (refine vw_condT rfl rfl ?_ ?_; focus (simp [ev, Fr.look]; done)) | (refine vw_condF rfl rfl ?_ ?_; focus (simp [ev, Fr.look]; done)) | refine vw_blockAt _ rfl rfl ?_ | (apply vw_regionRun; (focus rfl); (focus ((conv => lhs; reduce); done)); (focus ((conv => lhs; simp [-List.map_set, set_vnat, set_vnat1, set_vint, set_bool, u64_bits, h1, h2, h3, h4, h5, h6, h7]); done)); refine vseg_done ?_) | (apply vw_drawPlain; (focus rfl); (focus kernel_rfl); (focus ((conv => lhs; reduce); done)); (focus ((conv => lhs; reduce); done)); (focus (kernel_rfl)); (focus ((conv => lhs; simp [-List.map_set, set_vnat, set_vnat1, set_vint, set_bool, u64_bits, h1, h2, h3, h4, h5, h6, h7]); done)); refine vseg_done ?_))
  exact done_pure (l := []) hwf (by simp [resV, Fr.look]) rfl

theorem Mul_v (n : Nat) (h : n < 4294967296) : VPure Try.prog 35 [.int .u64 1, .int .u64 (n : Int)] (.tuple [.int .u64 0, .int .u64 (n : Int)]) := by
  intro S
  refine vcalls_start (c := bodyOf Try.f35) Try.func35 rfl rfl (by simp [Try.ntmps35]) ?_
  rw [Try.ntmps35]
  intro hwf
  repeat (first | refine vw_seqAt rfl ?_ | refine vw_scopeAt rfl ?_ | refine vw_labelAt rfl ?_ | refine vw_skipAt rfl ?_ | refine vw_exitAt _ rfl rfl ?_ | refine vw_retAt rfl ?_ | (refine vw_condT rfl rfl ?_ ?_; focus (simp [ev, Fr.look]; done)) | (refine vw_condF rfl rfl ?_ ?_; focus (simp [ev, Fr.look]; done)) | refine vw_blockAt _ rfl rfl ?_ | (apply vw_regionRun; (focus rfl); (focus ((conv => lhs; reduce); done)); (focus ((conv => lhs; simp [-List.map_set, set_vnat, set_vnat1, set_vint, set_bool]); done)); refine vseg_done ?_) | (apply vw_drawPlain; (focus rfl); (focus kernel_rfl); (focus ((conv => lhs; reduce); done)); (focus ((conv => lhs; reduce); done)); (focus (kernel_rfl)); (focus ((conv => lhs; simp [-List.map_set, set_vnat, set_vnat1, set_vint, set_bool]); done)); refine vseg_done ?_))
  repeat refine vw_seqAt rfl ?_
  refine vw_regionRun rfl (by conv => lhs; reduce) (by conv => lhs; simp [-List.map_set, set_vnat, set_vnat1, set_vint, set_bool]) ?_
  refine vcall_use rfl (Mul64_v n h) ?_
  refine vseg_more (by conv => lhs; simp [-List.map_set, set_vnat, set_vnat1, set_vint, set_bool]) ?_
  refine vseg_done ?_
  repeat (first | refine vw_seqAt rfl ?_ | refine vw_scopeAt rfl ?_ | refine vw_labelAt rfl ?_ | refine vw_skipAt rfl ?_ | refine vw_exitAt _ rfl rfl ?_ | refine vw_retAt rfl ?_ | (refine vw_condT rfl rfl ?_ ?_; focus (simp [ev, Fr.look]; done)) | (refine vw_condF rfl rfl ?_ ?_; focus (simp [ev, Fr.look]; done)) | refine vw_blockAt _ rfl rfl ?_ | (apply vw_regionRun; (focus rfl); (focus ((conv => lhs; reduce); done)); (focus ((conv => lhs; simp [-List.map_set, set_vnat, set_vnat1, set_vint, set_bool]); done)); refine vseg_done ?_) | (apply vw_drawPlain; (focus rfl); (focus kernel_rfl); (focus ((conv => lhs; reduce); done)); (focus ((conv => lhs; reduce); done)); (focus (kernel_rfl)); (focus ((conv => lhs; simp [-List.map_set, set_vnat, set_vnat1, set_vint, set_bool]); done)); refine vseg_done ?_))
  exact done_pure (l := []) hwf (by simp [resV, Fr.look]) rfl

/-- A list as far as it is filled. -/
def rcells (v : Int) (n m : Nat) : List V := List.replicate m (.int .i64 v) ++ List.replicate (n - m) (.int .i64 0)
theorem rcells_len {v : Int} {n m : Nat} (h : m ≤ n) : (rcells v n m).length = n := by simp [rcells]; omega
theorem rcells_step {v : Int} {n m : Nat} (h : m ≤ n) : splice (rcells v n m) m ((((rcells v n m).drop 0).take (m * 1)).take (min m (n - m) * 1)) = rcells v n (m + min m (n - m)) := by
  have e1 : (((rcells v n m).drop 0).take (m * 1)).take (min m (n - m) * 1) = List.replicate (min m (n - m)) (V.int .i64 v) := by
    rw [List.drop_zero, Nat.mul_one, Nat.mul_one, rcells, List.take_left' (by simp)]
    rw [List.take_replicate]; congr 1; omega
  rw [e1, splice, List.length_replicate, rcells, List.take_left' (by simp)]
  rw [List.drop_append, List.drop_eq_nil_of_le (by simp), List.length_replicate]
  simp only [List.nil_append, List.drop_replicate, rcells]
  rw [List.replicate_append_replicate]
  congr 2; omega
theorem Repeat_v (S : Store) (o : Nat) (v : Int) (n : Nat) (hn : 1 ≤ n) (hn2 : n ≤ 65536) (ho : S.get o = some (1, [.int .i64 v])) :
    VCalls Try.prog 29 [.slice o 0 1, vnat n] S (fun r S' => r = .slice S.nx 0 n ∧ S' = S.add (1, List.replicate n (.int .i64 v))) := by
  refine vcalls_start (c := bodyOf Try.f29) Try.func29 rfl rfl (by simp [Try.ntmps29]) ?_
  rw [Try.ntmps29]
  intro hwf
  have hon : o < S.nx := by
    rcases Nat.lt_or_ge o S.nx with h | h
    · exact h
    · rw [hwf.gone o h] at ho; cases ho
  have hold := fun u l => @St_old S u l o hon
  have h2 := u64_wrap (n := n) (by omega)
  have h5 : IntKind.u64.wrap 1 = 1 := by decide
  have h6 : ¬ (9223372036854775807 : Int) < (n : Int) := by omega
  have hw : IntKind.i64.wrap (n : Int) = n := wrap_i64 (by omega) (by omega)
  have hb8 : n * 8 ≤ 140737488355328 := by omega
  have hb0 : n ≤ 140737488355328 := by omega
  have hmin : min 1 n = 1 := by omega
  repeat (first | refine vw_seqAt rfl ?_ | refine vw_scopeAt rfl ?_ | refine vw_labelAt rfl ?_ | refine vw_skipAt rfl ?_ | refine vw_exitAt _ rfl rfl ?_ | refine vw_retAt rfl ?_ | (refine vw_condT rfl rfl ?_ ?_; focus (simp [ev, Fr.look]; done)) | (refine vw_condF rfl rfl ?_ ?_; focus (simp [ev, Fr.look]; done)) | refine vw_blockAt _ rfl rfl ?_ | (apply vw_regionRun; (focus rfl); (focus ((conv => lhs; reduce); done)); (focus ((conv => lhs; simp [-List.map_set, set_vnat, set_vnat1, set_vint, set_bool, hold, ho, h2, h5]); done)); refine vseg_done ?_) | (apply vw_drawPlain; (focus rfl); (focus kernel_rfl); (focus ((conv => lhs; reduce); done)); (focus ((conv => lhs; reduce); done)); (focus (kernel_rfl)); (focus ((conv => lhs; simp [-List.map_set, set_vnat, set_vnat1, set_vint, set_bool, hold, ho, h2, h5]); done)); refine vseg_done ?_))
  repeat refine vw_seqAt rfl ?_
  refine vw_regionRun rfl (by conv => lhs; reduce) (by conv => lhs; simp [-List.map_set, set_vnat, set_vnat1, set_vint, set_bool, hold, ho, h2, h5]) ?_
  refine vcall_use rfl (Mul_v n (by omega)) ?_
  refine vseg_more (by conv => lhs; simp [-List.map_set, set_vnat, set_vnat1, set_vint, set_bool]) ?_
  refine vseg_done ?_
  repeat (first | refine vw_seqAt rfl ?_ | refine vw_scopeAt rfl ?_ | refine vw_labelAt rfl ?_ | refine vw_skipAt rfl ?_ | refine vw_exitAt _ rfl rfl ?_ | refine vw_retAt rfl ?_ | (refine vw_condT rfl rfl ?_ ?_; focus (simp [ev, Fr.look]; done)) | (refine vw_condF rfl rfl ?_ ?_; focus (simp [ev, Fr.look]; done)) | refine vw_blockAt _ rfl rfl ?_ | (apply vw_regionRun; (focus rfl); (focus ((conv => lhs; reduce); done)); (focus ((conv => lhs; simp [-List.map_set, set_vnat, set_vnat1, set_vint, set_bool, h6, hw, hb8, hb0, hold, ho, hmin, opCopy, srcCells]); done)); refine vseg_done ?_) | (apply vw_drawPlain; (focus rfl); (focus kernel_rfl); (focus ((conv => lhs; reduce); done)); (focus ((conv => lhs; reduce); done)); (focus (kernel_rfl)); (focus ((conv => lhs; simp [-List.map_set, set_vnat, set_vnat1, set_vint, set_bool, h6, hw, hb8, hb0, hold, ho, hmin, opCopy, srcCells]); done)); refine vseg_done ?_))
  repeat refine vw_seqAt rfl ?_
  refine vw_loopAt [7, 8] rfl (fun c σ S' => ∃ m : Nat, 1 ≤ m ∧ m ≤ n ∧ c = n - m ∧ σ = [(7, .slice (lid S.nx 0) 0 n), (8, vnat m)] ∧ S' = St S [] [some (1, rcells v n m)]) (n - 1) ?_ ?_
  · refine ⟨1, by omega, hn, rfl, by simp [Fr.only, Fr.look, vnat], ?_⟩
    have e : n = (n - 1) + 1 := by omega
    rw [rcells]
    simp [List.drop_replicate]
  · rintro c σ T ⟨m, hm1, hm2, rfl, rfl, rfl⟩
    have hlen := rcells_len (v := v) hm2
    by_cases hlt : m < n
    · have hml : m ≤ n := by omega
      have hcp : opCopy 1 (St S [] [some (1, rcells v n m)]) (.slice (lid S.nx 0) m (n - m)) (.slice (lid S.nx 0) 0 m) = some (.int .i64 (min m (n - m) : Nat), St S [] [some (1, rcells v n (m + min m (n - m)))]) := by
        have e1 : srcCells 1 (St S [] [some (1, rcells v n m)]) (.slice (lid S.nx 0) 0 m) = some (((rcells v n m).drop 0).take (m * 1), m) := by
          simp only [srcCells, St_get, List.getElem?_cons_zero, Option.join_some]
          rw [if_pos (by omega)]
        simp only [opCopy, e1, St_get, List.getElem?_cons_zero, Option.join_some]
        rw [if_pos (by omega), rcells_step hm2, St_upd (by simp)]
        rfl
      have hw2 : IntKind.i64.wrap ((m : Int) + (min m (n - m) : Nat)) = ((m + min m (n - m) : Nat) : Int) := by
        rw [wrap_i64 (by omega) (by omega)]; omega
      repeat (first | refine vw_seqAt rfl ?_ | refine vw_scopeAt rfl ?_ | refine vw_labelAt rfl ?_ | refine vw_skipAt rfl ?_ | refine vw_exitAt _ rfl rfl ?_ | refine vw_retAt rfl ?_ | (refine vw_condT rfl rfl ?_ ?_; focus (simp [ev, Fr.look]; done)) | (refine vw_condF rfl rfl ?_ ?_; focus (simp [ev, Fr.look]; done)) | refine vw_blockAt _ rfl rfl ?_ | (apply vw_regionRun; (focus rfl); (focus ((conv => lhs; reduce); done)); (focus ((conv => lhs; simp [-List.map_set, set_vnat, set_vnat1, set_vint, set_bool, hlt]); done)); refine vseg_done ?_) | (apply vw_drawPlain; (focus rfl); (focus kernel_rfl); (focus ((conv => lhs; reduce); done)); (focus ((conv => lhs; reduce); done)); (focus (kernel_rfl)); (focus ((conv => lhs; simp [-List.map_set, set_vnat, set_vnat1, set_vint, set_bool, hlt]); done)); refine vseg_done ?_))
      repeat refine vw_seqAt rfl ?_
      refine vw_drawW (St S [] [none]) (St S [] [some (1, rcells v n m)]) [] rfl (by kernel_rfl) (by conv => lhs; reduce) (by conv => lhs; reduce) (by kernel_rfl) (by kernel_rfl) (ok_St (by simp [subU, shpU, subL, shpL])) (by conv => lhs; simp [-List.map_set, set_vnat, set_vnat1, set_vint, set_bool, hml]) ?_
      refine vseg_write rfl (by conv => lhs; simp [-List.map_set, set_vnat, set_vnat1, set_vint, set_bool, hcp]) (ok_St (by simp [subU, shpU, subL, shpL])) ?_
      refine vseg_more (by conv => lhs; simp [-List.map_set, set_vnat, set_vnat1, set_vint, set_bool]) ?_
      refine vseg_done ?_
      show Again _ _ _ _ _ _ _
      exact again ⟨(by omega : n - (m + min m (n - m)) < n - m), m + min m (n - m), by omega, by omega, rfl, by rw [hw2]; simp [Fr.only, Fr.look, vnat], rfl⟩
    · have hmn : m = n := by omega
      subst hmn
      repeat (first | refine vw_seqAt rfl ?_ | refine vw_scopeAt rfl ?_ | refine vw_labelAt rfl ?_ | refine vw_skipAt rfl ?_ | refine vw_exitAt _ rfl rfl ?_ | refine vw_retAt rfl ?_ | (refine vw_condT rfl rfl ?_ ?_; focus (simp [ev, Fr.look]; done)) | (refine vw_condF rfl rfl ?_ ?_; focus (simp [ev, Fr.look]; done)) | refine vw_blockAt _ rfl rfl ?_ | (apply vw_regionRun; (focus rfl); (focus ((conv => lhs; reduce); done)); (focus ((conv => lhs; simp [-List.map_set, set_vnat, set_vnat1, set_vint, set_bool, hlt]); done)); refine vseg_done ?_) | (apply vw_drawPlain; (focus rfl); (focus kernel_rfl); (focus ((conv => lhs; reduce); done)); (focus ((conv => lhs; reduce); done)); (focus (kernel_rfl)); (focus ((conv => lhs; simp [-List.map_set, set_vnat, set_vnat1, set_vint, set_bool, hlt]); done)); refine vseg_done ?_))
      refine ⟨.slice S.nx 0 m, _, ?_, rfl, rfl⟩
      have e : St S [] [some (1, rcells v m m)] = S.add (1, List.replicate m (.int .i64 v)) := by
        have := @St_add S [] [] (1, List.replicate m (.int .i64 v))
        rw [St_nil hwf] at this
        rw [this]; simp [rcells]
      rw [← e]
      have : lid S.nx 0 = S.nx := rfl
      rw [← this]
      exact GhostB.refl _ _ _
end Go.Vw
