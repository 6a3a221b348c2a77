import Derived.Test.YtgnoiaekmmfnmaaVSound3
/-
  Each operation over values without addresses is the model's: copy, slices, make, variables, and all together.
-/
set_option linter.unusedVariables false
namespace Go.Vw
open Go.RowKit

section
variable {P : Program} {N : Nat} {S : Store} {m : Imm} {β : Objs} {w : World} {σ : Fr} {a : Act}

theorem RepL.take {xs : List V} {vs : List Value} (h : RepL m β xs vs) (n : Nat) : RepL m β (xs.take n) (vs.take n) := by
  refine ⟨by simp [h.1], fun i x v hx hv => ?_⟩
  rw [List.getElem?_take] at hx hv
  split at hx
  · rename_i hi; rw [if_pos hi] at hv; exact h.2 i x v hx hv
  · cases hx

theorem does_copy {o : Oper} {t e : TypeId} {i : TypeInfo} {y u : Operand} {yz uz : Arg} {x : V} {S' : Store} (ho : o.op = .call { callee := .builtin .copy, args := #[y, u], argTypes := #[t, t] })
    (hs : Program.slc P t = some (e, i)) (hy : argOf y = some yz) (hu : argOf u = some uz) (hS : Holds S m β w) (hF : FrameRep N m β σ a)
    (he : opCopy i.size S (ev σ yz) (ev σ uz) = some (x, S')) : Does P ((execOp a.eval o).run P w) x S' m β w := by
  obtain ⟨hut, hi⟩ := slc_spec hs
  have hry := ev_rep hF hy
  have hru := ev_rep hF hu
  generalize ev σ yz = p at he hry
  generalize ev σ uz = q at he hru
  simp only [opCopy] at he
  cases hq : srcCells i.size S q with
  | none => simp [hq] at he
  | some nk =>
    obtain ⟨new, k⟩ := nk
    simp only [hq] at he
    obtain ⟨ad2, c2, e2, hk2, hcm2, vs, hvl, hvr, hvo, hvc⟩ := src_spec hS hru hq
    have hf : ∀ n, n ≤ k → (Builtin.firstCells i.size n (.slice ad2 k c2)).run P w = .ok (vs.take (n * i.size)).toArray w := fun n hn => run_first rfl hn hvl hvc
    have run : ∀ ad (dl dc : Nat) w', a.eval y = .slice ad dl dc → (∀ a', ad = some a' → (storeCells a' (vs.take (Nat.min k dl * i.size)) 0).run P w = .ok () w') → (ad = none → w' = w) →
        (execOp a.eval o).run P w = .ok (.value (.int .i64 (min k dl : Nat))) w' := by
      intro ad dl dc w' h1 h2 h3
      have hf' := hf (Nat.min k dl) (Nat.min_le_left _ _)
      cases ad with
      | none => rw [h3 rfl]; simp [execOp, ho, resolve, invoke, builtin, Builtin.copy_, h1, e2, run_underlying hut, Builtin.lenOf, sizeOf, typeInfo, hi, hf', goInt]
      | some a' => simp [execOp, ho, resolve, invoke, builtin, Builtin.copy_, h1, e2, run_underlying hut, Builtin.lenOf, sizeOf, typeInfo, hi, hf', goInt, h2 a' rfl]
    have zero : ∀ ad dc, a.eval y = .slice ad 0 dc → Does P ((execOp a.eval o).run P w) (.int .i64 (min k 0 : Nat)) S m β w := by
      intro ad dc h1
      exact Does.same hS (run ad 0 dc w h1 (fun a' _ => by simp [storeCells]) (fun _ => rfl)) (.imm (.int _ _))
    cases p with
    | nils =>
      simp only at he
      cases he
      obtain ⟨ad, e1⟩ := hry.inv_nils
      have := zero ad 0 e1
      simpa using this
    | slice o' off len =>
      simp only at he
      cases hc : S.get o' with
      | none => simp [hc] at he
      | some c =>
        simp only [hc] at he
        split at he
        · rename_i hle
          cases he
          obtain ⟨ad, cap, e1, hlc, hcm, hcase⟩ := hry.inv_slice (hS.alive hc)
          have triv : len = 0 → Does P ((execOp a.eval o).run P w) (.int .i64 (min k len : Nat)) (S.upd o' (c.1, splice c.2 off (new.take (min k len * i.size)))) m β w := by
            intro h0
            subst h0
            have e3 : S.upd o' (c.1, splice c.2 off (new.take (min k 0 * i.size))) = S := by
              refine Store.ext' (funext fun o2 => ?_) rfl
              simp only [Store.upd, splice, Nat.min_zero, Nat.zero_mul, List.take_zero, List.append_nil, List.length_nil, Nat.add_zero, List.take_append_drop]
              split
              · rename_i e4; subst e4; rw [hc]
              · rfl
            rw [e3]
            exact zero ad cap e1
          rcases hcase with ⟨hv, h1, h2⟩ | ⟨b, base, s, n, hob, hcase⟩
          · exact triv h1
          · rcases hcase with hcap | ⟨had, hroom⟩
            · exact triv (by omega)
            · subst had
              have hmin : min k len * i.size ≤ len * i.size := Nat.mul_le_mul_right _ (Nat.min_le_right _ _)
              have hmin2 : min k len * i.size ≤ k * i.size := Nat.mul_le_mul_right _ (Nat.min_le_left _ _)
              have hnl : new.length = k * i.size := by rw [hvr.1, hvl]
              obtain ⟨w', g1, g2, g3⟩ := hS.store (P := P) hc hob off (new.take (min k len * i.size)) (vs.take (min k len * i.size)) (hvr.take _) (fun v hv => hvo v (List.mem_of_mem_take hv)) (by simp; omega)
              exact ⟨_, w', m, β, .inl (run _ len cap w' e1 (fun a' ha' => by cases ha'; exact g1) (fun h => by cases h)), .imm (.int _ _), g2, g3⟩
        · cases he
    | _ => simp at he

theorem bound_run {d : Nat} {x : Option V} {v : Option Value} {n : Nat} (hx : boundOf d x = some n) (h : (x = none ∧ v = none) ∨ ∃ y u, x = some y ∧ v = some u ∧ Rep m β y u) :
    (v = none ∧ n = d) ∨ ∃ k i, v = some (.int k i) ∧ 0 ≤ i ∧ i.toNat = n := by
  rcases h with ⟨rfl, rfl⟩ | ⟨y, u, rfl, rfl, hr⟩
  · simp only [boundOf] at hx; cases hx; exact .inl ⟨rfl, rfl⟩
  · cases y with
    | int k i =>
      simp only [boundOf] at hx
      split at hx
      · rename_i h0
        cases hx
        rw [hr.inv_int]
        exact .inr ⟨k, i, rfl, h0, rfl⟩
      · cases hx
    | _ => simp [boundOf] at hx

theorem run_bounds {isS : Bool} {len cap l h q : Nat} {lo hi mx : Option Value} (hl : (lo = none ∧ l = 0) ∨ ∃ k i, lo = some (.int k i) ∧ 0 ≤ i ∧ i.toNat = l) (hh : (hi = none ∧ h = len) ∨ ∃ k i, hi = some (.int k i) ∧ 0 ≤ i ∧ i.toNat = h)
    (hm : (mx = none ∧ q = cap) ∨ ∃ k i, mx = some (.int k i) ∧ 0 ≤ i ∧ i.toNat = q) (h1 : l ≤ h) (h2 : h ≤ q) (h3 : q ≤ cap) (h4 : mx.isSome = true → hi.isSome = true) :
    (Instr.sliceBounds isS len cap lo hi mx).run P w = .ok (l, h, q) w := by
  have b : ∀ (k : IntKind) (i : Int) (y : Nat) (code : BoundsCode), 0 ≤ i → i.toNat ≤ y → (Instr.sliceBound (.int k i) y code).run P w = .ok i.toNat w := fun k i y code e1 e2 => run_sliceBound w k i y code e1 (by omega)
  rcases hl with ⟨rfl, rfl⟩ | ⟨k1, i1, rfl, e1, rfl⟩ <;> rcases hh with ⟨rfl, rfl⟩ | ⟨k2, i2, rfl, e2, rfl⟩ <;> rcases hm with ⟨rfl, rfl⟩ | ⟨k3, i3, rfl, e3, rfl⟩ <;>
    first
    | (simp at h4; done)
    | simp [Instr.sliceBounds, *]

theorem opt_rep (hF : FrameRep N m β σ a) {x : Option Operand} {y : Option Arg} (h : x.mapM argOf = some y) : (y.map (ev σ) = none ∧ x.map a.eval = none) ∨ ∃ z u, y.map (ev σ) = some z ∧ x.map a.eval = some u ∧ Rep m β z u := by
  cases x with
  | none => simp at h; subst h; exact .inl ⟨rfl, rfl⟩
  | some x =>
    simp at h
    obtain ⟨z, hz, rfl⟩ := h
    exact .inr ⟨_, _, rfl, rfl, ev_rep hF hz⟩

theorem opt_some {x : Option V} {v : Option Value} (h : (x = none ∧ v = none) ∨ ∃ z u, x = some z ∧ v = some u ∧ Rep m β z u) : x.isSome = v.isSome := by
  rcases h with ⟨rfl, rfl⟩ | ⟨z, u, rfl, rfl, _⟩ <;> rfl

theorem does_slice {o : Oper} {t e : TypeId} {i : TypeInfo} {y : Operand} {lo hi mx : Option Operand} {yz : Arg} {loz hiz mxz : Option Arg} {x : V} (ho : o.op = .slice t y lo hi mx)
    (hs : Program.slc P t = some (e, i)) (hy : argOf y = some yz) (hlo : lo.mapM argOf = some loz) (hhi : hi.mapM argOf = some hiz) (hmx : mx.mapM argOf = some mxz) (hS : Holds S m β w) (hF : FrameRep N m β σ a)
    (he : opSlice i.size S (ev σ yz) (loz.map (ev σ)) (hiz.map (ev σ)) (mxz.map (ev σ)) = some x) : Does P ((execOp a.eval o).run P w) x S m β w := by
  obtain ⟨hut, hi'⟩ := slc_spec hs
  have hry := ev_rep hF hy
  have r1 := opt_rep hF hlo
  have r2 := opt_rep hF hhi
  have r3 := opt_rep hF hmx
  have s2 := opt_some r2
  have s3 := opt_some r3
  generalize ev σ yz = p at he hry
  generalize loz.map (ev σ) = lv at he r1
  generalize hiz.map (ev σ) = hv at he r2 s2
  generalize mxz.map (ev σ) = mv at he r3 s3
  generalize hlo' : lo.map a.eval = lo' at r1
  generalize hhi' : hi.map a.eval = hi'' at r2 s2
  generalize hmx' : mx.map a.eval = mx' at r3 s3
  have run : ∀ ad (len cap l h q : Nat), a.eval y = .slice ad len cap → (Instr.sliceBounds true len cap lo' hi'' mx').run P w = .ok (l, h, q) w →
      (execOp a.eval o).run P w = .ok (.value (.slice (if q = l then ad else ad.map (·.add (l * i.size))) (h - l) (q - l))) w := by
    intro ad len cap l h q h1 h2
    simp [execOp, ho, hlo', hhi', hmx', h1, Instr.sliceAt, Instr.slice, run_underlying hut, h2, sizeOf, typeInfo, hi']
  -- the bounds, with the capacity that is there
  have bounds : ∀ (len cap l h q : Nat), len ≤ cap → boundOf 0 lv = some l → boundOf len hv = some h → boundOf len mv = some q → l ≤ h → h ≤ q → q ≤ len → (mv.isSome = true → hv.isSome = true) →
      ∃ q', q ≤ q' ∧ q' ≤ cap ∧ (mv.isSome = true → q' = q) ∧ (Instr.sliceBounds true len cap lo' hi'' mx').run P w = .ok (l, h, q') w := by
    intro len cap l h q hlc e1 e2 e3 h1 h2 h3 h4
    have b1 := bound_run e1 r1
    have b2 := bound_run e2 r2
    have b3 := bound_run e3 r3
    rw [s2, s3] at h4
    rcases b3 with ⟨b31, b32⟩ | b3
    · exact ⟨cap, by omega, Nat.le_refl _, (fun hm => by rw [s3, b31] at hm; cases hm), run_bounds b1 b2 (.inl ⟨b31, rfl⟩) h1 (by omega) (Nat.le_refl _) h4⟩
    · exact ⟨q, Nat.le_refl _, by omega, fun _ => rfl, run_bounds b1 b2 (.inr b3) h1 h2 (by omega) h4⟩
  cases p with
  | list xs =>
    simp only [opSlice] at he
    split at he
    · rename_i l h q e1 e2 e3
      split at he
      · rename_i hc
        obtain ⟨c1, c2, c3, c4, c5⟩ := hc
        cases hq : a.eval y with
        | slice ad len cap =>
          have hl := hry.inv_list
          rw [hq] at hl
          have hlen : len = xs.length ∧ xs.length ≤ cap ∧ cap ≤ maxLen := by
            cases hl with
            | list0 _ _ hc => exact ⟨rfl, Nat.zero_le _, hc⟩
            | list _ _ _ _ _ _ _ _ _ _ _ hc hcm => exact ⟨rfl, hc, hcm⟩
          obtain ⟨hlen, hle, hcm⟩ := hlen
          subst hlen
          obtain ⟨q', f1, f2, f3, f4⟩ := bounds xs.length cap l h q hle e1 e2 e3 c1 c2 c3 c4
          have hr := run ad xs.length cap l h q' hq f4
          split at he
          · rename_i h0
            cases he
            have := f3 h0.2
            have hq0 : q' = 0 := by omega
            subst hq0
            have hl0 : l = 0 := by omega
            subst hl0
            have hh0 : h = 0 := by omega
            subst hh0
            exact Does.same hS hr (.imm (.nils _))
          · cases he
            refine Does.same hS hr ?_
            have hlen2 : ((xs.take h).drop l).length = h - l := by simp; omega
            by_cases hemp : h - l = 0
            · have e0 : (xs.take h).drop l = [] := List.eq_nil_of_length_eq_zero (by omega)
              rw [e0, hemp]
              exact .imm (.list0 _ _ (by omega))
            · cases hl with
              | list0 => simp at c3 c2 c1 hemp; omega
              | list _ vs b off _ s' arr T fz hm hl' hc' hcm' hs' hr' hcells =>
                have hpos : 0 < xs.length := by omega
                have hv0 : 0 < vs.length := by omega
                have hss : l * s' = l * i.size := by
                  rcases c5 with c5 | c5
                  · rw [c5, Nat.zero_mul, Nat.zero_mul]
                  · have hall : ∀ x ∈ xs, x.ncells = i.size := by simpa using c5
                    have h1 := hr' 0 xs[0] vs[0] (List.getElem?_eq_getElem hpos) (List.getElem?_eq_getElem hv0)
                    rw [← hs' vs[0] (List.getElem_mem hv0), h1.cells_size, hall _ (List.getElem_mem hpos)]
                have hvlen : ((vs.take h).drop l).length = h - l := by simp; omega
                have hq'l : q' ≠ l := by omega
                rw [if_neg hq'l]
                simp only [Option.map_some, add_lit', ← hss]
                have := RepI.list (m := m) ((xs.take h).drop l) ((vs.take h).drop l) b (off + l * s') (q' - l) s' arr T fz hm (by omega) (by omega) (by omega)
                  (fun v hv => hs' v (List.mem_of_mem_take (List.mem_of_mem_drop hv)))
                  (fun j x v hx hv => by
                    rw [List.getElem?_drop, List.getElem?_take] at hx hv
                    split at hx
                    · rename_i hj; rw [if_pos hj] at hv; exact hr' _ x v hx hv
                    · cases hx)
                  (fun j v jj c hv hc => by
                    rw [List.getElem?_drop, List.getElem?_take] at hv
                    split at hv
                    · have := hcells _ v jj c hv hc
                      rw [Nat.add_mul] at this
                      rw [← this]
                      congr 1; omega
                    · cases hv)
                rw [hlen2] at this
                exact .imm this
        | _ => have hl := hry.inv_list; rw [hq] at hl; cases hl
      · cases he
    · cases he
  | slice o' off len =>
    simp only [opSlice] at he
    split at he
    · rename_i l h q e1 e2 e3
      split at he
      · rename_i hc
        obtain ⟨c0, c1, c2, c3, c4⟩ := hc
        cases he
        obtain ⟨c, hc, hcs⟩ := Option.map_eq_some_iff.1 c0
        obtain ⟨ad, cap, ev', hlc, hcm, hcase⟩ := hry.inv_slice (hS.alive hc)
        obtain ⟨q', f1, f2, f3, f4⟩ := bounds len cap l h q hlc e1 e2 e3 c1 c2 c3 c4
        have hr := run ad len cap l h q' ev' f4
        refine Does.same hS hr ?_
        rcases hcase with ⟨hv', h1, h2⟩ | ⟨b, base, s, n, hob, hcase⟩
        · subst h1; subst h2
          have hq0 : q' = 0 := by omega
          subst hq0
          have hl0 : l = 0 := by omega
          subst hl0
          have hh0 : h = 0 := by omega
          subst hh0
          exact .sliceVoid _ _ _ hv'
        · obtain ⟨hs', _⟩ := hS.cells_at hc hob
          have hss : s = i.size := by rw [← hs', hcs]
          subst hss
          by_cases hql : q' = l
          · rw [if_pos hql]
            exact .slice o' _ (h - l) b base i.size n (q' - l) ad hob (by omega) (by omega) (.inl (by omega))
          · rw [if_neg hql]
            rcases hcase with hcap | ⟨had, hroom⟩
            · omega
            · subst had
              simp only [Option.map_some, add_lit']
              have e5 : l * i.size + (q' - l) * i.size = q' * i.size := by rw [← Nat.add_mul]; congr 1; omega
              have e6 : q' * i.size ≤ cap * i.size := Nat.mul_le_mul_right _ f2
              have := Rep.slice (m := m) (β := β) o' (off + l * i.size) (h - l) b base i.size n (q' - l) (some ⟨b, base + (off + l * i.size), none⟩) hob (by omega) (by omega) (.inr ⟨rfl, by omega⟩)
              rwa [← Nat.add_assoc] at this
      · cases he
    · cases he
  | nils =>
    simp only [opSlice] at he
    split at he
    · rename_i e1 e2 e3
      split at he
      · rename_i c4
        cases he
        obtain ⟨ad, ev'⟩ := hry.inv_nils
        obtain ⟨q', f1, f2, f3, f4⟩ := bounds 0 0 0 0 0 (Nat.le_refl _) e1 e2 e3 (Nat.le_refl _) (Nat.le_refl _) (Nat.le_refl _) c4
        have hq0 : q' = 0 := by omega
        subst hq0
        exact Does.same hS (run ad 0 0 0 0 0 ev' f4) (.imm (.nils _))
      · cases he
    · cases he
  | _ => simp [opSlice] at he
end
end Go.Vw
