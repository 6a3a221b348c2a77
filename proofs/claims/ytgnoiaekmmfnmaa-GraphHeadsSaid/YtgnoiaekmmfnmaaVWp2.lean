import Derived.Test.YtgnoiaekmmfnmaaVWp
/-
  Regions and bodies: from values without addresses to the model's runs.
-/
set_option linter.unusedVariables false
namespace Go.Vw
open Go.RowKit

theorem callv_run {P : Program} {N : Nat} {m : Imm} {β : Objs} {w : World} {a : Act} {σ : Fr} {o : Oper} {c : Call} {fz : Arg} {args : List Arg} {g : FuncId} {caps : List V} (ho : o.op = .call c) (hc : compCall P c = some (.callv fz args)) (hF : FrameRep N m β σ a)
    (hg : ev σ fz = .func g caps) (hcall : callable P g = true) :
    ∃ vs : List Value, (execOp a.eval o).run P w = .ok (.enter g vs.toArray) w ∧ RepL m β (args.map (ev σ) ++ caps) vs := by
  obtain ⟨callee, as, argTypes⟩ := c
  unfold compCall at hc
  split at hc
  · split at hc <;> (try cases hc) <;> (obtain ⟨z, hz, h⟩ := Option.map_eq_some_iff.1 hc; cases h)
  · split at hc
    · split at hc
      · split at hc
        · split at hc <;> cases hc
        · cases hc
      · cases hc
    · cases hc
  · split at hc
    · split at hc <;> cases hc
    · cases hc
  · split at hc
    · split at hc
      · cases hc
      · obtain ⟨zs, hz, h⟩ := Option.map_eq_some_iff.1 hc
        cases h
    · cases hc
  · rename_i fv hnf h1
    simp only at h1
    subst h1
    split at hc
    · rename_i fz' args' k1 k2
      cases hc
      have hr := ev_rep hF k1
      rw [hg] at hr
      obtain ⟨cvs, e, hcr⟩ := hr.inv_func
      have has := evs_rep hF k2
      unfold callable at hcall
      split at hcall
      · rename_i fn hfn
        simp only [Bool.not_eq_true', Bool.or_eq_false_iff] at hcall
        have hn1' : ¬ fn.name = "runtime.NumGoroutine" := by simpa using hcall.1
        have hn2' : ¬ fn.body = none := by intro h; simp [h] at hcall
        refine ⟨as.toList.map a.eval ++ cvs, ?_, has.append hcr⟩
        have hargs : as.map a.eval = (as.toList.map a.eval).toArray := by simp [← Array.toList_map]
        simp [execOp, ho, resolve, e, Deferred.ofValue, invoke, callFunc, hfn, hn1', hn2', hargs]
      · cases hcall
    · cases hc
  · cases hc

section
variable {P : Program} {N b : Nat} {Q : Exit → Fr → Store → Prop}

def Post (N b : Nat) (Q : Exit → Fr → Store → Prop) (m : Imm) (β : Objs) (w : World) (e : Exit) (a' : Act) (w' : World) : Prop :=
  ∃ σ' S' m' β', Q e σ' S' ∧ Holds S' m' β' w' ∧ FrameRep N m' β' σ' a' ∧ ExtB b m β w m' β' w'

theorem vop_sound {o : Oper} {co : COp} (hc : compOp P o = some co) (hd : ∀ t, o.dst = some t → t < N) {σ : Fr} {S : Store} {k : V → Store → Prop} (h : vop P σ S co k) {m0 : Imm} {β0 : Objs} {w0 : World} {m : Imm} {β : Objs} {w : World} {a : Act}
    (hS : Holds S m β w) (hF : FrameRep N m β σ a) (he : ExtB b m0 β0 w0 m β w) {next : Act → World → Prop} {Q' : Exit → Act → World → Prop}
    (hnext : ∀ x S' m' β' w' a', k x S' → Holds S' m' β' w' → FrameRep N m' β' (σ.put o.dst x) a' → ExtB b m0 β0 w0 m' β' w' → next a' w') : o.wp P a w next Q' := by
  by_cases hs : co.simple = true
  · have hev : ∃ x S', evalOp (ev σ) S co = some (x, S') ∧ k x S' := by
      cases co <;> first | (simp [COp.simple] at hs; done) | (simp only [vop] at h; split at h <;> first | exact ⟨_, _, ‹_›, h⟩ | exact h.elim)
    obtain ⟨x, S', hx, hk⟩ := hev
    obtain ⟨v, w', m', β', hr, hx', hS', hE⟩ := op_sound hc hx hS hF
    unfold Oper.wp
    have hF' := (hF.ext hE).put o.dst hd hx'
    rcases hr with hr | ⟨hr, hv⟩
    · rw [hr]; exact hnext _ _ _ _ _ _ hk hS' hF' (he.trans (hE.toB b))
    · rw [hr]; subst hv; exact hnext _ _ _ _ _ _ hk hS' hF' (he.trans (hE.toB b))
  · obtain ⟨c, ho, hcc⟩ := compOp_call hc (by simpa using hs)
    have fin : ∀ (f : FuncId) (args : List V) (vs : List Value), VCalls P f args S k → RepL m β args vs → (execOp a.eval o).run P w = .ok (.enter f vs.toArray) w → o.wp P a w next Q' := by
      intro f args vs h1 h2 h3
      unfold Oper.wp
      rw [h3]
      refine (h1 m β w vs hS h2).mono ?_
      rintro e w' ⟨v, x, S', m', β', rfl, hk, hx, hS', hE⟩
      exact hnext x S' m' β' w' _ hk hS' ((hF.ext hE).put o.dst hd hx) (he.trans (hE.toB b))
    cases co with
    | call f args =>
      obtain ⟨vs, h1, h2⟩ := call_run (w := w) ho hcc hF
      exact fin f _ vs h h2 h1
    | callv fz args =>
      simp only [vop] at h
      split at h
      · rename_i g caps hg
        obtain ⟨vs, h1, h2⟩ := callv_run (w := w) ho hcc hF hg h.1
        exact fin g _ vs h.2 h2 h1
      · exact h.elim
    | _ => simp [COp.simple] at hs

theorem vseg_sound {ops : Array Oper} {m0 : Imm} {β0 : Objs} {w0 : World} : ∀ (l : List Oper) (cs : List CO) (σ : Fr) (S : Store) (m : Imm) (β : Objs) (w : World) (a : Act), l.mapM (compOne P N ops) = some cs → vseg P cs (Q .normal) σ S →
    Holds S m β w → FrameRep N m β σ a → ExtB b m0 β0 w0 m β w → wpList P ops (Post N b Q m0 β0 w0) l a w
  | [], cs, σ, S, m, β, w, a, hl, h, hS, hF, he => by
    simp at hl; subst hl
    exact ⟨σ, S, m, β, h, hS, hF, he⟩
  | o :: l, cs, σ, S, m, β, w, a, hl, h, hS, hF, he => by
    simp only [List.mapM_cons, Option.bind_eq_bind, Option.bind_eq_some_iff] at hl
    obtain ⟨c, hc, cs', hcs', hl⟩ := hl
    simp at hl; subst hl
    unfold compOne at hc
    split at hc
    · rename_i co g h1 h2
      split at hc
      · rename_i hdst
        cases hc
        have hd : ∀ t, o.dst = some t → t < N := by
          intro t ht; rw [ht] at hdst; simpa using hdst
        simp only [wpList]
        have run : vop P σ S co (fun v S' => vseg P cs' (Q .normal) (σ.put o.dst v) S') → o.wp P a w (wpList P ops (Post N b Q m0 β0 w0) l) (Post N b Q m0 β0 w0) := fun hv =>
          vop_sound h1 hd hv hS hF he fun x S' m' β' w' a' k1 k2 k3 k4 => vseg_sound l cs' _ S' m' β' w' a' hcs' k1 k2 k3 k4
        have skip : vseg P cs' (Q .normal) (σ.put o.dst (.tuple [])) S → wpList P ops (Post N b Q m0 β0 w0) l (a.put o.dst undef) w := fun hv =>
          vseg_sound l cs' _ S m β w _ hcs' hv hS (hF.put o.dst hd (rep_undef m β)) he
        cases hg : o.guard with
        | none =>
          rw [hg] at h2
          simp [compGuard] at h2; subst h2
          have hw : Region.wanted o (yielded ops a.tmps) = true := by simp [Region.wanted, hg]
          rw [if_pos hw]
          simp only [vseg] at h
          exact .inl (run h)
        | some jw =>
          obtain ⟨j, want⟩ := jw
          rw [hg] at h2
          simp only [compGuard] at h2
          split at h2
          · rename_i t ht
            cases h2
            simp only [vseg] at h
            split at h
            · rename_i b hb
              have hy := yielded_bool hF ht hb
              split at h
              · rename_i hbw
                have hw : Region.wanted o (yielded ops a.tmps) = true := by simp [Region.wanted, hg, hy, hbw]
                rw [if_pos hw]; exact .inl (run h)
              · rename_i hbw
                have hw : ¬ Region.wanted o (yielded ops a.tmps) = true := by simp [Region.wanted, hg, hy, hbw]
                rw [if_neg hw]; exact skip h
            · rename_i hb
              have hy := yielded_undef hF ht hb
              have hw : ¬ Region.wanted o (yielded ops a.tmps) = true := by simp [Region.wanted, hg, hy]
              rw [if_neg hw]; exact skip h
            · exact h.elim
          · cases h2
      · cases hc
    · cases hc

theorem vw_region {id : Nat} {ops : Array Oper} {cs : List CO} {σ : Fr} {S : Store} (hc : compOps P N ops = some cs) (h : vseg P cs (Q .normal) σ S) : VWp P N b (.region id ops false) Q σ S :=
  fun m β w a hS hF => wp_region_list (vseg_sound ops.toList cs σ S m β w a hc h hS hF (ExtB.refl _ _ _ _))

/-! ### Bodies -/
def resT (fn : Func) : Option (List Nat) := fn.results.toList.mapM fun | .tmp t => some t | .cell _ _ => none

def resV (ts : List Nat) (σ : Fr) : V :=
  match ts with
  | [t] => σ.look t
  | ts => .tuple (ts.map σ.look)

def bodyV (ts : List Nat) (R : V → Store → Prop) : Exit → Fr → Store → Prop
  | .normal, σ, S => R (resV ts σ) S
  | .ret, σ, S => R (resV ts σ) S
  | _, _, _ => False

/-- The frame that a call begins with. -/
def frame0 (k : Nat) : List V → Fr
  | [] => []
  | x :: xs => (k, x) :: frame0 (k + 1) xs

theorem look_frame0 : ∀ (xs : List V) (k t : Nat), (frame0 k xs).look t = if k ≤ t then (xs[t - k]?).getD .junk else .junk
  | [], k, t => by simp [frame0, Fr.look]
  | x :: xs, k, t => by
    simp only [frame0, Fr.look]
    by_cases h : t = k
    · subst h; simp
    · rw [if_neg h, look_frame0 xs (k + 1) t]
      by_cases h2 : k ≤ t
      · rw [if_pos h2, if_pos (by omega)]
        have : t - k = (t - (k + 1)) + 1 := by omega
        rw [this, List.getElem?_cons_succ]
      · rw [if_neg h2, if_neg (by omega)]

theorem results_run {fn : Func} {ts : List Nat} (h : resT fn = some ts) {N : Nat} {m : Imm} {β : Objs} {σ : Fr} {a : Act} (hF : FrameRep N m β σ a) (w : World) : ∃ v, (results fn a.tmps).run P w = .ok v w ∧ Rep m β (resV ts σ) v := by
  have gen : ∀ (g : ResultVar → Sem Value) (g' : ResultVar → Option Nat), (∀ t, g (.tmp t) = pure (a.tmps.getD t undef)) → (∀ t, g' (.tmp t) = some t) → (∀ p t, g' (.cell p t) = none) → ∀ (l : List ResultVar) (ts : List Nat), l.mapM g' = some ts →
      (l.mapM g).run P w = .ok (ts.map fun t => a.tmps.getD t undef) w := by
    intro g g' hg hg1 hg2 l
    induction l with
    | nil => intro ts h; simp at h; subst h; rfl
    | cons r l ih =>
      intro ts h
      simp only [List.mapM_cons, Option.bind_eq_bind, Option.bind_eq_some_iff] at h
      obtain ⟨b, hb, r', hr', h⟩ := h
      simp at h; subst h
      cases r with
      | cell => rw [hg2] at hb; cases hb
      | tmp t =>
        rw [hg1] at hb
        cases hb
        rw [List.mapM_cons, Sem.run_bind, hg, Sem.run_pure, Result.andThen_ok, Sem.run_bind, ih r' hr']
        rfl
  have hrun : (results fn a.tmps).run P w = .ok (if h : (ts.map fun t => a.tmps.getD t undef).toArray.size = 1 then (ts.map fun t => a.tmps.getD t undef).toArray[0] else .tuple (ts.map fun t => a.tmps.getD t undef).toArray) w := by
    unfold results
    rw [Sem.run_bind, Array.mapM_eq_mapM_toList, Sem.run_map, gen _ _ (fun _ => rfl) (fun _ => rfl) (fun _ _ => rfl) fn.results.toList ts h]
    rfl
  refine ⟨_, hrun, ?_⟩
  match ts with
  | [t] => simpa [resV] using hF.rep t
  | [] => exact rep_undef m β
  | t :: u :: ts =>
    rw [dif_neg (by simp)]
    exact .tuple _ _ (by simp) fun i x v hx hv => by
      simp only [List.getElem?_map, Option.map_eq_some_iff] at hx hv
      obtain ⟨t1, h1, rfl⟩ := hx
      obtain ⟨t2, h2, rfl⟩ := hv
      rw [h1] at h2; cases h2
      exact hF.rep t1

theorem vcalls_body {f : FuncId} {fn : Func} {c : Code} {ts : List Nat} {args : List V} {S : Store} {R : V → Store → Prop} (hf : P.funcs[f]? = some fn) (hb : fn.body = some c) (ht : resT fn = some ts) (hn : args.length ≤ fn.ntmps)
    (h : VWp P fn.ntmps S.nx c (bodyV ts R) (frame0 0 args) S) : VCalls P f args S R := by
  intro m β w vs hS hr
  refine calls_of_wp hf hb ?_
  have hF : FrameRep fn.ntmps m β (frame0 0 args) { tmps := vs.toArray ++ Array.replicate (fn.ntmps - vs.toArray.size) undef, defers := [] } := by
    have hl := hr.1
    refine ⟨by simp; omega, rfl, fun t => ?_⟩
    rw [look_frame0]
    simp only [Nat.zero_le, if_true, Nat.sub_zero]
    cases hx : args[t]? with
    | none => exact .junk _
    | some x =>
      have hlt : t < vs.length := by rw [← hl]; exact (List.getElem?_eq_some_iff.1 hx).1
      have : (vs.toArray ++ Array.replicate (fn.ntmps - vs.toArray.size) undef).getD t undef = vs[t] := by
        simp [Array.getD_eq_getD_getElem?, Array.getElem?_append, hlt]
      simp only [this, Option.getD_some]
      exact hr.2 t x _ hx (List.getElem?_eq_getElem hlt)
  refine wp_mono (h m β w _ hS hF) ?_
  rintro e a' w' ⟨σ', S', m', β', q, r1, r2, r3⟩
  have back : ExtB S.nx m β w m' β' w' → Ext m β w m' β' w' := fun h => ⟨h.imm, fun o ho => h.step o (by
    rcases Nat.lt_or_ge o S.nx with hl | hl
    · exact hl
    · exact absurd ((hS.fresh o).2 hl) ho) ho, h.size, h.keep, h.os, h.tape, h.output⟩
  cases e with
  | normal =>
    obtain ⟨v, hv, hrv⟩ := results_run (P := P) ht r2 w'
    exact ⟨r2.defers, v, hv, v, _, S', m', β', rfl, q, hrv, r1, back r3⟩
  | ret =>
    obtain ⟨v, hv, hrv⟩ := results_run (P := P) ht r2 w'
    exact ⟨r2.defers, v, hv, v, _, S', m', β', rfl, q, hrv, r1, back r3⟩
  | _ => exact q.elim
end
end Go.Vw
