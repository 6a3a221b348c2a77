import Derived.Test.YtgnoiaekmmfnmaaVWp2
/-
  Steps that only we see: an object that is never written again becomes a list; a pure call leaves the store as it was.
-/
set_option linter.unusedVariables false
namespace Go.Vw
open Go.RowKit

/-- May it stand in immutable memory? -/
def V.closed1 : V → Bool
  | .bool _ | .int _ _ | .str _ | .nils | .nilp | .nilf | .list _ | .ref _ => true
  | _ => false

def V.closed : V → Bool
  | .agg xs => xs.all V.closed1
  | x => x.closed1

theorem Rep.closed1 {m : Imm} {β : Objs} {x : V} {v : Value} (h : Rep m β x v) (hc : x.closed1 = true) : RepI m x v := by
  cases h with
  | imm h => exact h
  | _ => simp [V.closed1] at hc

theorem Rep.closed {m : Imm} {β : Objs} {x : V} {v : Value} (h : Rep m β x v) (hc : x.closed = true) : RepI m x v := by
  cases h with
  | imm h => exact h
  | agg xs vs hl hr h1 => exact .agg xs vs hl (fun i x v hx hv => (hr i x v hx hv).closed1 (by
      have : ∀ x ∈ xs, x.closed1 = true := by simpa [V.closed] using hc
      exact this x (List.mem_of_getElem? hx))) h1
  | _ => simp [V.closed, V.closed1] at hc

/-- What only we see. -/
def Ghost (x : V) (S : Store) (x' : V) (S' : Store) : Prop :=
  ∀ m β w v, Holds S m β w → Rep m β x v → ∃ m' β', Holds S' m' β' w ∧ Ext m β w m' β' w ∧ Rep m' β' x' v

theorem Ghost.refl (x : V) (S : Store) : Ghost x S x S := fun m β w v h r => ⟨m, β, h, Ext.refl _ _ _, r⟩
theorem Ghost.trans {x y z : V} {S S' S'' : Store} (h : Ghost x S y S') (k : Ghost y S' z S'') : Ghost x S z S'' := by
  intro m β w v hS hr
  obtain ⟨m', β', h1, h2, h3⟩ := h m β w v hS hr
  obtain ⟨m'', β'', k1, k2, k3⟩ := k m' β' w v h1 h3
  exact ⟨m'', β'', k1, h2.trans k2, k3⟩

theorem Ghost.nils (S : Store) (s : Nat) : Ghost .nils S (.slice S.nx 0 0) (S.add (s, [])) := by
  intro m β w v hS hr
  obtain ⟨a, rfl⟩ := hr.inv_nils
  obtain ⟨h1, h2, h3⟩ := hS.addVoid s
  exact ⟨m, _, h1, h2, .sliceVoid _ _ _ h3⟩

theorem Ghost.nils_list (S : Store) : Ghost .nils S (.list []) S := by
  intro m β w v hS hr
  obtain ⟨a, rfl⟩ := hr.inv_nils
  exact ⟨m, β, hS, Ext.refl _ _ _, .imm (.list0 _ _ (Nat.zero_le _))⟩

def Imm.set (m : Imm) (b : Nat) (o : Obj) : Imm := fun b' => if b' = b then some o else m b'

/-- An object's block joins immutable memory. -/
theorem Holds.freeze {S : Store} {m : Imm} {β : Objs} {w : World} (hS : Holds S m β w) {o b base s n : Nat} {c : Nat × List V} (hc : S.get o = some c) (hob : β o = .lies b base s n) {ob : Obj} (hb : w.heap[b]? = some ob) :
    Holds (S.del o) (m.set b ob) (β.set o .dead) w ∧ Ext m β w (m.set b ob) (β.set o .dead) w := by
  have hbl : (β o).block? = some b := by rw [hob]; rfl
  have hd := hS.drop o (hS.lt hc)
  have hmb := hS.apart o b hbl
  have hm : ∀ b' x, m b' = some x → (m.set b ob) b' = some x := by
    intro b' x hx
    simp only [Imm.set]
    split
    · rename_i e; subst e; rw [hmb] at hx; cases hx
    · exact hx
  refine ⟨⟨fun b' x hx => ?_, fun o' b' hb' => ?_, hd.inj, hd.fresh, hd.gone, hd.dead, fun o' c' hc' => (hd.live o' c' hc').mono hm (Step.refl _) (fun _ _ => rfl)⟩, ⟨hm, Step.kill β o, Nat.le_refl _, fun b' hb' h1 h2 => ⟨rfl, ?_, fun o' ho' => ?_⟩, rfl, rfl, rfl⟩⟩
  · simp only [Imm.set] at hx
    split at hx
    · rename_i e; subst e; cases hx; exact hb
    · exact hd.imm b' x hx
  · simp only [Imm.set]
    split
    · rename_i e
      subst e
      exfalso
      by_cases e2 : o' = o
      · subst e2; rw [Objs.set_same] at hb'; cases hb'
      · rw [Objs.set_other _ _ e2] at hb'; exact e2 (hS.inj _ _ _ hb' hbl)
    · exact hd.apart o' b' hb'
  · simp only [Imm.set]
    rw [if_neg (fun e => by subst e; exact h2 o hbl)]
    exact h1
  · by_cases e2 : o' = o
    · subst e2; rw [Objs.set_same] at ho'; cases ho'
    · rw [Objs.set_other _ _ e2] at ho'; exact h2 o' ho'

theorem Holds.drop' {S : Store} {m : Imm} {β : Objs} {w : World} (hS : Holds S m β w) {o : Nat} {c} (hc : S.get o = some c) : Holds (S.del o) m (β.set o .dead) w ∧ Ext m β w m (β.set o .dead) w :=
  ⟨hS.drop o (hS.lt hc), (Ext.refl m (β.set o .dead) w).dropNew fun b hb => hS.apart o b hb⟩

/-- A slice of an object becomes a list: its elements are 'xs'. -/
theorem Ghost.freeze {S : Store} {o off len s : Nat} {cells : List V} (hc : S.get o = some (s, cells)) (hcl : cells.all V.closed1 = true) (xs : List V) (hl : xs.length = len)
    (hx : ∀ (i : Nat) x, xs[i]? = some x → x.cells.length = s ∧ x.closed = true ∧ ∀ (j : Nat) c, x.cells[j]? = some c → cells[off + i * s + j]? = some c) : Ghost (.slice o off len) S (.list xs) (S.del o) := by
  intro m β w v hS hr
  obtain ⟨ad, cap, rfl, hlc, hcm, hcase⟩ := hr.inv_slice (hS.alive hc)
  have triv : len = 0 → ∃ m' β', Holds (S.del o) m' β' w ∧ Ext m β w m' β' w ∧ Rep m' β' (.list xs) (.slice ad len cap) := by
    intro h0
    obtain ⟨h1, h2⟩ := hS.drop' hc
    have : xs = [] := List.eq_nil_of_length_eq_zero (by omega)
    subst this; subst h0
    exact ⟨_, _, h1, h2, .imm (.list0 _ _ hcm)⟩
  rcases hcase with ⟨hv, h1, h2⟩ | ⟨b, base, s', n, hob, hcase⟩
  · exact triv h1
  · rcases hcase with hcap | ⟨had, hroom⟩
    · exact triv (by omega)
    · subst had
      obtain ⟨hs', arr, T, h1, h2, h3, h4⟩ := hS.cells_at hc hob
      simp only at hs' h3 h4
      subst hs'
      obtain ⟨k1, k2⟩ := hS.freeze hc hob h1
      refine ⟨_, _, k1, k2, ?_⟩
      -- the elements' values
      let val : Nat → V → Value := fun i x => match x with
        | .agg _ => .agg ((List.range s).map fun j => arr.getD (base + off + i * s + j) undef).toArray
        | _ => arr.getD (base + off + i * s) undef
      have cell : ∀ (i : Nat) x (j : Nat) c, xs[i]? = some x → x.cells[j]? = some c → ∃ u, arr[base + off + i * s + j]? = some u ∧ RepI m c u ∧ u.oneCell' = true := by
        intro i x j c hi hj
        obtain ⟨e1, e2, e3⟩ := hx i x hi
        have hcj := e3 j c hj
        obtain ⟨u, f1, f2, f3⟩ := h4 _ c hcj
        refine ⟨u, by rw [← f1]; congr 1; omega, f2.closed1 ?_, f3⟩
        have hall : ∀ x ∈ cells, x.closed1 = true := by simpa using hcl
        exact hall c (List.mem_of_getElem? hcj)
      have hval : ∀ (i : Nat) x, xs[i]? = some x → (val i x).cells.size = s ∧ RepI m x (val i x) ∧ ∀ (j : Nat) c, (val i x).cells[j]? = some c → arr[base + off + i * s + j]? = some c := by
        intro i x hi
        obtain ⟨e1, e2, e3⟩ := hx i x hi
        by_cases hag : ∃ cs, x = .agg cs
        · obtain ⟨cs, rfl⟩ := hag
          have e1' : cs.length = s := e1
          refine ⟨by simp [val, Value.cells], ?_, fun j c hj => ?_⟩
          · refine .agg cs _ (by simp [e1']) (fun j c u hj hu => ?_) (fun u hu => ?_)
            · simp only [List.getElem?_map, Option.map_eq_some_iff] at hu
              obtain ⟨j', hj', rfl⟩ := hu
              obtain ⟨hlt, e⟩ := List.getElem?_eq_some_iff.1 hj'
              simp at e; subst e
              obtain ⟨u, f1, f2, _⟩ := cell i _ j c hi hj
              simpa [Array.getD_eq_getD_getElem?, f1] using f2
            · simp only [List.mem_map, List.mem_range] at hu
              obtain ⟨j, hj, rfl⟩ := hu
              obtain ⟨u, f1, _, f3⟩ := cell i (.agg cs) j cs[j] hi (List.getElem?_eq_getElem (by omega))
              simpa [Array.getD_eq_getD_getElem?, f1] using f3
          · simp only [val, Value.cells, List.getElem?_toArray, List.getElem?_map, Option.map_eq_some_iff] at hj
            obtain ⟨j', hj', rfl⟩ := hj
            obtain ⟨hlt, e⟩ := List.getElem?_eq_some_iff.1 hj'
            simp at e hlt; subst e
            obtain ⟨u, f1, _, _⟩ := cell i (.agg cs) j cs[j] hi (List.getElem?_eq_getElem (by omega))
            simp [Array.getD_eq_getD_getElem?, f1]
        · have ec : x.cells = [x] := by cases x <;> first | rfl | exact absurd ⟨_, rfl⟩ hag
          have ev' : val i x = arr.getD (base + off + i * s) undef := by cases x <;> first | rfl | exact absurd ⟨_, rfl⟩ hag
          obtain ⟨u, f1, f2, f3⟩ := cell i x 0 x hi (by rw [ec]; rfl)
          simp only [Nat.add_zero] at f1
          have eu : val i x = u := by rw [ev']; simp [Array.getD_eq_getD_getElem?, f1]
          have euc : u.cells = #[u] := by cases u <;> first | rfl | simp [Value.oneCell'] at f3
          rw [eu]
          refine ⟨by rw [euc, ← e1, ec]; rfl, f2, fun j c hj => ?_⟩
          rw [euc] at hj
          cases j with
          | zero => simp at hj; subst hj; simpa using f1
          | succ j => simp at hj
      have himm : ∀ b' x, m b' = some x → (m.set b (.cells arr T (0, 0))) b' = some x := k2.imm
      have := RepI.list (m := m.set b (.cells arr T (0, 0))) xs (xs.mapIdx val) b (base + off) cap s arr T (0, 0) (by simp [Imm.set]) (by simp) (by omega) hcm
        (fun v hv => by
          obtain ⟨i, hi, rfl⟩ := List.getElem_of_mem hv
          simp only [List.getElem_mapIdx]
          exact (hval i _ (List.getElem?_eq_getElem (by simpa using hi))).1)
        (fun i x v hi hv => by
          rw [List.getElem?_mapIdx, hi] at hv
          simp at hv; subst hv
          exact (hval i x hi).2.1.mono himm)
        (fun i v j c hv hj => by
          rw [List.getElem?_mapIdx] at hv
          obtain ⟨x, hx1, rfl⟩ := Option.map_eq_some_iff.1 hv
          exact (hval i x hx1).2.2 j c hj)
      rw [hl] at this
      exact .imm this

/-- .. of single cells. -/
theorem Ghost.freeze1 {S : Store} {o len : Nat} {cells : List V} (hc : S.get o = some (1, cells)) (hcl : cells.all V.closed1 = true) (hl : cells.length = len) : Ghost (.slice o 0 len) S (.list cells) (S.del o) := by
  refine Ghost.freeze hc hcl cells hl fun i x hx => ?_
  have h1 : x.closed1 = true := by
    have hall : ∀ x ∈ cells, x.closed1 = true := by simpa using hcl
    exact hall x (List.mem_of_getElem? hx)
  have ec : x.cells = [x] := by cases x <;> first | rfl | simp [V.closed1] at h1
  refine ⟨by rw [ec]; rfl, by cases x <;> first | exact h1 | simp [V.closed1] at h1, fun j c hj => ?_⟩
  rw [ec] at hj
  cases j with
  | zero => simp at hj; subst hj; simpa using hx
  | succ j => simp at hj

section
variable {P : Program} {N b : Nat} {Q : Exit → Fr → Store → Prop} {σ : Fr} {S : Store}

theorem vw_ghost {c : Code} (t : Nat) {x x' : V} {S' : Store} (hx : σ.look t = x) (hg : Ghost x S x' S') (h : VWp P N b c Q (σ.set t x') S') : VWp P N b c Q σ S := by
  intro m β w a hS hF
  have hr := hF.rep t
  rw [hx] at hr
  obtain ⟨m', β', h1, h2, h3⟩ := hg m β w _ hS hr
  have hF' : FrameRep N m' β' (σ.set t x') a := by
    refine ⟨hF.size, hF.defers, fun u => ?_⟩
    rw [Fr.look_set]
    split
    · rename_i e; subst e; exact h3
    · exact (hF.ext h2).rep u
  exact vw_from h h1 hF' (h2.toB b)

theorem vcalls_ghost {f : FuncId} {args : List V} {R : V → Store → Prop} (h : VCalls P f args S fun r S1 => ∃ x' S', Ghost r S1 x' S' ∧ R x' S') : VCalls P f args S R := by
  intro m β w vs hS hr
  refine (h m β w vs hS hr).mono ?_
  rintro e w' ⟨v, x, S1, m1, β1, he, ⟨x', S', hg, hR⟩, h1, h2, h3⟩
  obtain ⟨m2, β2, g1, g2, g3⟩ := hg m1 β1 w' v h2 h1
  exact ⟨v, x', S', m2, β2, he, hR, g3, g1, h3.trans g2⟩

/-- An argument seen otherwise. -/
theorem vcalls_args {f : FuncId} {args args' : List V} {R : V → Store → Prop} (ha : ∀ m β vs, RepL m β args vs → RepL m β args' vs) (h : VCalls P f args' S R) : VCalls P f args S R :=
  fun m β w vs hS hr => h m β w vs hS (ha m β vs hr)

/-- Objects dropped. -/
theorem Holds.forget {S S' : Store} {m : Imm} {β : Objs} {w : World} (hS : Holds S m β w) (hn : S'.nx = S.nx) (hg : ∀ o c, S'.get o = some c → S.get o = some c) :
    ∃ β', Holds S' m β' w ∧ Step β β' ∧ (∀ o, (β' o).block? = none ∨ β' o = β o) := by
  classical
  refine ⟨fun o => if o < S.nx ∧ S'.get o = none then .dead else β o, ⟨hS.imm, fun o b hb => ?_, fun o o' b h1 h2 => ?_, fun o => ?_, fun o ho => ?_, fun o ho hn' => ?_, fun o c hc => ?_⟩, fun o ho => ?_, fun o => ?_⟩
  · split at hb
    · cases hb
    · exact hS.apart o b hb
  · split at h1
    · cases h1
    · split at h2
      · cases h2
      · exact hS.inj _ _ b h1 h2
  · split
    · rename_i h; rw [hn]; exact ⟨fun h => (by cases h), fun h' => by omega⟩
    · rw [hn]; exact hS.fresh o
  · rw [hn] at ho
    cases hc : S'.get o with
    | none => rfl
    | some c => have := hg o c hc; rw [hS.gone o ho] at this; cases this
  · rw [if_pos ⟨by omega, hn'⟩]
  · rw [if_neg (fun h => by rw [h.2] at hc; cases hc)]
    refine (hS.live o c (hg o c hc)).mono (fun _ _ h => h) (fun o' ho' => ?_) (fun _ _ => rfl)
    split
    · exact .inr rfl
    · exact .inl rfl
  · dsimp only; split
    · exact .inr rfl
    · exact .inl rfl
  · dsimp only; split
    · exact .inl rfl
    · exact .inr rfl
end
end Go.Vw
