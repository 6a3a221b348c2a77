import Derived.Test.YtmfpoangempgaaaC11
import Derived.ChangeSlices
import Derived.ChangeArms
import Derived.DataReads
import Derived.Below
import Derived.SizedLaws
/-
  Part of the proof (texts VLift, VLift2).
-/
set_option linter.unusedVariables false
set_option linter.unusedSimpArgs false
/-
  From an argument's reading to a value without addresses; from a contract to what a row asks.
-/
namespace Go.Vw
open Go.RowKit Go.ChangeShapes Go.WideShapes

/-- All of the heap, as immutable memory. -/
def whole (w : World) : Imm := fun b => w.heap[b]?

/-- What is read at a type is that which is told. -/
def ReadsC (P : Program) (t : TypeId) {α : Type} (enc : α → List V) (ok : α → Prop) : Prop :=
  ∀ (H : Type) (en : TypeId × Value → H) (w : World) (fuel : Nat) (cs : List Value) d, DataW.trod en P w 0 (fun _ => true) true fuel t cs = some d → (∀ n ∈ d.1.weights P t, n ≤ reachBytes) →
    ∃ a, ok a ∧ (enc a).length = cs.length ∧ (∀ (i : Nat) x v, (enc a)[i]? = some x → cs[i]? = some v → RepI (whole w) x v) ∧ ∀ v ∈ cs, v.oneCell' = true

theorem ReadsC.int {P : Program} {t : TypeId} {k : IntKind} (ht : P.underlying t = some (.int k)) : ReadsC P t (fun n : Int => [.int k n]) (fun n => (Lit.int k n).wf = true) := by
  intro H en w fuel cs d h _
  obtain ⟨n, rfl, rfl, hw⟩ := DataW.trod_int ht h
  refine ⟨n, hw, rfl, fun i x v hx hv => ?_, by simp [Value.oneCell']⟩
  cases i with
  | zero => simp at hx hv; subst hx; subst hv; exact .int k n
  | succ i => simp at hx

theorem ReadsC.bool {P : Program} {t : TypeId} (ht : P.underlying t = some .bool) : ReadsC P t (fun b : Bool => [.bool b]) (fun _ => True) := by
  intro H en w fuel cs d h _
  obtain ⟨b, rfl, _⟩ := DataW.trod_bool ht h
  refine ⟨b, trivial, rfl, fun i x v hx hv => ?_, by simp [Value.oneCell']⟩
  cases i with
  | zero => simp at hx hv; subst hx; subst hv; exact .bool b
  | succ i => simp at hx

theorem cells_each {w : World} {base : Nat} {a : Addr} {n : Nat} {cs : List Value} (h : w.cells? base a n = some cs) : cs.length = n ∧ ∀ i, i < n → w.cell? (a.add i) = cs[i]? := by
  have := World.cells?_some h
  exact ⟨this.2.1, this.2.2⟩

theorem add_none (b off n : Nat) : (⟨b, off, none⟩ : Addr).add n = ⟨b, off + n, none⟩ := by
  unfold Addr.add; split
  · rename_i h; subst h; rfl
  · rfl

/-- The elements, one after the other. -/
theorem mapM_get' {α β : Type} {f : Nat → Option β} : ∀ (n : Nat), (∀ i, i < n → ∃ y, f i = some y) → ∃ l : List β, l.length = n ∧ ∀ i, i < n → l[i]? = f i
  | 0, _ => ⟨[], rfl, fun i h => by omega⟩
  | n + 1, h => by
    obtain ⟨l, h1, h2⟩ := mapM_get' (α := α) n fun i hi => h i (by omega)
    obtain ⟨y, hy⟩ := h n (by omega)
    refine ⟨l ++ [y], by simp [h1], fun i hi => ?_⟩
    by_cases e : i < n
    · rw [List.getElem?_append_left (by omega), h2 i e]
    · have : i = n := by omega
      subst this
      rw [List.getElem?_append_right (by omega), h1, hy]; simp

theorem weightsAll_mem {H : Type} {P : Program} {e : TypeId} : ∀ {ds : List (DataW H)} {i : Nat} {d : DataW H}, ds[i]? = some d → ∀ n ∈ d.weights P e, n ∈ DataW.weightsAll P e ds
  | d0 :: ds, 0, d, hd, n, hn => by
    simp only [List.getElem?_cons_zero, Option.some.injEq] at hd
    subst hd
    simp only [DataW.weightsAll, List.mem_append]
    exact Or.inl hn
  | d0 :: ds, i + 1, d, hd, n, hn => by
    simp only [List.getElem?_cons_succ] at hd
    simp only [DataW.weightsAll, List.mem_append]
    exact Or.inr (weightsAll_mem hd n hn)
  | [], _, _, hd, _, _ => by simp at hd

/-- A slice: its elements are of one cell, or structs. -/
theorem ReadsC.slice {P : Program} {t e : TypeId} {α : Type} {enc : α → List V} {ok : α → Prop} (elV : α → V) (ht : P.underlying t = some (.slice e)) (he : ReadsC P e enc ok) (hs : 0 < P.cellsOf e) (hel : ∀ a, elV a = .agg (enc a) ∨ enc a = [elV a]) :
    ReadsC P t (fun l : List α => [vl elV l]) (fun l => (l.length < 2^63 ∧ l.length * P.bytesOf e ≤ 140737488351232) ∧ ∀ a ∈ l, ok a) := by
  intro H en w fuel cs d h hwt
  rcases DataW.trod_slice ht h with ⟨rfl, rfl⟩ | ⟨a, len, cap, elems, rest, n, rfl, rfl, rfl, hb, hl, hm, hlen, hall, _, _⟩
  · refine ⟨[], ⟨⟨by simp, by simp⟩, by simp⟩, rfl, fun i x v hx hv => ?_, by simp [Value.oneCell']⟩
    cases i with
    | zero => simp at hx hv; subst hx; subst hv; exact .list0 none 0 (Nat.zero_le _)
    | succ i => simp at hx
  · have hml : maxLen < 2^63 := by simp [maxLen]
    have hwl : (elems.length + rest.length) * P.bytesOf e ≤ 140737488351232 := hwt _ (by simp [DataW.weights, ht])
    have hwe : ∀ (i : Nat) (x : DataW H × List MemPlace), elems[i]? = some x → ∀ n ∈ x.1.weights P e, n ≤ reachBytes := fun i x hx n hn => hwt n (by
      simp only [DataW.weights, ht, List.mem_cons, List.mem_append]
      exact .inr (.inl (weightsAll_mem (i := i) (d := x.1) (by simp [hx]) n hn)))
    -- each element's cells, and what they read as
    have each : ∀ i, i < len → ∃ y : List Value × α, w.cells? 0 (a.add (i * P.cellsOf e)) (P.cellsOf e) = some y.1 ∧ ok y.2 ∧ (enc y.2).length = y.1.length ∧ (∀ (j : Nat) x v, (enc y.2)[j]? = some x → y.1[j]? = some v → RepI (whole w) x v) ∧ ∀ v ∈ y.1, v.oneCell' = true := by
      intro i hi
      have := hall i hi
      have hel : elems[i]? = some elems[i] := List.getElem?_eq_getElem (by omega)
      rw [hel] at this
      obtain ⟨cs, h1, h2⟩ := Option.bind_eq_some_iff.1 this
      obtain ⟨x, k1, k2, k3, k4⟩ := he H en w n cs _ h2 (hwe i _ hel)
      exact ⟨(cs, x), h1, k1, k2, k3, k4⟩
    classical
    obtain ⟨ys, hyl, hy⟩ := mapM_get' (α := Nat) (f := fun i => if h : i < len then some (Classical.choose (each i h)) else none) len (fun i hi => ⟨_, dif_pos hi⟩)
    have hys : ∀ (i : Nat) y, ys[i]? = some y → i < len ∧ w.cells? 0 (a.add (i * P.cellsOf e)) (P.cellsOf e) = some y.1 ∧ ok y.2 ∧ (enc y.2).length = y.1.length ∧ (∀ (j : Nat) x v, (enc y.2)[j]? = some x → y.1[j]? = some v → RepI (whole w) x v) ∧ ∀ v ∈ y.1, v.oneCell' = true := by
      intro i y hi
      have hlt : i < len := by rw [← hyl]; exact (List.getElem?_eq_some_iff.1 hi).1
      rw [hy i hlt, dif_pos hlt] at hi
      cases hi
      exact ⟨hlt, Classical.choose_spec (each i hlt)⟩
    refine ⟨ys.map (·.2), ⟨⟨by simp; omega, ?_⟩, ?_⟩, rfl, fun i x v hx hv => ?_, by simp [Value.oneCell']⟩
    · rw [List.length_map, hyl, ← hlen]
      exact Nat.le_trans (Nat.mul_le_mul_right _ (Nat.le_add_right _ _)) hwl
    · intro x hx
      obtain ⟨y, hy1, rfl⟩ := List.mem_map.1 hx
      obtain ⟨i, hi, rfl⟩ := List.getElem_of_mem hy1
      exact (hys i _ (List.getElem?_eq_getElem hi)).2.2.1
    · cases i with
      | succ i => simp at hx
      | zero =>
        simp at hx hv
        subst hx; subst hv
        by_cases h0 : len = 0
        · have : ys = [] := by cases ys <;> simp at hyl ⊢; omega
          subst this; subst h0
          exact .list0 _ _ hm
        · -- the block
          obtain ⟨y0, hy0⟩ : ∃ y, ys[0]? = some y := ⟨ys[0]'(by omega), List.getElem?_eq_getElem _⟩
          obtain ⟨_, hc0, _⟩ := hys 0 y0 hy0
          obtain ⟨hcl0, hce0⟩ := cells_each hc0
          have hcell0 := hce0 0 hs
          have hsome : ∃ v, w.cell? (a.add (0 * P.cellsOf e) |>.add 0) = some v := by
            rw [hcell0]; exact ⟨y0.1[0]'(by omega), List.getElem?_eq_getElem _⟩
          obtain ⟨v0, hv0⟩ := hsome
          have hspot := World.cell?_spot hv0
          obtain ⟨b, off, spot⟩ := a
          have hsp : spot = none := by simpa [Addr.add] using hspot
          subst hsp
          obtain ⟨arr, T, fz, hheap⟩ : ∃ arr T fz, w.heap[b]? = some (.cells arr T fz) := by
            rw [add_none, add_none] at hv0
            simp only [World.cell?] at hv0
            split at hv0
            · rename_i h; exact ⟨_, _, _, h⟩
            · cases hv0
          have hat : ∀ k v, w.cell? ⟨b, k, none⟩ = some v → arr[k]? = some v := by
            intro k v hk
            simp only [World.cell?, hheap] at hk
            simpa using hk
          let val : List Value × α → Value := fun y => match elV y.2 with
            | .agg _ => .agg y.1.toArray
            | _ => y.1.headD undef
          have hval : ∀ (i : Nat) y, ys[i]? = some y → (val y).cells.size = P.cellsOf e ∧ RepI (whole w) (elV y.2) (val y) ∧ ∀ (j : Nat) c, (val y).cells[j]? = some c → y.1[j]? = some c := by
            intro i y hi
            obtain ⟨hlt, k1, k2, k3, k4, k5⟩ := hys i y hi
            obtain ⟨l1, l2⟩ := cells_each k1
            by_cases hag : ∃ cs, elV y.2 = .agg cs
            · obtain ⟨cs, hcs⟩ := hag
              have e1 : val y = .agg y.1.toArray := by simp only [val, hcs]
              rcases hel y.2 with h1 | h1
              · rw [hcs] at h1; cases h1
                rw [e1, hcs]
                exact ⟨by simp [Value.cells, l1], .agg _ _ k3 (fun j x v hx hv => k4 j x v hx hv) k5, fun j c hj => by simpa [Value.cells] using hj⟩
              · exfalso
                have h2 : y.1.length = 1 := by rw [← k3, h1]; rfl
                have h3 := k4 0 _ y.1[0] (by rw [h1]; rfl) (List.getElem?_eq_getElem (by omega))
                rw [hcs] at h3
                have h4 := k5 y.1[0] (List.getElem_mem _)
                generalize y.1[0] = u at h3 h4
                cases h3 with
                | agg xs vs _ _ _ => simp [Value.oneCell'] at h4
            · have e1 : val y = y.1.headD undef := by
                simp only [val]
                split
                · rename_i cs hcs; exact absurd ⟨cs, hcs⟩ hag
                · rfl
              rcases hel y.2 with h1 | h1
              · exact absurd ⟨_, h1⟩ hag
              · have h2 : y.1.length = 1 := by rw [← k3, h1]; rfl
                have e2 : val y = y.1[0] := by
                  rw [e1]
                  obtain ⟨ya, yb⟩ := y
                  cases ya with
                  | nil => simp at h2
                  | cons u us => rfl
                have h3 := k4 0 _ y.1[0] (by rw [h1]; rfl) (List.getElem?_eq_getElem (by omega))
                have h4 := k5 y.1[0] (List.getElem_mem _)
                have huc : (y.1[0]).cells = #[y.1[0]] := by
                  generalize y.1[0] = u at h4
                  cases u <;> first | rfl | simp [Value.oneCell'] at h4
                rw [e2, huc]
                refine ⟨by simp; omega, h3, fun j c hj => ?_⟩
                cases j with
                | zero => simp at hj; subst hj; exact List.getElem?_eq_getElem _
                | succ j => simp at hj
          have := RepI.list (m := whole w) ((ys.map (·.2)).map elV) (ys.map val) b off cap (P.cellsOf e) arr T fz hheap (by simp) (by simp; omega) hm
            (fun v hv => by
              obtain ⟨y, hy1, rfl⟩ := List.mem_map.1 hv
              obtain ⟨i, hi, rfl⟩ := List.getElem_of_mem hy1
              exact (hval i _ (List.getElem?_eq_getElem hi)).1)
            (fun i x v hx hv => by
              simp only [List.getElem?_map, Option.map_eq_some_iff] at hx hv
              obtain ⟨z, ⟨y, h1, rfl⟩, rfl⟩ := hx
              obtain ⟨y', h2, rfl⟩ := hv
              rw [h1] at h2; cases h2
              exact (hval i y h1).2.1)
            (fun i v j c hv hj => by
              simp only [List.getElem?_map, Option.map_eq_some_iff] at hv
              obtain ⟨y, h1, rfl⟩ := hv
              have h3 := (hval i y h1).2.2 j c hj
              obtain ⟨_, k1, _⟩ := hys i y h1
              obtain ⟨l1, l2⟩ := cells_each k1
              have hj2 : j < P.cellsOf e := by rw [← l1]; exact (List.getElem?_eq_some_iff.1 h3).1
              have := l2 j hj2
              rw [h3] at this
              rw [add_none, add_none] at this
              exact hat _ _ this)
          have e3 : ((ys.map (·.2)).map elV).length = len := by simp [hyl]
          rw [e3] at this
          exact this

/-- One cell, read. -/
theorem ReadsC.one {P : Program} {t : TypeId} {α : Type} {enc : α → V} {ok : α → Prop} (h : ReadsC P t (fun a => [enc a]) ok) {H : Type} {en : TypeId × Value → H} {w : World} {v : Value} {d : DataW H} {ps : List MemPlace} (hv : v.oneCell' = true)
    (hd : DataW.Trod en P w 0 (fun _ => true) true t v d ps) (hwt : ∀ n ∈ d.weights P t, n ≤ reachBytes) : ∃ a, ok a ∧ RepI (whole w) (enc a) v := by
  obtain ⟨fuel, hd⟩ := hd
  have huc : v.cells = #[v] := by cases v <;> first | rfl | simp [Value.oneCell'] at hv
  rw [huc] at hd
  obtain ⟨a, h1, _, h3, _⟩ := h H en w fuel _ _ hd hwt
  exact ⟨a, h1, h3 0 _ v rfl rfl⟩

/-- A contract of V, at a call. -/
theorem lift_calls {P : Program} {f : FuncId} {xs : List V} {vs : List Value} {W : World} (hl : xs.length = vs.length) (hr : ∀ (i : Nat) x v, xs[i]? = some x → vs[i]? = some v → RepI (whole W) x v) (h : VPure P f xs (.bool true)) :
    Calls P f vs.toArray W fun e w' => e = .returned (.bool true) ∧ Below W.heap.size W w' := by
  have hS : Holds ⟨fun _ => none, 0⟩ (whole W) (fun _ => Loc.fresh) W := by
    exact { imm := fun b o hb => hb, apart := fun o b hb => (by cases hb), inj := fun o o' b hb _ => (by cases hb), fresh := fun o => ⟨fun _ => Nat.zero_le _, fun _ => rfl⟩, gone := fun _ _ => rfl, dead := fun o ho => (by cases ho), live := fun o c hc => (by cases hc) }
  refine (h ⟨fun _ => none, 0⟩ (whole W) (fun _ => .fresh) W vs hS ⟨hl, fun i x v hx hv => .imm (hr i x v hx hv)⟩).mono ?_
  rintro e w' ⟨v, x, S', m', β', rfl, ⟨rfl, rfl⟩, h1, h2, h3⟩
  have hv := h1.inv_bool
  subst hv
  refine ⟨rfl, h3.os, h3.tape, h3.output, h3.size, fun k hk => ?_⟩
  have hm : whole W k = some W.heap[k] := by simp [whole, hk]
  have := h2.imm k _ (h3.imm k _ hm)
  rw [this]; simp [hk]
end Go.Vw

/-
  From an argument's reading to a value without addresses: structs.
-/
namespace Go.Vw
open Go.RowKit Go.ChangeShapes Go.WideShapes

/-- What a struct's fields read as, from an offset on. -/
def ReadsF (P : Program) (fs : List Field) (base : Nat) {α : Type} (enc : α → List V) (ok : α → Prop) : Prop :=
  ∀ (H : Type) (en : TypeId × Value → H) (w : World) (fuel : Nat) (cs : List Value) (xs : List (DataW H × List MemPlace)), xs.length = fs.length →
    (∀ (i : Nat) f, fs[i]? = some f → DataW.trod en P w 0 (fun _ => true) true fuel f.type ((cs.drop f.offset).take (P.cellsOf f.type)) = xs[i]?) →
    (∀ (i : Nat) f x, fs[i]? = some f → xs[i]? = some x → ∀ n ∈ x.1.weights P f.type, n ≤ reachBytes) →
    cs.length = base + (fs.map fun f => P.cellsOf f.type).sum →
    ∃ a, ok a ∧ (enc a).length = (fs.map fun f => P.cellsOf f.type).sum ∧ (∀ (i : Nat) x v, (enc a)[i]? = some x → cs[base + i]? = some v → RepI (whole w) x v) ∧ ∀ (i : Nat) v, cs[base + i]? = some v → v.oneCell' = true

theorem ReadsF.nil {P : Program} {base : Nat} : ReadsF P [] base (fun _ : Unit => []) (fun _ => True) := by
  intro H en w fuel cs xs hl hx hz hc
  simp at hc
  exact ⟨(), trivial, rfl, fun i x v h => by simp at h, fun i v h => by rw [List.getElem?_eq_none (by omega)] at h; cases h⟩

theorem ReadsF.cons {P : Program} {f : Field} {fs : List Field} {base : Nat} {α β : Type} {encA : α → List V} {okA : α → Prop} {encB : β → List V} {okB : β → Prop} (ho : f.offset = base)
    (hA : ReadsC P f.type encA okA) (hB : ReadsF P fs (base + P.cellsOf f.type) encB okB) : ReadsF P (f :: fs) base (fun p : α × β => encA p.1 ++ encB p.2) (fun p => okA p.1 ∧ okB p.2) := by
  intro H en w fuel cs xs hl hx hz hc
  simp only [List.map_cons, List.sum_cons] at hc ⊢
  cases xs with
  | nil => simp at hl
  | cons x xs =>
    have h0 := hx 0 f rfl
    rw [ho] at h0
    obtain ⟨a, a1, a2, a3, a4⟩ := hA H en w fuel _ x h0 (hz 0 f x rfl rfl)
    obtain ⟨b, b1, b2, b3, b4⟩ := hB H en w fuel cs xs (by simpa using hl) (fun i g hg => by have := hx (i + 1) g (by simpa using hg); simpa using this) (fun i g y hg hy => hz (i + 1) g y (by simpa using hg) (by simpa using hy)) (by omega)
    have hlen : ((cs.drop base).take (P.cellsOf f.type)).length = P.cellsOf f.type := by simp; omega
    rw [hlen] at a2
    have hat : ∀ i, i < P.cellsOf f.type → ((cs.drop base).take (P.cellsOf f.type))[i]? = cs[base + i]? := fun i hi => by simp [hi]
    refine ⟨(a, b), ⟨a1, b1⟩, by simp [a2, b2], fun i y v hy hv => ?_, fun i v hv => ?_⟩
    · by_cases hi : i < P.cellsOf f.type
      · rw [List.getElem?_append_left (show i < (encA a).length by omega)] at hy
        exact a3 i y v hy (by rw [hat i hi]; exact hv)
      · rw [List.getElem?_append_right (show (encA a).length ≤ i by omega), a2] at hy
        exact b3 _ y v hy (by rw [show base + P.cellsOf f.type + (i - P.cellsOf f.type) = base + i by omega]; exact hv)
    · by_cases hi : i < P.cellsOf f.type
      · exact a4 v (List.mem_of_getElem? (by rw [hat i hi]; exact hv))
      · exact b4 (i - P.cellsOf f.type) v (by rw [show base + P.cellsOf f.type + (i - P.cellsOf f.type) = base + i by omega]; exact hv)

/-- A struct. -/
theorem ReadsC.struct {P : Program} {t : TypeId} {fs : Array Field} {α : Type} {enc : α → List V} {ok : α → Prop} (ht : P.underlying t = some (.struct fs)) (hs : P.cellsOf t = (fs.toList.map fun f => P.cellsOf f.type).sum)
    (hF : ReadsF P fs.toList 0 enc ok) : ReadsC P t enc ok := by
  intro H en w fuel cs d h hwt
  obtain ⟨xs, n, _, hd, hl, hlen, hf⟩ := DataW.trod_struct ht h
  obtain ⟨a, h1, h2, h3, h4⟩ := hF H en w n cs xs (by simpa using hlen) (fun i f hi => hf i f (by simpa using hi)) (fun i f x hi hx k hk => hwt k (by
    rw [hd]
    simp only [DataW.weights, ht]
    exact DataW.weights_mem_each (j := i) (t := f.type) (d := x.1) (by simp [hi]) (by simp [hx]) k hk)) (by omega)
  exact ⟨a, h1, by omega, fun i x v hx hv => h3 i x v hx (by simpa using hv), fun v hv => by
    obtain ⟨i, hi, rfl⟩ := List.getElem_of_mem hv
    exact h4 i _ (by rw [Nat.zero_add]; exact List.getElem?_eq_getElem hi)⟩

/-- Told in other words. -/
theorem ReadsC.map {P : Program} {t : TypeId} {α β : Type} {enc : α → List V} {ok : α → Prop} {encB : β → List V} {okB : β → Prop} (h : ReadsC P t enc ok) (g : α → β) (he : ∀ a, encB (g a) = enc a) (ho : ∀ a, ok a → okB (g a)) : ReadsC P t encB okB := by
  intro H en w fuel cs d hd hwt
  obtain ⟨a, h1, h2, h3, h4⟩ := h H en w fuel cs d hd hwt
  exact ⟨g a, ho a h1, by rw [he]; exact h2, by rw [he]; exact h3, h4⟩

/-- A struct, read: its cells. -/
theorem ReadsC.agg {P : Program} {t : TypeId} {α : Type} {enc : α → List V} {ok : α → Prop} (h : ReadsC P t enc ok) {H : Type} {en : TypeId × Value → H} {w : World} {cells : Array Value} {d : DataW H} {ps : List MemPlace}
    (hd : DataW.Trod en P w 0 (fun _ => true) true t (.agg cells) d ps) (hwt : ∀ n ∈ d.weights P t, n ≤ reachBytes) : ∃ a, ok a ∧ RepI (whole w) (.agg (enc a)) (.agg cells) := by
  obtain ⟨fuel, hd⟩ := hd
  obtain ⟨a, h1, h2, h3, h4⟩ := h H en w fuel _ _ hd hwt
  have := RepI.agg (m := whole w) (enc a) cells.toList (by simpa [Value.cells] using h2) (by simpa [Value.cells] using h3) (by simpa [Value.cells] using h4)
  exact ⟨a, h1, by simpa using this⟩
end Go.Vw
