import Derived.Test.YtmfpoangempgaaaC3
import Derived.MapKept
/-
  Part of the proof (texts VMaps, VSound7).
-/
set_option linter.unusedVariables false
set_option linter.unusedSimpArgs false
/-
  Maps whose keys are whole numbers, over values without addresses.
-/
namespace Go.Vw
open Go.RowKit

section
variable {P : Program} {N : Nat} {S : Store} {m : Imm} {β : Objs} {w : World} {σ : Fr} {a : Act}

theorem lookV_find {d : IntKind} {kk : IntKind} {n : Int} : ∀ (cells : List V) (es : List MapEntry) (i : Nat) (r : Option (Nat × V)), cells.length = es.length →
    (∀ (i : Nat) (x : V) (e : MapEntry), cells[i]? = some x → es[i]? = some e → EntryRep m β x e) → lookV (.int kk n) cells i = some r →
    (r = none ∧ Instr.findNow (.int d) (.int kk n) es i = some none) ∨
      ∃ j x e, r = some (i + j, x) ∧ es[j]? = some e ∧ e.key = .int kk n ∧ Rep m β x e.val ∧ Instr.findNow (.int d) (.int kk n) es i = some (some (i + j, e.val))
  | [], es, i, r, hl, hr, h => by
    cases es with
    | nil => simp only [lookV, Option.some.injEq] at h; exact .inl ⟨h.symm, rfl⟩
    | cons _ _ => simp at hl
  | c :: cells, es, i, r, hl, hr, h => by
    cases es with
    | nil => simp at hl
    | cons e es =>
      obtain ⟨k, v, rfl, hk, hv⟩ := hr 0 c e rfl rfl
      have ih := lookV_find (d := d) (kk := kk) (n := n) cells es (i + 1) r (by simpa using hl) (fun i x e h1 h2 => hr (i + 1) x e (by simpa using h1) (by simpa using h2))
      simp only [lookV] at h
      cases k with
      | int k' b =>
        have ek : e.key = .int k' b := by generalize e.key = q at hk; cases hk; rfl
        simp only [keySame] at h
        by_cases e1 : kk = k'
        · subst e1
          rw [if_pos rfl] at h
          by_cases e2 : n = b
          · subst e2
            simp only [beq_self_eq_true, Option.some.injEq] at h
            exact .inr ⟨0, v, e, by rw [← h]; rfl, rfl, ek, hv, by simp [Instr.findNow, ek, Instr.sameNow]⟩
          · have e3 : (n == b) = false := by simp [e2]
            simp only [e3] at h
            rcases ih h with ⟨h1, h2⟩ | ⟨j, x, e', h1, h2, h3, h4, h5⟩
            · exact .inl ⟨h1, by simp [Instr.findNow, ek, Instr.sameNow, e3, h2]⟩
            · exact .inr ⟨j + 1, x, e', by rw [h1]; simp; omega, by simpa using h2, h3, h4, by simp [Instr.findNow, ek, Instr.sameNow, e3, h5]; omega⟩
        · rw [if_neg e1] at h
          cases h
      | _ => simp [keySame] at h

theorem Rep.inv_map {o : Nat} {v : Value} (h : Rep m β (.map o) v) (hd : β o ≠ .dead) : ∃ b, β o = .mp b ∧ v = .map (some b) := by
  cases h with
  | imm h => cases h
  | mapDead _ _ h => exact absurd h hd
  | map _ b h => exact ⟨b, h, rfl⟩

theorem check_int {kt : TypeId} {d : IntKind} (hd : P.underlying kt = some (.int d)) (kk : IntKind) (n : Int) (e : Bool) (q : Nat) : (Instr.checkKey e (q + 1) kt (.int kk n)).run P w = .ok () w := by
  unfold Instr.checkKey
  simp only [Sem.run_bind, run_underlying hd, Result.andThen]
  rfl

/-- A new map. -/
theorem Holds.addMap (h : Holds S m β w) : Holds (S.add (0, [])) m (β.set S.nx (.mp w.heap.size)) (w.alloc (.map #[] 0)) ∧
    Ext m β w m (β.set S.nx (.mp w.heap.size)) (w.alloc (.map #[] 0)) ∧ (β.set S.nx (.mp w.heap.size)) S.nx = .mp w.heap.size := by
  have hst : Step β (β.set S.nx (.mp w.heap.size)) := Step.fresh h.nx_fresh _
  have hold : ∀ k, k < w.heap.size → (w.alloc (.map #[] 0)).heap[k]? = w.heap[k]? := fun k hk => _root_.Go.heap_alloc_old w _ hk
  refine ⟨h.new (by intro h; cases h) (fun b o hb => hold b (h.imm_lt hb)) (fun o b hb => hold b (h.block_lt hb)) ?_ ?_, ⟨fun _ _ h => h, hst, by simp, ?_, rfl, rfl, rfl⟩, Objs.set_same _ _ _⟩
  · intro b hb
    cases hb
    refine ⟨?_, fun o ho => ?_⟩
    · cases hm : m w.heap.size with
      | none => rfl
      | some o => exact absurd (h.imm_lt hm) (Nat.lt_irrefl _)
    · exact absurd (h.block_lt ho) (Nat.lt_irrefl _)
  · exact ⟨#[], 0, heap_alloc_new w _, rfl, by simp⟩
  · intro b hb hm hn
    refine ⟨hold b hb, hm, fun o ho => ?_⟩
    by_cases e : o = S.nx
    · subst e; rw [Objs.set_same] at ho; simp only [Loc.block?, Option.some.injEq] at ho; omega
    · rw [Objs.set_other _ _ e] at ho; exact hn o ho

theorem does_makeMap {o : Oper} {t : TypeId} (ho : o.op = .makeMap t none) (hS : Holds S m β w) : Does P ((execOp a.eval o).run P w) (.map S.nx) (S.add (0, [])) m β w := by
  obtain ⟨h1, h2, h3⟩ := hS.addMap
  refine ⟨.map (some w.heap.size), _, m, _, .inl ?_, Rep.map (m := m) S.nx w.heap.size h3, h1, h2⟩
  simp [execOp, ho, Instr.makeMap]

theorem zero1_spec {t : TypeId} {z : V} (h : Program.zero1 P t = some z) : ∃ zv, (zeroValue t).run P w = .ok zv w ∧ RepI m z zv := by
  unfold Program.zero1 at h
  split at h
  · rename_i i hi
    split at h
    · rename_i zv hz
      exact ⟨zv, by simp [zeroValue, typeInfo, hi, hz], constV_rep h⟩
    · cases h
  · cases h

theorem does_lookup {o : Oper} {t kt e : TypeId} {d : IntKind} {z : V} {ok : Bool} {y i : Operand} {yz iz : Arg} {x : V} (ho : o.op = .lookup t y i ok) (ht : P.underlying t = some (.map kt e)) (hd : P.underlying kt = some (.int d))
    (hz : Program.zero1 P e = some z) (hy : argOf y = some yz) (hi : argOf i = some iz) (hS : Holds S m β w) (hF : FrameRep N m β σ a) (he : opLookup z ok S (ev σ yz) (ev σ iz) = some x) :
    Does P ((execOp a.eval o).run P w) x S m β w := by
  have hry := ev_rep hF hy
  have hri := ev_rep hF hi
  generalize ev σ yz = p at he hry
  generalize ev σ iz = q at he hri
  cases p with
  | map ob =>
    cases q with
    | int kk n =>
      have ei := hri.inv_int
      simp only [opLookup] at he
      cases hc : S.get ob with
      | none => simp [hc] at he
      | some c =>
        simp only [hc] at he
        obtain ⟨b, hob, ey⟩ := hry.inv_map (hS.alive hc)
        have hl := hS.live ob c hc
        rw [hob] at hl
        obtain ⟨es, clock, h1, h2, h3⟩ := hl
        obtain ⟨zv, hzr, hzv⟩ := zero1_spec (P := P) (m := m) (w := w) hz
        have hg := MapKept.run_getObj_map (P := P) h1
        have hck := check_int (w := w) hd kk n es.isEmpty 9999
        cases hlk : lookV (.int kk n) c.2 0 with
        | none => simp [hlk] at he
        | some r =>
          have hf := lookV_find (d := d) c.2 es.toList 0 r (by simpa using h2) (fun i x e q1 q2 => h3 i x e q1 (by simpa using q2)) hlk
          rw [hlk] at he
          rcases hf with ⟨rfl, hfn⟩ | ⟨j, v, e', rfl, g1, g2, g3, hfn⟩
          · have hfk := MapKept.run_findKey (P := P) (w := w) hd hfn
            simp only [Option.some.injEq] at he
            subst he
            cases ok with
            | false => exact Does.same (v := zv) hS (by simp [execOp, ho, ey, ei, Instr.lookup, run_underlying ht, Result.andThen, hg, hck, hfk, hzr]) (.imm hzv)
            | true =>
              refine Does.same (v := .tuple #[zv, .bool false]) hS (by simp [execOp, ho, ey, ei, Instr.lookup, run_underlying ht, Result.andThen, hg, hck, hfk, hzr]) ?_
              exact Rep.tuple [z, .bool false] [zv, .bool false] rfl fun i x v h1 h2 => by
                match i, h1, h2 with
                | 0, h1, h2 => cases h1; cases h2; exact .imm hzv
                | 1, h1, h2 => cases h1; cases h2; exact .imm (.bool _)
          · have hfk := MapKept.run_findKey (P := P) (w := w) hd hfn
            simp only [Option.some.injEq] at he
            subst he
            cases ok with
            | false => exact Does.same (v := e'.val) hS (by simp [execOp, ho, ey, ei, Instr.lookup, run_underlying ht, Result.andThen, hg, hck, hfk]) g3
            | true =>
              refine Does.same (v := .tuple #[e'.val, .bool true]) hS (by simp [execOp, ho, ey, ei, Instr.lookup, run_underlying ht, Result.andThen, hg, hck, hfk]) ?_
              exact Rep.tuple [v, .bool true] [e'.val, .bool true] rfl fun i x v h1 h2 => by
                match i, h1, h2 with
                | 0, h1, h2 => cases h1; cases h2; exact g3
                | 1, h1, h2 => cases h1; cases h2; exact .imm (.bool _)
    | _ => simp [opLookup] at he
  | _ => simp [opLookup] at he

/-- A map's entries written. -/
theorem Holds.setMap (h : Holds S m β w) {o b : Nat} {c : Nat × List V} (ho : S.get o = some c) (hob : β o = .mp b) {es0 : Array MapEntry} {clock0 : Nat} (h0 : w.heap[b]? = some (.map es0 clock0)) (es : Array MapEntry) (clock : Nat) (cells' : List V) (hl : cells'.length = es.size)
    (hr : ∀ (i : Nat) (x : V) (e : MapEntry), cells'[i]? = some x → es[i]? = some e → EntryRep m β x e) :
    Holds (S.upd o (c.1, cells')) m β { w with heap := w.heap.setIfInBounds b (.map es clock) } ∧ Ext m β w m β { w with heap := w.heap.setIfInBounds b (.map es clock) } := by
  have hbl : (β o).block? = some b := by rw [hob]; rfl
  obtain ⟨k1, k2⟩ := MapKept.heap_set (o' := .map es clock) h0
  refine ⟨h.write ho hbl (fun k hk => k2 k hk) ?_, ⟨fun _ _ h => h, Step.refl β, by simp, fun k hk hm hnn => ⟨k2 k (fun e => hnn o (by rw [hbl, e])), hm, hnn⟩, rfl, rfl, rfl⟩⟩
  rw [hob]
  exact ⟨es, clock, k1, hl, hr⟩

theorem does_mapUpdate {o : Oper} {t kt e : TypeId} {d : IntKind} {y i u : Operand} {yz iz uz : Arg} {S' : Store} (ho : o.op = .mapUpdate t y i u) (ht : P.underlying t = some (.map kt e)) (hd : P.underlying kt = some (.int d))
    (hy : argOf y = some yz) (hi : argOf i = some iz) (hu : argOf u = some uz) (hS : Holds S m β w) (hF : FrameRep N m β σ a) (he : opMapUpdate S (ev σ yz) (ev σ iz) (ev σ uz) = some S') :
    Does P ((execOp a.eval o).run P w) (.tuple []) S' m β w := by
  have hry := ev_rep hF hy
  have hri := ev_rep hF hi
  have hru := ev_rep hF hu
  generalize ev σ yz = p at he hry
  generalize ev σ iz = q at he hri
  generalize ev σ uz = v at he hru
  cases p with
  | map ob =>
    cases q with
    | int kk n =>
      have ei := hri.inv_int
      simp only [opMapUpdate] at he
      cases hc : S.get ob with
      | none => simp [hc] at he
      | some c =>
        simp only [hc] at he
        obtain ⟨b, hob, ey⟩ := hry.inv_map (hS.alive hc)
        have hl := hS.live ob c hc
        rw [hob] at hl
        obtain ⟨es, clock, h1, h2, h3⟩ := hl
        have hg := MapKept.run_getObj_map (P := P) h1
        have hck := check_int (w := w) hd kk n false 9999
        have hent : ∀ x, x = a.eval u → EntryRep m β (.tuple [.int kk n, v]) { key := .int kk n, val := x, born := clock } := fun x hx => ⟨_, _, rfl, .int _ _, by rw [hx]; exact hru⟩
        cases hlk : lookV (.int kk n) c.2 0 with
        | none => simp [hlk] at he
        | some r =>
          have hf := lookV_find (d := d) c.2 es.toList 0 r (by simpa using h2) (fun i x e q1 q2 => h3 i x e q1 (by simpa using q2)) hlk
          rw [hlk] at he
          rcases hf with ⟨rfl, hfn⟩ | ⟨j, v', e', rfl, g1, g2, g3, hfn⟩
          · have hfk := MapKept.run_findKey (P := P) (w := w) hd hfn
            simp only [Option.some.injEq] at he
            subst he
            obtain ⟨k1, k2⟩ := hS.setMap hc hob h1 (es.push { key := .int kk n, val := a.eval u, born := clock }) (clock + 1) (c.2 ++ [.tuple [.int kk n, v]]) (by simp [h2]) (fun i x e q1 q2 => by
              by_cases hie : i < c.2.length
              · rw [List.getElem?_append_left hie] at q1
                rw [Array.getElem?_push, if_neg (by omega)] at q2
                exact h3 i x e q1 q2
              · rw [List.getElem?_append_right (by omega)] at q1
                have hi0 : i - c.2.length = 0 := by
                  rcases Nat.eq_zero_or_pos (i - c.2.length) with h | h
                  · exact h
                  · rw [List.getElem?_eq_none (by simp; omega)] at q1; cases q1
                rw [hi0] at q1
                cases q1
                rw [Array.getElem?_push, if_pos (by omega)] at q2
                cases q2
                exact hent _ rfl)
            refine ⟨undef, _, m, β, .inr ⟨?_, rfl⟩, rep_undef m β, k1, k2⟩
            simp [execOp, ho, ey, ei, Instr.mapUpdate, run_underlying ht, Result.andThen, hg, hck, hfk, MapKept.run_setObj_map _ h1]
          · have hfk := MapKept.run_findKey (P := P) (w := w) hd hfn
            simp only [Option.some.injEq] at he
            subst he
            simp only [Nat.zero_add] at hfk
            have g1' : es[j]? = some e' := by simpa using g1
            obtain ⟨k1, k2⟩ := hS.setMap hc hob h1 (es.modify j fun e => { e with key := .int kk n, val := a.eval u }) clock (c.2.set (0 + j) (.tuple [.int kk n, v])) (by simp [h2]) (fun i x e q1 q2 => by
              rw [Nat.zero_add] at q1
              by_cases hij : j = i
              · subst hij
                have hjl : j < c.2.length := by rw [h2]; exact (Array.getElem?_eq_some_iff.1 g1').1
                rw [List.getElem?_set_self hjl] at q1
                cases q1
                rw [Array.getElem?_modify, if_pos rfl, g1'] at q2
                cases q2
                exact ⟨_, _, rfl, .int _ _, hru⟩
              · rw [List.getElem?_set_ne hij] at q1
                rw [Array.getElem?_modify, if_neg hij] at q2
                exact h3 i x e q1 q2)
            refine ⟨undef, _, m, β, .inr ⟨?_, rfl⟩, rep_undef m β, k1, k2⟩
            simp [execOp, ho, ey, ei, Instr.mapUpdate, run_underlying ht, Result.andThen, hg, hck, hfk, g1', g2, Instr.keyThatStays, Instr.sameBits, MapKept.run_setObj_map _ h1]
    | _ => simp [opMapUpdate] at he
  | _ => simp [opMapUpdate] at he
theorem does_insert {o : Oper} {t kt e : TypeId} {d : IntKind} {y i u : Operand} {yz iz uz : Arg} {S' : Store} (ho : o.op = .insert t y i u) (ht : P.underlying t = some (.map kt e)) (hd : P.underlying kt = some (.int d))
    (hy : argOf y = some yz) (hi : argOf i = some iz) (hu : argOf u = some uz) (hS : Holds S m β w) (hF : FrameRep N m β σ a) (he : opMapUpdate S (ev σ yz) (ev σ iz) (ev σ uz) = some S') :
    Does P ((execOp a.eval o).run P w) (.tuple []) S' m β w := by
  have h := does_mapUpdate (o := { o with op := .mapUpdate t y i u }) (P := P) (N := N) rfl ht hd hy hi hu hS hF he
  have e : execOp a.eval o = execOp a.eval { o with op := .mapUpdate t y i u } := by simp [execOp, ho]
  rw [e]; exact h
end
end Go.Vw

/-
  All operations but calls: over values without addresses they do what the model's do.
-/
namespace Go.Vw
open Go.RowKit

section
variable {P : Program} {N : Nat} {S : Store} {m : Imm} {β : Objs} {w : World} {σ : Fr} {a : Act}

theorem does_len {o : Oper} {t e : TypeId} {y : Operand} {z : Arg} {x : V} (ho : o.op = .call { callee := .builtin .len, args := #[y], argTypes := #[t] })
    (hu : P.underlying t = some (.slice e)) (hz : argOf y = some z) (hS : Holds S m β w) (hF : FrameRep N m β σ a) (he : opLen S (ev σ z) = some x) : Does P ((execOp a.eval o).run P w) x S m β w := by
  have hr := ev_rep hF hz
  generalize ev σ z = p at he hr
  have run : ∀ ad (len cap : Nat), a.eval y = .slice ad len cap → (execOp a.eval o).run P w = .ok (.value (.int .i64 len)) w := by
    intro ad len cap h1
    simp [execOp, ho, resolve, invoke, builtin, h1, Builtin.len_, run_underlying hu, goInt]
  cases p with
  | list xs =>
    simp only [opLen] at he
    cases he
    cases hv : a.eval y with
    | slice ad len cap =>
      have hl := hr.inv_list
      rw [hv] at hl
      have : len = xs.length := by cases hl <;> rfl
      subst this
      exact Does.same hS (run ad _ cap hv) (.imm (.int _ _))
    | _ => have hl := hr.inv_list; rw [hv] at hl; cases hl
  | slice o' off len =>
    simp only [opLen] at he
    split at he
    · rename_i hs
      cases he
      obtain ⟨c, hc⟩ := Option.isSome_iff_exists.1 hs
      obtain ⟨ad, cap, e, _⟩ := hr.inv_slice (hS.alive hc)
      exact Does.same hS (run ad len cap e) (.imm (.int _ _))
    · cases he
  | nils =>
    simp only [opLen] at he
    cases he
    obtain ⟨ad, e⟩ := hr.inv_nils
    exact Does.same hS (run ad 0 0 e) (.imm (.int _ _))
  | _ => simp [opLen] at he

def COp.simple : COp → Bool
  | .call _ _ | .callv _ _ => false
  | _ => true

theorem op_sound {o : Oper} {co : COp} (hc : compOp P o = some co) {x : V} {S' : Store} (he : evalOp (ev σ) S co = some (x, S')) (hS : Holds S m β w) (hF : FrameRep N m β σ a) : Does P ((execOp a.eval o).run P w) x S' m β w := by
  unfold compOp at hc
  split at hc
  · -- move
    rename_i y ho
    obtain ⟨z, hz, rfl⟩ := Option.map_eq_some_iff.1 hc
    simp only [evalOp] at he; cases he
    exact Does.same hS (by simp [execOp, ho]) (ev_rep hF hz)
  · -- assign
    rename_i y ho
    obtain ⟨z, hz, rfl⟩ := Option.map_eq_some_iff.1 hc
    simp only [evalOp] at he; cases he
    exact Does.same hS (by simp [execOp, ho]) (ev_rep hF hz)
  · -- pick
    rename_i c y u ho
    split at hc
    · rename_i cz yz uz h1 h2 h3
      cases hc
      simp only [evalOp] at he
      split at he
      · rename_i t ht
        cases he
        have hr := ev_rep hF h1
        rw [ht] at hr
        have e := hr.inv_bool
        cases t
        · exact Does.same hS (v := a.eval u) (by simp [execOp, ho, e, asBool]) (by simpa using ev_rep hF h3)
        · exact Does.same hS (v := a.eval y) (by simp [execOp, ho, e, asBool]) (by simpa using ev_rep hF h2)
      · cases he
    · cases hc
  · -- alloc
    rename_i t ho
    split at hc
    · rename_i d z h1 h2
      cases hc
      simp only [evalOp] at he; cases he
      exact does_alloc ho h2 hS
    · cases hc
  · -- box
    rename_i t y ho
    obtain ⟨z, hz, rfl⟩ := Option.map_eq_some_iff.1 hc
    simp only [evalOp] at he
    split at he
    · rename_i h1; cases he; exact does_box ho hz h1 hS hF
    · cases he
  · -- build
    rename_i t parts ho
    split at hc
    · rename_i fs z h1 h2
      obtain ⟨ps, hps, rfl⟩ := Option.map_eq_some_iff.1 hc
      simp only [evalOp, Option.map_eq_some_iff] at he
      obtain ⟨cs, hcs, he⟩ := he
      cases he
      exact does_build ho h1 h2 hps hS hF hcs
    · cases hc
  · -- buildSlice
    rename_i t len parts ho
    split at hc
    · rename_i e i h1
      split at hc
      · rename_i z h2
        split at hc
        · rename_i h3
          obtain ⟨ps, hps, rfl⟩ := Option.map_eq_some_iff.1 hc
          simp only [evalOp, Option.map_eq_some_iff] at he
          obtain ⟨cs, hcs, he⟩ := he
          cases he
          exact does_buildSlice ho h1 h2 h3 hps hS hF hcs
        · cases hc
      · cases hc
    · cases hc
  · -- load
    rename_i t y ho
    split at hc
    · rename_i sz z h1 h2
      cases hc
      simp only [evalOp, Option.map_eq_some_iff] at he
      obtain ⟨v, hv, he⟩ := he
      cases he
      exact does_load ho h1 h2 hS hF hv
    · cases hc
  · -- store
    rename_i t p v ho
    split at hc
    · rename_i sz pz vz h1 h2 h3
      cases hc
      simp only [evalOp, Option.map_eq_some_iff] at he
      obtain ⟨S1, hS1, he⟩ := he
      cases he
      exact does_store ho h1 h2 h3 hS hF hS1
    · cases hc
  · -- nilCheck
    rename_i y ho
    obtain ⟨z, hz, rfl⟩ := Option.map_eq_some_iff.1 hc
    have hr := ev_rep hF hz
    simp only [evalOp] at he
    split at he
    · rename_i o' p hp
      split at he
      · rename_i hs
        cases he
        rw [hp] at hr
        obtain ⟨c, hc'⟩ := Option.isSome_iff_exists.1 hs
        obtain ⟨b, base, s, n, hob, e⟩ := hr.inv_ptr (hS.alive hc')
        rw [e] at hr
        exact Does.same hS (by simp [execOp, ho, e]) hr
      · cases he
    · rename_i y' hp
      cases he
      rw [hp] at hr
      obtain ⟨u, b, off, arr, T, fz, e, _⟩ := hr.inv_ref
      rw [e] at hr
      exact Does.same hS (by simp [execOp, ho, e]) hr
    · cases he
  · -- binOp
    rename_i op t y u t' ho
    split at hc
    · rename_i yz uz h1 h2
      split at hc
      · rename_i ht
        cases hc
        simp only [evalOp, Option.map_eq_some_iff] at he
        obtain ⟨v, hv, he⟩ := he
        cases he
        exact does_beq (neg := false) ho rfl ht h1 h2 hS hF hv
      · rename_i ht
        cases hc
        simp only [evalOp, Option.map_eq_some_iff] at he
        obtain ⟨v, hv, he⟩ := he
        cases he
        exact does_beq (neg := true) ho rfl ht h1 h2 hS hF hv
      · cases hc
        simp only [evalOp, Option.map_eq_some_iff] at he
        obtain ⟨v, hv, he⟩ := he
        cases he
        exact does_bin ho h1 h2 hS hF hv
    · cases hc
  · -- unOp
    rename_i op t y ho
    obtain ⟨z, hz, rfl⟩ := Option.map_eq_some_iff.1 hc
    simp only [evalOp, Option.map_eq_some_iff] at he
    obtain ⟨v, hv, he⟩ := he
    cases he
    have hr := ev_rep hF hz
    generalize ev σ z = p at hv hr
    unfold opUn at hv
    split at hv
    · cases hv; exact Does.same hS (by simp [execOp, ho, hr.inv_bool, Op.unary]) (.imm (.bool _))
    · cases hv; exact Does.same hS (by simp [execOp, ho, hr.inv_int, Op.unary, Op.intArith]) (.imm (.int _ _))
    · cases hv
  · -- convert
    rename_i s d y ho
    split at hc
    · rename_i ds k h1 h2
      obtain ⟨z, hz, rfl⟩ := Option.map_eq_some_iff.1 hc
      have hr := ev_rep hF hz
      simp only [evalOp] at he
      split at he
      · rename_i k' n hn
        cases he
        rw [hn] at hr
        exact Does.same hS (v := .int k (k.wrap n)) (by simp [execOp, ho, hr.inv_int, convert, run_underlying h1, run_underlying h2, Conv.intToInt]) (.imm (.int _ _))
      · cases he
    · cases hc
  · -- makeFunc
    rename_i fn first caps ho
    split at hc
    · rename_i f hfi
      obtain ⟨zs, hz, rfl⟩ := Option.map_eq_some_iff.1 hc
      have hfi' : first = #[] := by cases first; simp at hfi; rw [hfi]
      subst hfi'
      simp only [evalOp] at he; cases he
      have hr := evs_rep hF hz
      refine Does.same hS (v := .func (.func f) #[] (caps.toList.map a.eval).toArray) ?_ (.func f _ _ hr.1 hr.2)
      have hcaps : caps.map a.eval = (caps.toList.map a.eval).toArray := by simp [← Array.toList_map]
      simp [execOp, ho, Instr.makeFunc, hcaps]
    · cases hc
  · -- makeSlice
    rename_i t l c ho
    split at hc
    · rename_i e i lz cz h1 h2 h3
      split at hc
      · rename_i z h4
        cases hc
        simp only [evalOp] at he
        exact does_make ho h1 h4 h2 h3 hS hF he
      · cases hc
    · cases hc
  · -- slice
    rename_i t y lo hi mx ho
    split at hc
    · rename_i e i yz loz hiz mxz h1 h2 h3 h4 h5
      cases hc
      simp only [evalOp, Option.map_eq_some_iff] at he
      obtain ⟨v, hv, he⟩ := he
      cases he
      exact does_slice ho h1 h2 h3 h4 h5 hS hF hv
    · cases hc
  · -- fieldAddr
    rename_i t y f ho
    split at hc
    · rename_i off sz z h1 h2
      cases hc
      simp only [evalOp, Option.map_eq_some_iff] at he
      obtain ⟨v, hv, he⟩ := he
      cases he
      exact does_fieldAddr ho h1 h2 hS hF hv
    · cases hc
  · -- field
    rename_i t y f ho
    split at hc
    · rename_i off sz z h1 h2
      cases hc
      simp only [evalOp, Option.map_eq_some_iff] at he
      obtain ⟨v, hv, he⟩ := he
      cases he
      exact does_field ho h1 h2 hS hF hv
    · cases hc
  · -- indexAddr
    rename_i t y i ho
    split at hc
    · rename_i e j yz iz h1 h2 h3
      cases hc
      simp only [evalOp, Option.map_eq_some_iff] at he
      obtain ⟨v, hv, he⟩ := he
      cases he
      exact does_index ho h1 h2 h3 hS hF hv
    · cases hc
  · -- extract
    rename_i y i ho
    obtain ⟨z, hz, rfl⟩ := Option.map_eq_some_iff.1 hc
    have hr := ev_rep hF hz
    simp only [evalOp] at he
    split at he
    · rename_i xs hxs
      rw [hxs] at hr
      obtain ⟨v, hv, he⟩ := Option.map_eq_some_iff.1 he
      cases he
      obtain ⟨vs, e, hl, hrr⟩ := hr.inv_tuple
      have hlt : i < vs.length := by rw [← hl]; exact (List.getElem?_eq_some_iff.1 hv).1
      refine Does.same hS (v := vs[i]) ?_ (hrr i x vs[i] hv (List.getElem?_eq_getElem hlt))
      simp [execOp, ho, e, Instr.extract, hlt]
    · cases he
  · -- calls
    rename_i c ho
    obtain ⟨callee, args, argTypes⟩ := c
    have arr1 : ∀ {α : Type} {xs : Array α} {l : List α}, xs.toList = l → xs = l.toArray := fun h => by rw [← h]
    unfold compCall at hc
    split at hc
    · -- len
      rename_i y t h1 h2 h3
      simp only at h1 h2 h3
      subst h1
      rw [arr1 h2, arr1 h3] at ho
      split at hc
      · rename_i e hu
        obtain ⟨z, hz, rfl⟩ := Option.map_eq_some_iff.1 hc
        simp only [evalOp, Option.map_eq_some_iff] at he
        obtain ⟨v, hv, he⟩ := he
        cases he
        exact does_len ho hu hz hS hF hv
      · rename_i hu
        obtain ⟨z, hz, rfl⟩ := Option.map_eq_some_iff.1 hc
        have hr := ev_rep hF hz
        simp only [evalOp] at he
        split at he
        · rename_i s hs
          cases he
          rw [hs] at hr
          refine Does.same hS (v := .int .i64 s.size) ?_ (.imm (.int _ _))
          simp [execOp, ho, resolve, invoke, builtin, hr.inv_str, Builtin.len_, run_underlying hu, goInt]
        · cases he
      · cases hc
    · -- append
      rename_i y u t t' h1 h2 h3
      simp only at h1 h2 h3
      subst h1
      rw [arr1 h2, arr1 h3] at ho
      split at hc
      · rename_i htt
        subst htt
        split at hc
        · rename_i e i yz uz k1 k2 k3
          split at hc
          · rename_i z k4
            split at hc
            · rename_i k5
              cases hc
              simp only [evalOp] at he
              exact does_append ho k1 k4 k5 k2 k3 hS hF he
            · cases hc
          · cases hc
        · cases hc
      · cases hc
    · -- copy
      rename_i y u t t' h1 h2 h3
      simp only at h1 h2 h3
      subst h1
      rw [arr1 h2, arr1 h3] at ho
      split at hc
      · rename_i htt
        subst htt
        split at hc
        · rename_i e i yz uz k1 k2 k3
          cases hc
          simp only [evalOp] at he
          exact does_copy ho k1 k2 k3 hS hF he
        · cases hc
      · cases hc
    · -- call
      split at hc
      · split at hc
        · cases hc
        · obtain ⟨zs, hz, rfl⟩ := Option.map_eq_some_iff.1 hc
          simp [evalOp] at he
      · cases hc
    · split at hc
      · cases hc; simp [evalOp] at he
      · cases hc
    · cases hc
  · -- makeMap
    rename_i ty ho
    cases hc
    simp only [evalOp] at he; cases he
    exact does_makeMap ho hS
  · -- lookup
    rename_i ty y i ok ho
    split at hc
    · rename_i kt e yz iz ht hy hi
      split at hc
      · rename_i d z hd hz
        cases hc
        simp only [evalOp] at he
        obtain ⟨v, hv, h⟩ := Option.map_eq_some_iff.1 he
        cases h
        exact does_lookup ho ht hd hz hy hi hS hF hv
      · cases hc
    · cases hc
  · -- mapUpdate
    rename_i ty y i u ho
    split at hc
    · rename_i kt e yz iz uz ht hy hi hu
      split at hc
      · rename_i d hd
        cases hc
        simp only [evalOp] at he
        obtain ⟨v, hv, h⟩ := Option.map_eq_some_iff.1 he
        cases h
        exact does_mapUpdate ho ht hd hy hi hu hS hF hv
      · cases hc
    · cases hc
  · -- insert
    rename_i ty y i u ho
    split at hc
    · rename_i kt e yz iz uz ht hy hi hu
      split at hc
      · rename_i d hd
        cases hc
        simp only [evalOp] at he
        obtain ⟨v, hv, h⟩ := Option.map_eq_some_iff.1 he
        cases h
        exact does_insert ho ht hd hy hi hu hS hF hv
      · cases hc
    · cases hc
  · cases hc
end
end Go.Vw
