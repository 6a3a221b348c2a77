import Derived.Test.YtgnoiaekmmfnmaaVSound6
import Derived.Test.YtgnoiaekmmfnmaaVMaps
/-
  All operations but calls: over values without addresses they do what the model's do.
-/
set_option linter.unusedVariables false
namespace Go.Vw
open Go.RowKit

section
variable {P : Program} {N : Nat} {S : Store} {m : Imm} {β : Objs} {w : World} {σ : Fr} {a : Act}

theorem does_len {o : Oper} {t e : TypeId} {y : Operand} {z : Arg} {x : V} (ho : o.op = .call { callee := .builtin .len, args := #[y], argTypes := #[t] })
    (hu : P.underlying t = some (.slice e)) (hz : argOf y = some z) (hS : Holds S m β w) (hF : FrameRep N m β σ a) (he : opLen S (ev σ z) = some x) : Does P ((execOp a.eval o).run P w) x S m β w := by
  have hr := ev_rep hF hz
  generalize ev σ z = p at he hr
  have run : ∀ ad (len cap : Nat), a.eval y = .slice ad len cap → (execOp a.eval o).run P w = .ok (.value (.int .i64 len)) w := by
    intro ad len cap h1
    simp [execOp, ho, resolve, invoke, builtin, h1, Builtin.len_, run_underlying hu, goInt]
  cases p with
  | list xs =>
    simp only [opLen] at he
    cases he
    cases hv : a.eval y with
    | slice ad len cap =>
      have hl := hr.inv_list
      rw [hv] at hl
      have : len = xs.length := by cases hl <;> rfl
      subst this
      exact Does.same hS (run ad _ cap hv) (.imm (.int _ _))
    | _ => have hl := hr.inv_list; rw [hv] at hl; cases hl
  | slice o' off len =>
    simp only [opLen] at he
    split at he
    · rename_i hs
      cases he
      obtain ⟨c, hc⟩ := Option.isSome_iff_exists.1 hs
      obtain ⟨ad, cap, e, _⟩ := hr.inv_slice (hS.alive hc)
      exact Does.same hS (run ad len cap e) (.imm (.int _ _))
    · cases he
  | nils =>
    simp only [opLen] at he
    cases he
    obtain ⟨ad, e⟩ := hr.inv_nils
    exact Does.same hS (run ad 0 0 e) (.imm (.int _ _))
  | _ => simp [opLen] at he

def COp.simple : COp → Bool
  | .call _ _ | .callv _ _ => false
  | _ => true

theorem op_sound {o : Oper} {co : COp} (hc : compOp P o = some co) {x : V} {S' : Store} (he : evalOp (ev σ) S co = some (x, S')) (hS : Holds S m β w) (hF : FrameRep N m β σ a) : Does P ((execOp a.eval o).run P w) x S' m β w := by
  unfold compOp at hc
  split at hc
  · -- move
    rename_i y ho
    obtain ⟨z, hz, rfl⟩ := Option.map_eq_some_iff.1 hc
    simp only [evalOp] at he; cases he
    exact Does.same hS (by simp [execOp, ho]) (ev_rep hF hz)
  · -- assign
    rename_i y ho
    obtain ⟨z, hz, rfl⟩ := Option.map_eq_some_iff.1 hc
    simp only [evalOp] at he; cases he
    exact Does.same hS (by simp [execOp, ho]) (ev_rep hF hz)
  · -- pick
    rename_i c y u ho
    split at hc
    · rename_i cz yz uz h1 h2 h3
      cases hc
      simp only [evalOp] at he
      split at he
      · rename_i t ht
        cases he
        have hr := ev_rep hF h1
        rw [ht] at hr
        have e := hr.inv_bool
        cases t
        · exact Does.same hS (v := a.eval u) (by simp [execOp, ho, e, asBool]) (by simpa using ev_rep hF h3)
        · exact Does.same hS (v := a.eval y) (by simp [execOp, ho, e, asBool]) (by simpa using ev_rep hF h2)
      · cases he
    · cases hc
  · -- alloc
    rename_i t ho
    split at hc
    · rename_i d z h1 h2
      cases hc
      simp only [evalOp] at he; cases he
      exact does_alloc ho h2 hS
    · cases hc
  · -- box
    rename_i t y ho
    obtain ⟨z, hz, rfl⟩ := Option.map_eq_some_iff.1 hc
    simp only [evalOp] at he
    split at he
    · rename_i h1; cases he; exact does_box ho hz h1 hS hF
    · cases he
  · -- build
    rename_i t parts ho
    split at hc
    · rename_i fs z h1 h2
      obtain ⟨ps, hps, rfl⟩ := Option.map_eq_some_iff.1 hc
      simp only [evalOp, Option.map_eq_some_iff] at he
      obtain ⟨cs, hcs, he⟩ := he
      cases he
      exact does_build ho h1 h2 hps hS hF hcs
    · cases hc
  · -- buildSlice
    rename_i t len parts ho
    split at hc
    · rename_i e i h1
      split at hc
      · rename_i z h2
        split at hc
        · rename_i h3
          obtain ⟨ps, hps, rfl⟩ := Option.map_eq_some_iff.1 hc
          simp only [evalOp, Option.map_eq_some_iff] at he
          obtain ⟨cs, hcs, he⟩ := he
          cases he
          exact does_buildSlice ho h1 h2 h3 hps hS hF hcs
        · cases hc
      · cases hc
    · cases hc
  · -- load
    rename_i t y ho
    split at hc
    · rename_i sz z h1 h2
      cases hc
      simp only [evalOp, Option.map_eq_some_iff] at he
      obtain ⟨v, hv, he⟩ := he
      cases he
      exact does_load ho h1 h2 hS hF hv
    · cases hc
  · -- store
    rename_i t p v ho
    split at hc
    · rename_i sz pz vz h1 h2 h3
      cases hc
      simp only [evalOp, Option.map_eq_some_iff] at he
      obtain ⟨S1, hS1, he⟩ := he
      cases he
      exact does_store ho h1 h2 h3 hS hF hS1
    · cases hc
  · -- nilCheck
    rename_i y ho
    obtain ⟨z, hz, rfl⟩ := Option.map_eq_some_iff.1 hc
    have hr := ev_rep hF hz
    simp only [evalOp] at he
    split at he
    · rename_i o' p hp
      split at he
      · rename_i hs
        cases he
        rw [hp] at hr
        obtain ⟨c, hc'⟩ := Option.isSome_iff_exists.1 hs
        obtain ⟨b, base, s, n, hob, e⟩ := hr.inv_ptr (hS.alive hc')
        rw [e] at hr
        exact Does.same hS (by simp [execOp, ho, e]) hr
      · cases he
    · rename_i y' hp
      cases he
      rw [hp] at hr
      obtain ⟨u, b, off, arr, T, fz, e, _⟩ := hr.inv_ref
      rw [e] at hr
      exact Does.same hS (by simp [execOp, ho, e]) hr
    · cases he
  · -- binOp
    rename_i op t y u t' ho
    split at hc
    · rename_i yz uz h1 h2
      split at hc
      · rename_i ht
        cases hc
        simp only [evalOp, Option.map_eq_some_iff] at he
        obtain ⟨v, hv, he⟩ := he
        cases he
        exact does_beq (neg := false) ho rfl ht h1 h2 hS hF hv
      · rename_i ht
        cases hc
        simp only [evalOp, Option.map_eq_some_iff] at he
        obtain ⟨v, hv, he⟩ := he
        cases he
        exact does_beq (neg := true) ho rfl ht h1 h2 hS hF hv
      · cases hc
        simp only [evalOp, Option.map_eq_some_iff] at he
        obtain ⟨v, hv, he⟩ := he
        cases he
        exact does_bin ho h1 h2 hS hF hv
    · cases hc
  · -- unOp
    rename_i op t y ho
    obtain ⟨z, hz, rfl⟩ := Option.map_eq_some_iff.1 hc
    simp only [evalOp, Option.map_eq_some_iff] at he
    obtain ⟨v, hv, he⟩ := he
    cases he
    have hr := ev_rep hF hz
    generalize ev σ z = p at hv hr
    unfold opUn at hv
    split at hv
    · cases hv; exact Does.same hS (by simp [execOp, ho, hr.inv_bool, Op.unary]) (.imm (.bool _))
    · cases hv; exact Does.same hS (by simp [execOp, ho, hr.inv_int, Op.unary, Op.intArith]) (.imm (.int _ _))
    · cases hv
  · -- convert
    rename_i s d y ho
    split at hc
    · rename_i ds k h1 h2
      obtain ⟨z, hz, rfl⟩ := Option.map_eq_some_iff.1 hc
      have hr := ev_rep hF hz
      simp only [evalOp] at he
      split at he
      · rename_i k' n hn
        cases he
        rw [hn] at hr
        exact Does.same hS (v := .int k (k.wrap n)) (by simp [execOp, ho, hr.inv_int, convert, run_underlying h1, run_underlying h2, Conv.intToInt]) (.imm (.int _ _))
      · cases he
    · cases hc
  · -- makeFunc
    rename_i fn first caps ho
    split at hc
    · rename_i f hfi
      obtain ⟨zs, hz, rfl⟩ := Option.map_eq_some_iff.1 hc
      have hfi' : first = #[] := by cases first; simp at hfi; rw [hfi]
      subst hfi'
      simp only [evalOp] at he; cases he
      have hr := evs_rep hF hz
      refine Does.same hS (v := .func (.func f) #[] (caps.toList.map a.eval).toArray) ?_ (.func f _ _ hr.1 hr.2)
      have hcaps : caps.map a.eval = (caps.toList.map a.eval).toArray := by simp [← Array.toList_map]
      simp [execOp, ho, Instr.makeFunc, hcaps]
    · cases hc
  · -- makeSlice
    rename_i t l c ho
    split at hc
    · rename_i e i lz cz h1 h2 h3
      split at hc
      · rename_i z h4
        cases hc
        simp only [evalOp] at he
        exact does_make ho h1 h4 h2 h3 hS hF he
      · cases hc
    · cases hc
  · -- slice
    rename_i t y lo hi mx ho
    split at hc
    · rename_i e i yz loz hiz mxz h1 h2 h3 h4 h5
      cases hc
      simp only [evalOp, Option.map_eq_some_iff] at he
      obtain ⟨v, hv, he⟩ := he
      cases he
      exact does_slice ho h1 h2 h3 h4 h5 hS hF hv
    · cases hc
  · -- fieldAddr
    rename_i t y f ho
    split at hc
    · rename_i off sz z h1 h2
      cases hc
      simp only [evalOp, Option.map_eq_some_iff] at he
      obtain ⟨v, hv, he⟩ := he
      cases he
      exact does_fieldAddr ho h1 h2 hS hF hv
    · cases hc
  · -- field
    rename_i t y f ho
    split at hc
    · rename_i off sz z h1 h2
      cases hc
      simp only [evalOp, Option.map_eq_some_iff] at he
      obtain ⟨v, hv, he⟩ := he
      cases he
      exact does_field ho h1 h2 hS hF hv
    · cases hc
  · -- indexAddr
    rename_i t y i ho
    split at hc
    · rename_i e j yz iz h1 h2 h3
      cases hc
      simp only [evalOp, Option.map_eq_some_iff] at he
      obtain ⟨v, hv, he⟩ := he
      cases he
      exact does_index ho h1 h2 h3 hS hF hv
    · cases hc
  · -- extract
    rename_i y i ho
    obtain ⟨z, hz, rfl⟩ := Option.map_eq_some_iff.1 hc
    have hr := ev_rep hF hz
    simp only [evalOp] at he
    split at he
    · rename_i xs hxs
      rw [hxs] at hr
      obtain ⟨v, hv, he⟩ := Option.map_eq_some_iff.1 he
      cases he
      obtain ⟨vs, e, hl, hrr⟩ := hr.inv_tuple
      have hlt : i < vs.length := by rw [← hl]; exact (List.getElem?_eq_some_iff.1 hv).1
      refine Does.same hS (v := vs[i]) ?_ (hrr i x vs[i] hv (List.getElem?_eq_getElem hlt))
      simp [execOp, ho, e, Instr.extract, hlt]
    · cases he
  · -- calls
    rename_i c ho
    obtain ⟨callee, args, argTypes⟩ := c
    have arr1 : ∀ {α : Type} {xs : Array α} {l : List α}, xs.toList = l → xs = l.toArray := fun h => by rw [← h]
    unfold compCall at hc
    split at hc
    · -- len
      rename_i y t h1 h2 h3
      simp only at h1 h2 h3
      subst h1
      rw [arr1 h2, arr1 h3] at ho
      split at hc
      · rename_i e hu
        obtain ⟨z, hz, rfl⟩ := Option.map_eq_some_iff.1 hc
        simp only [evalOp, Option.map_eq_some_iff] at he
        obtain ⟨v, hv, he⟩ := he
        cases he
        exact does_len ho hu hz hS hF hv
      · rename_i hu
        obtain ⟨z, hz, rfl⟩ := Option.map_eq_some_iff.1 hc
        have hr := ev_rep hF hz
        simp only [evalOp] at he
        split at he
        · rename_i s hs
          cases he
          rw [hs] at hr
          refine Does.same hS (v := .int .i64 s.size) ?_ (.imm (.int _ _))
          simp [execOp, ho, resolve, invoke, builtin, hr.inv_str, Builtin.len_, run_underlying hu, goInt]
        · cases he
      · cases hc
    · -- append
      rename_i y u t t' h1 h2 h3
      simp only at h1 h2 h3
      subst h1
      rw [arr1 h2, arr1 h3] at ho
      split at hc
      · rename_i htt
        subst htt
        split at hc
        · rename_i e i yz uz k1 k2 k3
          split at hc
          · rename_i z k4
            split at hc
            · rename_i k5
              cases hc
              simp only [evalOp] at he
              exact does_append ho k1 k4 k5 k2 k3 hS hF he
            · cases hc
          · cases hc
        · cases hc
      · cases hc
    · -- copy
      rename_i y u t t' h1 h2 h3
      simp only at h1 h2 h3
      subst h1
      rw [arr1 h2, arr1 h3] at ho
      split at hc
      · rename_i htt
        subst htt
        split at hc
        · rename_i e i yz uz k1 k2 k3
          cases hc
          simp only [evalOp] at he
          exact does_copy ho k1 k2 k3 hS hF he
        · cases hc
      · cases hc
    · -- call
      split at hc
      · split at hc
        · cases hc
        · obtain ⟨zs, hz, rfl⟩ := Option.map_eq_some_iff.1 hc
          simp [evalOp] at he
      · cases hc
    · split at hc
      · cases hc; simp [evalOp] at he
      · cases hc
    · cases hc
  · -- makeMap
    rename_i ty ho
    cases hc
    simp only [evalOp] at he; cases he
    exact does_makeMap ho hS
  · -- lookup
    rename_i ty y i ok ho
    split at hc
    · rename_i kt e yz iz ht hy hi
      split at hc
      · rename_i d z hd hz
        cases hc
        simp only [evalOp] at he
        obtain ⟨v, hv, h⟩ := Option.map_eq_some_iff.1 he
        cases h
        exact does_lookup ho ht hd hz hy hi hS hF hv
      · cases hc
    · cases hc
  · -- mapUpdate
    rename_i ty y i u ho
    split at hc
    · rename_i kt e yz iz uz ht hy hi hu
      split at hc
      · rename_i d hd
        cases hc
        simp only [evalOp] at he
        obtain ⟨v, hv, h⟩ := Option.map_eq_some_iff.1 he
        cases h
        exact does_mapUpdate ho ht hd hy hi hu hS hF hv
      · cases hc
    · cases hc
  · cases hc
end
end Go.Vw
