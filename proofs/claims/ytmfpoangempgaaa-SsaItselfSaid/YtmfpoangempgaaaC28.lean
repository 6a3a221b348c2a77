import Derived.Test.YtmfpoangempgaaaC27
/-
  Part of the proof (texts SChk).
-/
set_option linter.unusedVariables false
set_option linter.unusedSimpArgs false
namespace Ss
def checkCode (e : Env) (f : Fn) (ds : List Def) (near : List Int) (i : Int) : Nat → List Ins → Bool
  | _, [] => true
  | k, x :: r => insOk e f ds near i k x && checkCode e f ds near i (k + 1) r
def checkBlocks (e : Env) (f : Fn) (ds : List Def) (near : List Int) : Nat → List Block → Bool
  | _, [] => true
  | i, b :: bs => checkCode e f ds near i 0 b.code && termOk f ds near i b && checkBlocks e f ds near (i + 1) bs
def checkHead (e : Env) (f : Fn) : Bool := e.right && f.small && decide (f.blocks.length ≤ 256) && kinds 2048 f.types && f.sig.right && f.blocks.all fun b => decide (b.params.length ≤ 256)
/-- May a function be? -/
def check (e : Env) (f : Fn) : Bool := checkHead e f && match defsOf f with
  | none => false
  | some ds => shapeOk f && checkBlocks e f ds (Go.Vw.G.nearI (succs f.blocks)) 0 f.blocks

theorem put_in {block pos : Int} : ∀ {l : List Int} {ds d : List Def}, put block pos ds l = some d → InTs ds.length l
  | [], ds, d, h => by intro v hv; cases hv
  | v :: l, ds, d, h => by
    simp only [put] at h
    split at h
    · cases h
    · rename_i hn
      have h1 := put_in h
      intro x hx
      rcases List.mem_cons.1 hx with rfl | hx
      · have k1 : ¬ x < 0 := fun h => hn (.inl h)
        have k2 : ¬ (ds.length : Int) ≤ x := fun h => hn (.inr (.inl h))
        exact ⟨by omega, by omega⟩
      · have := h1 x hx
        simpa using this
theorem putCode_in {i : Int} : ∀ {l : List Ins} {k : Nat} {ds d : List Def}, putCode i k ds l = some d → d.length = ds.length ∧ ∀ x ∈ l, InTs ds.length x.outs
  | [], k, ds, d, h => by simp only [putCode, Option.some.injEq] at h; subst h; exact ⟨rfl, by simp⟩
  | x :: l, k, ds, d, h => by
    simp only [putCode] at h
    obtain ⟨d1, h1, h2⟩ := Option.bind_eq_some_iff.1 h
    obtain ⟨k1, k2⟩ := putCode_in h2
    have e1 := put_len h1
    refine ⟨k1.trans e1, fun y hy => ?_⟩
    rcases List.mem_cons.1 hy with rfl | hy
    · exact put_in h1
    · rw [← e1]; exact k2 y hy
theorem putBlocks_in : ∀ {l : List Block} {i : Nat} {ds d : List Def}, putBlocks i ds l = some d → d.length = ds.length ∧ ∀ b ∈ l, InTs ds.length b.params ∧ ∀ x ∈ b.code, InTs ds.length x.outs
  | [], i, ds, d, h => by simp only [putBlocks, Option.some.injEq] at h; subst h; exact ⟨rfl, by simp⟩
  | b :: l, i, ds, d, h => by
    simp only [putBlocks] at h
    obtain ⟨d2, h1, h2⟩ := Option.bind_eq_some_iff.1 h
    obtain ⟨d1, h3, h4⟩ := Option.bind_eq_some_iff.1 h1
    have e1 := put_len h3
    obtain ⟨e2, k2⟩ := putCode_in h4
    obtain ⟨e3, k3⟩ := putBlocks_in h2
    refine ⟨by omega, fun y hy => ?_⟩
    rcases List.mem_cons.1 hy with rfl | hy
    · exact ⟨put_in h3, fun x hx => by rw [← e1]; exact k2 x hx⟩
    · have := k3 y hy
      rw [show ds.length = d2.length by omega]; exact this
theorem defs_in {f : Fn} {ds : List Def} (h : defsOf f = some ds) : ds.length = f.types.length ∧ ∀ b ∈ f.blocks, InTs f.types.length b.params ∧ ∀ x ∈ b.code, InTs f.types.length x.outs := by
  have := putBlocks_in h
  simpa using this
theorem right_to {f : Fn} (h : Go.Vw.G.right (succs f.blocks) = true) : ∀ b ∈ f.blocks, ∀ x ∈ b.term.to, 0 ≤ x.to ∧ x.to < f.blocks.length := by
  intro b hb x hx
  simp only [Go.Vw.G.right, Bool.and_eq_true, List.all_eq_true] at h
  have h1 := h.2 (rowOf b) (List.mem_map.2 ⟨b, hb, rfl⟩)
  have h2 := (Go.Vw.G.rowOk_iff.1 h1).2 x.to (List.mem_map.2 ⟨x, hx, rfl⟩)
  simpa [succs] using h2
end Ss
namespace Go.Vw
open Go.Proofs Go.RowKit
set_option maxRecDepth 10000
set_option maxHeartbeats 4000000

theorem lid_lid (b j k : Nat) : lid (lid b j) k = lid b (j + k) := by simp [lid]; omega
theorem St_one {S : Store} (hwf : S.Wf) {o : Nat} {c d : Nat × List V} (ho : o < S.nx) : St S [(o, some c)] [some d] = (S.upd o c).add d := by
  rw [← St_upd1 hwf ho, St_add]; rfl
theorem St_St {B : Store} {u : Upds} {l : List (Option (Nat × List V))} {o : Nat} {c d : Nat × List V} (ho : o < (St B u l).nx) : St (St B u l) [(o, some c)] [some d] = ((St B u l).upd o c).add d := by
  refine Store.ext' (funext fun o' => ?_) rfl
  rw [St_at, add_at, upd_at]
  by_cases h : o' < (St B u l).nx
  · rw [if_pos h]
    have hn : ¬ o' = ((St B u l).upd o c).nx := by show ¬ o' = (St B u l).nx; omega
    rw [if_neg hn]
    simp only [uGet]
  · rw [if_neg h]
    by_cases e : o' = (St B u l).nx
    · subst e
      have : (St B u l).nx = ((St B u l).upd o c).nx := rfl
      rw [if_pos this]; simp
    · have hn : ¬ o' = ((St B u l).upd o c).nx := e
      rw [if_neg hn, if_neg (by omega), St_at]
      have hnx : (St B u l).nx = B.nx + l.length := by rw [St_nx]; rfl
      rw [if_neg (by omega), List.getElem?_eq_none (l := l) (by omega), List.getElem?_eq_none (by rw [List.length_singleton]; omega)]
theorem Reach.frzCellS {α : Type} {enc : α → V} {s : Nat} (hs : ∀ a, (enc a).cells.length = s) (hcl : ∀ a, (enc a).closed = true) {N b0 : Nat} {σ : Fr} {B : Store} {u : Upds} {l : List (Option (Nat × List V))} {k j i s' : Nat} {cs : List V} (ls : List α) (hkj : k ≠ j) (hk : k < l.length) (hj : j < l.length) (hck : (l[k]?).join = some (s', cs)) (hi : cs[i]? = some (.slice (lid B.nx j) 0 ls.length))
    (hcj : (l[j]?).join = some (s, flatC enc ls)) : Reach N b0 σ (St B u l) σ (St B u ((l.set j none).set k (some (s', cs.set i (vl enc ls))))) := by
  have hg : Ghost (.slice (lid B.nx j) 0 ls.length) (St B u l) (vl enc ls) (St B u (l.set j none)) := frzSt hs hcl ls hj hcj
  have := Reach.cell (N := N) (b0 := b0) (σ := σ) (o := lid B.nx k) (i := i) (s := s') (cs := cs) hg (by simp [V.one]) (by rw [St_get]; exact hck) hi (by rw [St_get, List.getElem?_set_ne (Ne.symm hkj)]; exact hck)
  rw [St_upd (by simpa using hk)] at this
  exact this
theorem checkCode_one {e : Ss.Env} {f : Ss.Fn} {ds : List Ss.Def} {near : List Int} {i : Int} {k : Nat} {l : List Ss.Ins} (h : k < l.length) : Ss.checkCode e f ds near i k (l.drop k) = (Ss.insOk e f ds near i k l[k] && Ss.checkCode e f ds near i (k + 1) (l.drop (k + 1))) := by
  rw [List.drop_eq_getElem_cons h, Ss.checkCode]
theorem checkBlocks_one {e : Ss.Env} {f : Ss.Fn} {ds : List Ss.Def} {near : List Int} {i : Nat} {l : List Ss.Block} (h : i < l.length) : Ss.checkBlocks e f ds near i (l.drop i) = (Ss.checkCode e f ds near i 0 l[i].code && Ss.termOk f ds near i l[i] && Ss.checkBlocks e f ds near (i + 1) (l.drop (i + 1))) := by
  rw [List.drop_eq_getElem_cons h, Ss.checkBlocks]
end Go.Vw
