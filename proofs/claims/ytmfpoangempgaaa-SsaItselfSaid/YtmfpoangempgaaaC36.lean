import Derived.Test.YtmfpoangempgaaaC35
/-
  Part of the proof (texts SMoreQ).
-/
set_option linter.unusedVariables false
set_option linter.unusedSimpArgs false
namespace Ss
theorem set_same {α : Type} {l : List α} {j : Nat} {a : α} (h : l[j]? = some a) : l.set j a = l := by
  refine List.ext_getElem? fun i => ?_
  by_cases e : j = i
  · subst e
    rw [List.getElem?_set_self (List.getElem?_eq_some_iff.1 h).1, h]
  · rw [List.getElem?_set_ne e]
theorem map_same {α β : Type} {f : α → β} {l : List α} {j : Nat} {a b : α} (h : l[j]? = some a) (e : f b = f a) : (l.set j b).map f = l.map f := by
  rw [List.map_set, e, set_same (by rw [List.getElem?_map, h]; rfl)]
/-- What is put behind. -/
def NewX (ts ps : List Int) (x : Ins) : Prop := x = ⟨256, 9, [], [(ts.length : Int)]⟩ ∨ ∃ p ∈ ps, 0 ≤ p ∧ p < ts.length ∧ ts.getD p.toNat 0 = 126 ∧ x = ⟨124, 0, [p, p], [(ts.length : Int)]⟩
theorem moreX_new (ts : List Int) (b : Block) : NewX ts b.params (moreX ts b) := by
  have gen : ∀ (l : List Int) (x : Ins), (∀ p ∈ l, p ∈ b.params) → NewX ts b.params x → NewX ts b.params (l.foldl (fun (x : Ins) (p : Int) => if 0 ≤ p ∧ p < (ts.length : Int) ∧ ts.getD p.toNat 0 = 126 then ⟨124, 0, [p, p], [(ts.length : Int)]⟩ else x) x) := by
    intro l
    induction l with
    | nil => exact fun x _ h => h
    | cons p l ih =>
      intro x hl hx
      rw [List.foldl_cons]
      refine ih _ (fun q hq => hl q (by simp [hq])) ?_
      split
      · rename_i h
        exact .inr ⟨p, hl p (by simp), h.1, h.2.1, h.2.2, rfl⟩
      · exact hx
  exact gen b.params _ (fun _ h => h) (.inl rfl)
theorem NewX.op {ts ps : List Int} {x : Ins} (h : NewX ts ps x) : x.op ≠ 258 ∧ x.outs = [(ts.length : Int)] ∧ x.args.length ≤ 2 := by
  rcases h with rfl | ⟨p, _, _, _, _, rfl⟩ <;> simp
theorem checkBlocks_mk {e : Env} {f : Fn} {ds : List Def} {near : List Int} : ∀ {l : List Block} {i : Nat}, (∀ (j : Nat) (b : Block), l[j]? = some b → checkCode e f ds near ((i + j : Nat) : Int) 0 b.code = true ∧ termOk f ds near ((i + j : Nat) : Int) b = true) → checkBlocks e f ds near i l = true
  | [], i, _ => rfl
  | b :: l, i, h => by
    simp only [checkBlocks, Bool.and_eq_true]
    refine ⟨h 0 b rfl, checkBlocks_mk fun j y hy => ?_⟩
    have := h (j + 1) y (by simpa using hy)
    rw [show i + 1 + j = i + (j + 1) by omega]; exact this
theorem termOk_ext {f g : Fn} {ds : List Def} {near : List Int} {i t : Int} {c : Def} {b b' : Block} (hl : ds.length = f.types.length) (ht : g.types = f.types ++ [t]) (hs : g.sig = f.sig) (hb : b'.term = b.term) (hc : b.code.length ≤ b'.code.length)
    (hpar : ∀ n, (g.blocks.getD n default).params = (f.blocks.getD n default).params) (hin : ∀ n, InTs f.types.length (f.blocks.getD n default).params) (h : termOk f ds near i b = true) : termOk g (ds ++ [c]) near i b' = true := by
  simp only [termOk] at h ⊢
  rw [hs, hb]
  split at h
  · rename_i le mo rs e
    simp only [termTail, Bool.and_eq_true, List.all_eq_true, decide_eq_true_eq] at h ⊢
    rw [ht]
    refine ⟨⟨⟨⟨?_, h.1.1.1.2⟩, h.1.1.2⟩, asks_ext hl (by omega) h.1.2⟩, fun x hx => ?_⟩
    · have h1 := h.1.1.1.1
      split at h1
      · rename_i hbr
        rw [if_pos hbr]; exact asks_ext hl (by omega) h1
      · rename_i hbr
        rw [if_neg hbr]; exact h1
    · have h1 := h.2 x hx
      simp only [edgeOk, Bool.and_eq_true] at h1 ⊢
      rw [hpar, ht, typesOf_ext (hin _)]
      exact ⟨h1.1, asks_ext hl (by omega) h1.2⟩
  · cases h
/-- The new instruction may be. -/
theorem newOk {e : Env} {f g : Fn} {ds : List Def} {near : List Int} {j k : Nat} {b : Block} {x : Ins} (hl : ds.length = f.types.length) (ht : g.types = f.types ++ [126]) (hp : ∀ v ∈ b.params, dAt ds v = ⟨true, (j : Int), -1⟩) (hx : NewX f.types b.params x) : insOk e g (ds ++ [⟨true, (j : Int), (k : Int)⟩]) near j k x = true := by
  have hlast : (f.types ++ [126]).getD ((f.types.length : Nat) : Int).toNat 0 = 126 := by simp
  rcases hx with rfl | ⟨p, hpm, h0, h1, h2, rfl⟩
  · simp only [insOk, ht, insOut, typesOf, List.map_cons, List.map_nil, hlast]
    simp [form, asks, Go.Vw.eqF]
  · have hn : numSig 124 = ([126, 126], 126, true) := by decide
    have hf : form e 124 0 126 = ⟨[126, 126], [126], 0, true⟩ := by simp [form, formNum, hn]
    have ha : askOk (f.types ++ [126]) (ds ++ [⟨true, (j : Int), (k : Int)⟩]) near j k p 126 = true := by
      have e1 : (ds ++ [(⟨true, (j : Int), (k : Int)⟩ : Def)]).getD p.toNat default = ⟨true, (j : Int), -1⟩ := by
        rw [(getD_app (by omega)).resolve_right (by omega)]; exact hp p hpm
      simp only [askOk, e1, tsAt h0 h1, h2]
      simp [h0]; omega
    simp only [insOk, ht, insOut, typesOf, List.map_cons, List.map_nil, hlast, hf]
    simp [asks, Go.Vw.eqF, ha]
theorem more_blocks {f : Fn} {j : Nat} {b : Block} (hb : f.blocks[j]? = some b) : (more f j).blocks = f.blocks.set j (addB b (moreX f.types b)) := by simp [more, hb]
theorem count_set {l : List Block} {j : Nat} {b c : Block} (hb : l[j]? = some b) : count (l.set j c) + b.code.length = count l + c.code.length := by
  have hi := (List.getElem?_eq_some_iff.1 hb).1
  conv => rhs; rw [split_at hb]
  rw [List.set_eq_take_append_cons_drop, if_pos hi]
  simp only [count, List.map_append, List.map_cons, List.sum_append, List.sum_cons]
  omega
/-- A pure instruction more. -/
theorem more_plain {e : Env} {f : Fn} {j : Nat} (h : check e f = true) (hj : j < f.blocks.length) (ht : f.types.length < 2048) (hc : count f.blocks < 4096) : check e (more f j) = true := by
  have hb : f.blocks[j]? = some f.blocks[j] := List.getElem?_eq_getElem hj
  generalize f.blocks[j] = b at hb
  obtain ⟨hh, ds, hd, hs, hbs⟩ := check_spec h
  have hnew := moreX_new f.types b
  generalize hX : moreX f.types b = x at hnew
  obtain ⟨x1, x2, x3⟩ := hnew.op
  have hgb := more_blocks hb
  rw [hX] at hgb
  have hgt : (more f j).types = f.types ++ [126] := rfl
  have hgs : (more f j).sig = f.sig := rfl
  generalize more f j = g at *
  obtain ⟨hdl, hdin⟩ := defs_in hd
  have hdg : defsOf g = some (ds ++ [⟨true, (j : Int), (b.code.length : Int)⟩]) := by
    have := putBlocks_more (c := ⟨false, 0, 0⟩) (x := x) rfl hd hb (by rw [x2]; simp)
    rw [Nat.zero_add] at this
    rw [defsOf, hgb, hgt, List.length_append, List.length_singleton, List.replicate_succ']
    exact this
  have hpar : ∀ n, (g.blocks.getD n default).params = (f.blocks.getD n default).params := by
    intro n
    rw [hgb]
    simp only [List.getD_eq_getElem?_getD]
    by_cases e1 : j = n
    · subst e1; rw [List.getElem?_set_self hj, hb]; rfl
    · rw [List.getElem?_set_ne e1]
  have hin : ∀ n, InTs f.types.length (f.blocks.getD n default).params := by
    intro n
    simp only [List.getD_eq_getElem?_getD]
    cases hn : f.blocks[n]? with
    | none => intro v hv; cases hv
    | some y => exact (hdin y (List.mem_of_getElem? hn)).1
  have hsu : succs g.blocks = succs f.blocks := by rw [hgb]; exact map_same hb rfl
  have htk : g.blocks.map tickB = f.blocks.map tickB := by
    rw [hgb]
    refine map_same hb ?_
    simp [tickB, addB, x1]
  have hbl : g.blocks.length = f.blocks.length := by rw [hgb, List.length_set]
  have hget : ∀ q y, g.blocks[q]? = some y → (q ≠ j ∧ f.blocks[q]? = some y) ∨ (q = j ∧ y = addB b x) := by
    intro q y hq
    rw [hgb] at hq
    by_cases e1 : j = q
    · subst e1
      rw [List.getElem?_set_self hj] at hq
      cases hq
      exact .inr ⟨rfl, rfl⟩
    · rw [List.getElem?_set_ne e1] at hq
      exact .inl ⟨Ne.symm e1, hq⟩
  -- the head
  have hhead : checkHead e g = true := by
    simp only [checkHead, Bool.and_eq_true, decide_eq_true_eq, List.all_eq_true] at hh ⊢
    obtain ⟨⟨⟨⟨⟨g1, g2⟩, g3⟩, g4⟩, g5⟩, g6⟩ := hh
    obtain ⟨s1, s2, s3⟩ := (small_iff f).1 g2
    simp only [Fn.heads, Bool.and_eq_true, decide_eq_true_eq] at s1
    refine ⟨⟨⟨⟨⟨g1, (small_iff g).2 ⟨?_, fun y hy => ?_, ?_⟩⟩, by omega⟩, ?_⟩, by rw [hgs]; exact g5⟩, fun y hy => ?_⟩
    · simp only [Fn.heads, Bool.and_eq_true, decide_eq_true_eq, hgs, hgt, List.length_append, List.length_singleton]
      omega
    · rw [hgb] at hy
      rcases List.mem_or_eq_of_mem_set hy with hy | rfl
      · exact s2 y hy
      · have := s2 b (List.mem_of_getElem? hb)
        have e1 : (addB b x).small = (decide (b.params.length ≤ 4096) && decide (b.term.to.length ≤ 4096) && decide (b.term.args.length ≤ 4096) && (b.code ++ [x]).all Ins.small && b.term.to.all Edge.small) := rfl
        rw [e1]
        simp only [Block.small, Bool.and_eq_true, decide_eq_true_eq, List.all_eq_true, List.mem_append, List.mem_singleton] at this ⊢
        refine ⟨⟨this.1.1, fun y hy => ?_⟩, this.2⟩
        rcases hy with hy | rfl
        · exact this.1.2 y hy
        · simp only [Ins.small, x2, Bool.and_eq_true, decide_eq_true_eq, List.length_singleton]; omega
    · have := count_set (c := addB b x) hb
      rw [hgb]
      simp only [addB, List.length_append, List.length_singleton] at this
      simp only [addB]
      omega
    · simp only [kinds, Bool.and_eq_true, decide_eq_true_eq, List.all_eq_true, hgt, List.length_append, List.length_singleton, List.mem_append, List.mem_singleton] at g4 ⊢
      refine ⟨by omega, fun v hv => ?_⟩
      rcases hv with hv | rfl
      · exact g4.2 v hv
      · rfl
    · rw [hgb] at hy
      rcases List.mem_or_eq_of_mem_set hy with hy | rfl
      · exact g6 y hy
      · exact g6 b (List.mem_of_getElem? hb)
  -- the shape
  have hshape : shapeOk g = true := by
    simp only [shapeOk, Bool.and_eq_true] at hs ⊢
    rw [hsu, hbl, hgs, hpar, hgt, typesOf_ext (hin _)]
    have hr : rings g.blocks (Go.Vw.G.nats (succs f.blocks)) = rings f.blocks (Go.Vw.G.nats (succs f.blocks)) := by simp only [rings, htk]
    rw [hr]
    refine ⟨hs.1, ?_⟩
    have h5 := hs.2
    rw [hgb]
    simp only [List.getD_eq_getElem?_getD] at h5 ⊢
    by_cases e1 : j = 0
    · subst e1
      rw [hb] at h5
      rw [List.getElem?_set_self hj]
      simp only [Option.getD_some, addB] at h5 ⊢
      cases hcd : b.code with
      | nil => rw [hcd] at h5; simp at h5
      | cons y r => rw [hcd] at h5; exact h5
    · rw [List.getElem?_set_ne e1]; exact h5
  -- all blocks
  have hblocks : checkBlocks e g (ds ++ [⟨true, (j : Int), (b.code.length : Int)⟩]) (Go.Vw.G.nearI (succs g.blocks)) 0 g.blocks = true := by
    rw [hsu]
    refine checkBlocks_mk fun q y hq => ?_
    rw [Nat.zero_add]
    rcases hget q y hq with ⟨_, hfq⟩ | ⟨rfl, rfl⟩
    · obtain ⟨k1, k2⟩ := checkBlocks_at hbs hfq
      rw [Nat.zero_add] at k1 k2
      exact ⟨checkCode_ext hdl hgt (hdin y (List.mem_of_getElem? hfq)).2 k1, termOk_ext hdl hgt hgs rfl (Nat.le_refl _) hpar hin k2⟩
    · obtain ⟨k1, k2⟩ := checkBlocks_at hbs hb
      rw [Nat.zero_add] at k1 k2
      refine ⟨?_, termOk_ext (b := b) (b' := addB b x) hdl hgt hgs rfl (by simp [addB]) hpar hin k2⟩
      show checkCode e g _ _ _ 0 (b.code ++ [x]) = true
      rw [checkCode_snoc, Nat.zero_add, checkCode_ext hdl hgt (hdin b (List.mem_of_getElem? hb)).2 k1, Bool.true_and]
      refine newOk hdl hgt (fun v hv => ?_) hnew
      have := putBlocks_params hd q b hb v hv
      rw [Nat.zero_add] at this; exact this
  simp only [check, hhead, hdg, hshape, hblocks, Bool.and_self]
theorem more_fits {f : Fn} (hf : f.Fits) {j : Nat} (hj : j < f.blocks.length) (ht : f.types.length < 2048) (hc : f.blocks[j].code.length ≤ 4096) : (more f j).Fits := by
  have hb : f.blocks[j]? = some f.blocks[j] := List.getElem?_eq_getElem hj
  have hF := hf.2.2.2 _ (List.getElem_mem hj)
  generalize f.blocks[j] = b at hb hF hc
  have hnew := moreX_new f.types b
  have hgb := more_blocks hb
  have i126 : I64 126 := by simp [I64]
  refine ⟨hf.1, ⟨by show (f.types ++ [126]).length ≤ _; simp; omega, fun n hn => ?_⟩, by rw [hgb, List.length_set]; exact hf.2.2.1, fun y hy => ?_⟩
  · have hn' : n ∈ f.types ++ [126] := hn
    rcases List.mem_append.1 hn' with h | h
    · exact hf.2.1.2 n h
    · obtain rfl : n = 126 := by simpa using h
      exact i126
  · rw [hgb] at hy
    rcases List.mem_or_eq_of_mem_set hy with hy | rfl
    · exact hf.2.2.2 y hy
    · refine ⟨hF.1, ⟨by simp only [addB, List.length_append, List.length_singleton]; omega, fun z hz => ?_⟩, hF.2.2⟩
      simp only [addB, List.mem_append, List.mem_singleton] at hz
      rcases hz with hz | rfl
      · exact hF.2.1.2 z hz
      · have hv : Ints [(f.types.length : Int)] := ⟨by simp, fun n hn => by
          obtain rfl : n = (f.types.length : Int) := by simpa using hn
          simp only [I64]; omega⟩
        rcases hnew with e1 | ⟨p, hp, h0, h1, _, e1⟩
        · rw [e1]; exact ⟨by simp [I64], by simp, ⟨by simp, by simp⟩, hv⟩
        · rw [e1]
          refine ⟨by simp [I64], by simp, ⟨by simp, fun n hn => ?_⟩, hv⟩
          obtain rfl : n = p := by simpa using hn
          simp only [I64]; omega
end Ss
