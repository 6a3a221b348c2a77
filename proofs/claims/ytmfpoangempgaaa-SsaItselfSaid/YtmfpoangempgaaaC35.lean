import Derived.Test.YtmfpoangempgaaaC28
import Derived.Test.YtmfpoangempgaaaC33
import Derived.Test.YtmfpoangempgaaaC34
/-
  Part of the proof (texts SLessP, SMoreP).
-/
set_option linter.unusedVariables false
set_option linter.unusedSimpArgs false
namespace Ss
/-! ### Where values are made -/
def outsC (l : List Ins) : List Int := l.flatMap fun x => x.outs
def allB (b : Block) : List Int := b.params ++ outsC b.code
def allL (bs : List Block) : List Int := bs.flatMap allB
abbrev dAt (ds : List Def) (v : Int) : Def := ds.getD v.toNat default

theorem dAt_set {ds : List Def} {v w : Int} {d : Def} (h0 : 0 ≤ v) (h1 : v < ds.length) (hw : 0 ≤ w) : dAt (ds.set v.toNat d) w = if w = v then d else dAt ds w := by
  by_cases h : w = v
  · subst h
    rw [if_pos rfl]
    simp only [dAt, List.getD_eq_getElem?_getD]
    rw [List.getElem?_set_self (by omega)]; rfl
  · rw [if_neg h]
    simp only [dAt, List.getD_eq_getElem?_getD]
    rw [List.getElem?_set_ne (by omega)]
/-- What a list puts: new values, each once; they are made there, the others as before. -/
structure Puts (l : List Int) (ds d : List Def) : Prop where
  nd : l.Nodup
  pos : ∀ v ∈ l, 0 ≤ v
  new : ∀ v ∈ l, (dAt ds v).made = false
  keep : ∀ w, 0 ≤ w → w ∉ l → dAt d w = dAt ds w
  made : ∀ v ∈ l, (dAt d v).made = true
theorem Puts.trans {l m : List Int} {ds d d' : List Def} (h : Puts l ds d) (k : Puts m d d') : Puts (l ++ m) ds d' := by
  have hdis : ∀ v ∈ l, v ∉ m := fun v hv hm => by
    have h1 := k.new v hm
    rw [h.made v hv] at h1; cases h1
  refine ⟨List.nodup_append.2 ⟨h.nd, k.nd, fun a ha b hb e => hdis a ha (e ▸ hb)⟩, fun v hv => ?_, fun v hv => ?_, fun w h0 hw => ?_, fun v hv => ?_⟩
  · rcases List.mem_append.1 hv with hv | hv
    · exact h.pos v hv
    · exact k.pos v hv
  · rcases List.mem_append.1 hv with hv | hv
    · exact h.new v hv
    · by_cases hl : v ∈ l
      · exact absurd hv (hdis v hl)
      · rw [← h.keep v (k.pos v hv) hl]; exact k.new v hv
  · simp only [List.mem_append, not_or] at hw
    rw [k.keep w h0 hw.2, h.keep w h0 hw.1]
  · rcases List.mem_append.1 hv with hv | hv
    · rw [k.keep v (h.pos v hv) (hdis v hv)]; exact h.made v hv
    · exact k.made v hv
theorem Puts.nil (ds : List Def) : Puts [] ds ds := ⟨List.nodup_nil, by simp, by simp, fun _ _ _ => rfl, by simp⟩
theorem put_puts {block pos : Int} : ∀ {l : List Int} {ds d : List Def}, put block pos ds l = some d → Puts l ds d ∧ ∀ v ∈ l, dAt d v = ⟨true, block, pos⟩
  | [], ds, d, h => by simp only [put, Option.some.injEq] at h; subst h; exact ⟨.nil _, by simp⟩
  | v :: l, ds, d, h => by
    simp only [put] at h
    split at h
    · cases h
    · rename_i hn
      have h0 : 0 ≤ v := by omega
      have h1 : v < ds.length := by omega
      have h2 : (dAt ds v).made = false := by
        cases hm : (dAt ds v).made with
        | false => rfl
        | true => exact absurd (.inr (.inr hm)) hn
      obtain ⟨k1, k2⟩ := put_puts h
      have hp : Puts [v] ds (ds.set v.toNat ⟨true, block, pos⟩) :=
        ⟨by simp, by simpa using h0, by simpa using h2, fun w hw hnw => by rw [dAt_set h0 h1 hw, if_neg (by simpa using hnw)], fun w hw => by
          obtain rfl : w = v := by simpa using hw
          rw [dAt_set h0 h1 h0, if_pos rfl]⟩
      refine ⟨hp.trans k1, fun w hw => ?_⟩
      by_cases hl : w ∈ l
      · exact k2 w hl
      · obtain rfl : w = v := by simpa [hl] using hw
        rw [k1.keep w h0 hl, dAt_set h0 h1 h0, if_pos rfl]
theorem putCode_puts {i : Int} : ∀ {l : List Ins} {k : Nat} {ds d : List Def}, putCode i k ds l = some d → Puts (outsC l) ds d ∧ ∀ (j : Nat) (x : Ins), l[j]? = some x → ∀ v ∈ x.outs, dAt d v = ⟨true, i, ((k + j : Nat) : Int)⟩
  | [], k, ds, d, h => by simp only [putCode, Option.some.injEq] at h; subst h; exact ⟨.nil _, by simp⟩
  | x :: l, k, ds, d, h => by
    simp only [putCode] at h
    obtain ⟨d1, h1, h2⟩ := Option.bind_eq_some_iff.1 h
    obtain ⟨p1, q1⟩ := put_puts h1
    obtain ⟨p2, q2⟩ := putCode_puts h2
    refine ⟨p1.trans p2, fun j y hj v hv => ?_⟩
    cases j with
    | zero =>
      simp only [List.getElem?_cons_zero, Option.some.injEq] at hj
      subst hj
      have hn : v ∉ outsC l := fun hm => by
        have := p2.new v hm
        rw [p1.made v hv] at this; cases this
      rw [p2.keep v (p1.pos v hv) hn, q1 v hv]; rfl
    | succ j =>
      have := q2 j y (by simpa using hj) v hv
      rw [this]; congr 2; omega
theorem putBlocks_puts : ∀ {l : List Block} {i : Nat} {ds d : List Def}, putBlocks i ds l = some d → Puts (allL l) ds d ∧ ∀ (j : Nat) (b : Block), l[j]? = some b → ∀ (k : Nat) (x : Ins), b.code[k]? = some x → ∀ v ∈ x.outs, dAt d v = ⟨true, ((i + j : Nat) : Int), (k : Int)⟩
  | [], i, ds, d, h => by simp only [putBlocks, Option.some.injEq] at h; subst h; exact ⟨.nil _, by simp⟩
  | b :: l, i, ds, d, h => by
    simp only [putBlocks] at h
    obtain ⟨d2, h1, h2⟩ := Option.bind_eq_some_iff.1 h
    obtain ⟨d1, h3, h4⟩ := Option.bind_eq_some_iff.1 h1
    obtain ⟨p1, _⟩ := put_puts h3
    obtain ⟨p2, q2⟩ := putCode_puts h4
    obtain ⟨p3, q3⟩ := putBlocks_puts h2
    refine ⟨(p1.trans p2).trans p3, fun j y hj k x hk v hv => ?_⟩
    cases j with
    | zero =>
      simp only [List.getElem?_cons_zero, Option.some.injEq] at hj
      subst hj
      have hm : v ∈ outsC b.code := List.mem_flatMap.2 ⟨x, List.mem_of_getElem? hk, hv⟩
      have hn : v ∉ allL l := fun hm' => by
        have := p3.new v hm'
        rw [p2.made v hm] at this; cases this
      rw [p3.keep v (p2.pos v hm) hn, q2 k x hk v hv]; simp
    | succ j =>
      have := q3 j y (by simpa using hj) k x hk v hv
      rw [this]; congr 2; omega
theorem dAt_rep (n : Nat) (v : Int) : (dAt (List.replicate n ⟨false, 0, 0⟩) v).made = false := by
  simp only [dAt, List.getD_eq_getElem?_getD, List.getElem?_replicate]
  split <;> rfl
/-- The values made are those that stand there, each once. -/
theorem defs_made {f : Fn} {ds : List Def} (h : defsOf f = some ds) : (allL f.blocks).Nodup ∧ (∀ v, 0 ≤ v → (dAt ds v).made = true → v ∈ allL f.blocks) ∧ ∀ (i : Nat) (b : Block), f.blocks[i]? = some b → ∀ (k : Nat) (x : Ins), b.code[k]? = some x → ∀ v ∈ x.outs, dAt ds v = ⟨true, (i : Int), (k : Int)⟩ := by
  obtain ⟨p, q⟩ := putBlocks_puts h
  refine ⟨p.nd, fun v h0 hm => ?_, fun i b hb k x hx v hv => by simpa using q i b hb k x hx v hv⟩
  refine Classical.byContradiction fun hn => ?_
  rw [p.keep v h0 hn, dAt_rep] at hm
  cases hm

/-! ### Who asks -/
theorem eqF_fst {α : Type} {p : α → α → Bool} : ∀ {l m : List α}, Go.Vw.eqF p l m = true → ∀ x ∈ l, ∃ y, p x y = true
  | [], _, _, x, hx => by cases hx
  | a :: l, [], h, x, hx => by simp [Go.Vw.eqF] at h
  | a :: l, b :: m, h, x, hx => by
    simp only [Go.Vw.eqF, Bool.and_eq_true] at h
    rcases List.mem_cons.1 hx with rfl | hx
    · exact ⟨b, h.1⟩
    · exact eqF_fst h.2 x hx
theorem asks_fst {ts : List Int} {ds : List Def} {near : List Int} {block pos : Int} {l types : List Int} (h : asks ts ds near block pos l types = true) {v : Int} (hv : v ∈ l) : 0 ≤ v ∧ (dAt ds v).made = true ∧ ((dAt ds v).block = block → (dAt ds v).pos < pos) := by
  obtain ⟨t, ht⟩ := eqF_fst h v hv
  simp only [askOk, Bool.and_eq_true, decide_eq_true_eq] at ht
  refine ⟨ht.1.1.1.1, ht.1.2, fun hb => ?_⟩
  have := ht.2
  rw [if_pos hb] at this
  simpa using this
theorem checkCode_at {e : Env} {f : Fn} {ds : List Def} {near : List Int} {i : Int} : ∀ {l : List Ins} {k j : Nat} {x : Ins}, checkCode e f ds near i k l = true → l[j]? = some x → insOk e f ds near i ((k + j : Nat) : Int) x = true
  | [], k, j, x, _, hx => by simp at hx
  | y :: l, k, j, x, h, hx => by
    simp only [checkCode, Bool.and_eq_true] at h
    cases j with
    | zero => simp only [List.getElem?_cons_zero, Option.some.injEq] at hx; subst hx; exact h.1
    | succ j =>
      have := checkCode_at h.2 (j := j) (x := x) (by simpa using hx)
      rw [show k + (j + 1) = k + 1 + j by omega]; exact this
theorem checkBlocks_at {e : Env} {f : Fn} {ds : List Def} {near : List Int} : ∀ {l : List Block} {i j : Nat} {b : Block}, checkBlocks e f ds near i l = true → l[j]? = some b → checkCode e f ds near ((i + j : Nat) : Int) 0 b.code = true ∧ termOk f ds near ((i + j : Nat) : Int) b = true
  | [], i, j, b, _, hb => by simp at hb
  | y :: l, i, j, b, h, hb => by
    simp only [checkBlocks, Bool.and_eq_true] at h
    cases j with
    | zero => simp only [List.getElem?_cons_zero, Option.some.injEq] at hb; subst hb; exact h.1
    | succ j =>
      have := checkBlocks_at h.2 (j := j) (b := b) (by simpa using hb)
      rw [show i + (j + 1) = i + 1 + j by omega]; exact this
theorem insOk_asks {e : Env} {f : Fn} {ds : List Def} {near : List Int} {i k : Int} {x : Ins} (h : insOk e f ds near i k x = true) : asks f.types ds near i k x.args (form e x.op x.n (insOut f.types x)).inn = true := by
  simp only [insOk, Bool.and_eq_true] at h
  exact h.2
theorem termOk_asks {f : Fn} {ds : List Def} {near : List Int} {i : Int} {b : Block} (h : termOk f ds near i b = true) {v : Int} (hv : v ∈ asksT b.term) : 0 ≤ v ∧ (dAt ds v).made = true := by
  simp only [termOk] at h
  split at h
  · rename_i le mo rs _
    simp only [termTail, Bool.and_eq_true, List.all_eq_true] at h
    simp only [asksT, List.mem_append] at hv
    rcases hv with (hv | hv) | hv
    · split at hv
      · rename_i hk
        have hb : branches b.term = true := by
          simp only [branches, Bool.or_eq_true, decide_eq_true_eq]; exact hk
        have := h.1.1.1.1
        rw [if_pos hb] at this
        obtain ⟨h1, h2, _⟩ := asks_fst this hv
        exact ⟨h1, h2⟩
      · cases hv
    · obtain ⟨x, hx, hv⟩ := List.mem_flatMap.1 hv
      have := h.2 x hx
      simp only [edgeOk, Bool.and_eq_true] at this
      obtain ⟨h1, h2, _⟩ := asks_fst this.2 hv
      exact ⟨h1, h2⟩
    · obtain ⟨h1, h2, _⟩ := asks_fst h.1.2 hv
      exact ⟨h1, h2⟩
  · cases h
theorem check_spec {e : Env} {f : Fn} (h : check e f = true) : checkHead e f = true ∧ ∃ ds, defsOf f = some ds ∧ shapeOk f = true ∧ checkBlocks e f ds (Go.Vw.G.nearI (succs f.blocks)) 0 f.blocks = true := by
  simp only [check, Bool.and_eq_true] at h
  refine ⟨h.1, ?_⟩
  cases hd : defsOf f with
  | none => rw [hd] at h; simp at h
  | some ds =>
    rw [hd] at h
    simp only [Bool.and_eq_true] at h
    exact ⟨ds, rfl, h.2.1, h.2.2⟩
/-- Marks. -/
theorem mark_get : ∀ (l : List Int) (o : List Bool) (n : Nat), (mark o l).getD n false = true → o.getD n false = true ∨ (n : Int) ∈ l
  | [], o, n, h => .inl h
  | v :: l, o, n, h => by
    have h' : (mark (mark1 o v) l).getD n false = true := h
    rcases mark_get l _ n h' with h1 | h1
    · unfold mark1 at h1
      split at h1
      · rename_i hv
        by_cases e : v.toNat = n
        · right; rw [show (n : Int) = v by omega]; simp
        · left
          rw [List.getD_eq_getElem?_getD, List.getElem?_set_ne e] at h1
          exact h1
      · exact .inl h1
    · exact .inr (by simp [h1])
theorem rused_get {bs : List Block} : ∀ (o : List Bool) (n : Nat), (bs.foldl (fun o b => mark o (asksB b)) o).getD n false = true → o.getD n false = true ∨ ∃ b ∈ bs, (n : Int) ∈ asksB b := by
  induction bs with
  | nil => exact fun o n h => .inl h
  | cons b bs ih =>
    intro o n h
    rw [List.foldl_cons] at h
    rcases ih _ n h with h1 | ⟨b', hb, h1⟩
    · rcases mark_get _ _ n h1 with h2 | h2
      · exact .inl h2
      · exact .inr ⟨b, by simp, h2⟩
    · exact .inr ⟨b', by simp [hb], h1⟩
theorem asked_by {f : Fn} {l : List Int} (h : askedO (rusedOf f) l = true) : ∃ v ∈ l, ∃ b ∈ f.blocks, v ∈ asksB b := by
  simp only [askedO, List.any_eq_true, Bool.and_eq_true, decide_eq_true_eq] at h
  obtain ⟨v, hv, h0, h1, h2⟩ := h
  rcases rused_get _ _ h2 with h3 | ⟨b, hb, h3⟩
  · simp only [List.getD_eq_getElem?_getD, List.getElem?_replicate] at h3
    split at h3 <;> cases h3
  · rw [Int.toNat_of_nonneg h0] at h3
    exact ⟨v, hv, b, hb, h3⟩
theorem split_at {α : Type} {l : List α} {i : Nat} {a : α} (h : l[i]? = some a) : l = l.take i ++ a :: l.drop (i + 1) := by
  obtain ⟨hi, rfl⟩ := List.getElem?_eq_some_iff.1 h
  rw [List.getElem_cons_drop, List.take_append_drop]
theorem cut_blocks {f : Fn} {i k : Nat} {b : Block} (hb : f.blocks[i]? = some b) : (cut f i k).blocks = f.blocks.set i (cutB b k) := by
  simp [cut, hb]
theorem cut_count {f : Fn} {i k : Nat} {b : Block} {x : Ins} (hb : f.blocks[i]? = some b) (hx : b.code[k]? = some x) (v : Int) : (allL f.blocks).count v = (allL (cut f i k).blocks).count v + x.outs.count v := by
  rw [cut_blocks hb]
  have hi := (List.getElem?_eq_some_iff.1 hb).1
  conv => lhs; rw [split_at hb]
  rw [List.set_eq_take_append_cons_drop, if_pos hi]
  have hc : allB b = b.params ++ (outsC (b.code.take k) ++ (x.outs ++ outsC (b.code.drop (k + 1)))) := by
    conv => lhs; rw [allB, split_at hx]
    simp [outsC]
  have hc2 : allB (cutB b k) = b.params ++ (outsC (b.code.take k) ++ outsC (b.code.drop (k + 1))) := by
    simp [allB, cutB, outsC]
  simp only [allL, List.flatMap_append, List.flatMap_cons, hc, hc2, List.count_append]
  omega
/-- Without an instruction that somebody asks for, a function may not be. -/
theorem less_plain {e : Env} {f : Fn} {i k : Nat} {b : Block} {x : Ins} (h : check e f = true) (hb : f.blocks[i]? = some b) (hx : b.code[k]? = some x) (ha : askedO (rusedOf f) x.outs = true) : check e (cut f i k) = false := by
  cases hc : check e (cut f i k) with
  | false => rfl
  | true =>
  exfalso
  obtain ⟨_, ds, hd, _, hbs⟩ := check_spec h
  obtain ⟨_, dg, hdg, _, hgs⟩ := check_spec hc
  obtain ⟨hnd, _, hat⟩ := defs_made hd
  obtain ⟨_, hmg, _⟩ := defs_made hdg
  obtain ⟨v, hv, b', hb', hv'⟩ := asked_by ha
  have key : ¬ (0 ≤ v ∧ (dAt dg v).made = true) := by
    rintro ⟨h0, hm⟩
    have h1 := hmg v h0 hm
    have h2 := cut_count hb hx v
    have h3 := List.nodup_iff_count.1 hnd v
    have h4 := List.count_pos_iff.2 h1
    have h5 := List.count_pos_iff.2 hv
    omega
  obtain ⟨i', hi', hbi⟩ := List.getElem_of_mem hb'
  have hbi' : f.blocks[i']? = some b' := by rw [List.getElem?_eq_getElem hi', hbi]
  -- what a block of the cut function is
  have hgb : ∃ b'', (cut f i k).blocks[i']? = some b'' ∧ b''.term = b'.term ∧ ((i' ≠ i ∧ b'' = b') ∨ (i' = i ∧ b' = b ∧ b'' = cutB b k)) := by
    rw [cut_blocks hb]
    by_cases e1 : i' = i
    · subst e1
      rw [hb] at hbi'
      cases hbi'
      exact ⟨cutB b k, by rw [List.getElem?_set_self hi'], rfl, .inr ⟨rfl, rfl, rfl⟩⟩
    · exact ⟨b', by rw [List.getElem?_set_ne (Ne.symm e1)]; exact hbi', rfl, .inl ⟨e1, rfl⟩⟩
  obtain ⟨b'', hb2, ht, hor⟩ := hgb
  obtain ⟨g1, g2⟩ := checkBlocks_at hgs hb2
  simp only [asksB, List.mem_append] at hv'
  rcases hv' with hv' | hv'
  · exact key (termOk_asks g2 (by rw [ht]; exact hv'))
  · obtain ⟨y, hy, hvy⟩ := List.mem_flatMap.1 hv'
    have inG : y ∈ b''.code → False := fun hm => by
      obtain ⟨j, hj, hyj⟩ := List.getElem_of_mem hm
      have := checkCode_at g1 (j := j) (x := y) (by rw [List.getElem?_eq_getElem hj, hyj])
      obtain ⟨a1, a2, _⟩ := asks_fst (insOk_asks this) hvy
      exact key ⟨a1, a2⟩
    rcases hor with ⟨_, rfl⟩ | ⟨rfl, rfl, rfl⟩
    · exact inG hy
    · obtain ⟨k', hk', hyk⟩ := List.getElem_of_mem hy
      have hyk' : b'.code[k']? = some y := by rw [List.getElem?_eq_getElem hk', hyk]
      by_cases e1 : k' = k
      · subst e1
        rw [hx] at hyk'
        cases hyk'
        obtain ⟨f1, _⟩ := checkBlocks_at hbs hb
        have := checkCode_at f1 hx
        obtain ⟨_, _, a3⟩ := asks_fst (insOk_asks this) hvy
        have h6 := hat i' b' hb k' x hx v hv
        rw [h6] at a3
        have := a3 (by simp)
        simp at this
      · refine inG ?_
        simp only [cutB, List.mem_append]
        rcases Nat.lt_or_ge k' k with hlt | hge
        · left
          refine List.mem_of_getElem? (i := k') ?_
          rw [List.getElem?_take, if_pos hlt]; exact hyk'
        · right
          refine List.mem_of_getElem? (i := k' - (k + 1)) ?_
          rw [List.getElem?_drop, show k + 1 + (k' - (k + 1)) = k' by omega]; exact hyk'
theorem cut_fits {f : Fn} (hf : f.Fits) (i k : Nat) : (cut f i k).Fits := by
  by_cases hi : i < f.blocks.length
  · have hb : f.blocks[i]? = some f.blocks[i] := List.getElem?_eq_getElem hi
    have hF := hf.2.2.2 _ (List.getElem_mem hi)
    refine ⟨hf.1, hf.2.1, by rw [cut_blocks hb]; simpa using hf.2.2.1, fun b hbm => ?_⟩
    rw [cut_blocks hb] at hbm
    rcases List.mem_or_eq_of_mem_set hbm with h | rfl
    · exact hf.2.2.2 b h
    · refine ⟨hF.1, ⟨?_, fun x hx => hF.2.1.2 x ?_⟩, hF.2.2⟩
      · have := hF.2.1.1
        simp only [cutB, List.length_append, List.length_take, List.length_drop]; omega
      · simp only [cutB, List.mem_append] at hx
        rcases hx with h | h
        · exact List.mem_of_mem_take h
        · exact List.mem_of_mem_drop h
  · have : (cut f i k) = f := by
      simp [cut, List.set_eq_of_length_le (Nat.le_of_not_lt hi)]
    rw [this]; exact hf
end Ss
namespace Go.Vw
open Go.Proofs Go.RowKit
theorem LessAll_v (e : Ss.Env) (f : Ss.Fn) (which : Int) (he : e.Fits) (hf : f.Fits) : VPure Try.prog 5 [encEnv e, encFn f, vint which] (.bool true) :=
  Less_v e f which he hf (fun h _ i k b x hb hx ha => Ss.less_plain h hb hx ha) (Ss.cut_fits hf)
end Go.Vw

namespace Ss
/-! ### An instruction more -/
/-- The instruction that is put behind a block. -/
def moreX (ts : List Int) (b : Block) : Ins := b.params.foldl (fun (x : Ins) (p : Int) => if 0 ≤ p ∧ p < (ts.length : Int) ∧ ts.getD p.toNat 0 = 126 then ⟨124, 0, [p, p], [(ts.length : Int)]⟩ else x) ⟨256, 9, [], [(ts.length : Int)]⟩
def addB (b : Block) (x : Ins) : Block := ⟨b.params, b.code ++ [x], b.term⟩
def more (f : Fn) (j : Nat) : Fn := ⟨f.sig, f.types ++ [126], f.blocks.set j (addB (f.blocks.getD j default) (moreX f.types (f.blocks.getD j default)))⟩

theorem getD_app {ds : List Def} {c : Def} {v : Int} (h1 : v < ds.length) : (ds ++ [c]).getD v.toNat default = ds.getD v.toNat default ∨ v < 0 := by
  by_cases h0 : v < 0
  · exact .inr h0
  · left
    simp only [List.getD_eq_getElem?_getD]
    rw [List.getElem?_append_left (by omega)]
theorem put_ext {block pos : Int} {c : Def} : ∀ {l : List Int} {ds d : List Def}, put block pos ds l = some d → put block pos (ds ++ [c]) l = some (d ++ [c])
  | [], ds, d, h => by simp only [put, Option.some.injEq] at h ⊢; rw [h]
  | v :: l, ds, d, h => by
    simp only [put] at h ⊢
    split at h
    · cases h
    · rename_i hn
      have h0 : ¬ v < 0 := fun h => hn (.inl h)
      have h1 : v < ds.length := by omega
      have e : (ds ++ [c]).getD v.toNat default = ds.getD v.toNat default := (getD_app h1).resolve_right h0
      rw [if_neg]
      · rw [List.set_append_left _ _ (by omega)]
        exact put_ext h
      · rw [e]
        rintro (h2 | h2 | h2)
        · exact h0 h2
        · simp at h2; omega
        · exact hn (.inr (.inr h2))
theorem putCode_ext {i : Int} {c : Def} : ∀ {l : List Ins} {k : Nat} {ds d : List Def}, putCode i k ds l = some d → putCode i k (ds ++ [c]) l = some (d ++ [c])
  | [], k, ds, d, h => by simp only [putCode, Option.some.injEq] at h ⊢; rw [h]
  | x :: l, k, ds, d, h => by
    simp only [putCode] at h ⊢
    obtain ⟨d1, h1, h2⟩ := Option.bind_eq_some_iff.1 h
    rw [put_ext h1, Option.bind_some]
    exact putCode_ext h2
theorem putBlocks_ext {c : Def} : ∀ {l : List Block} {i : Nat} {ds d : List Def}, putBlocks i ds l = some d → putBlocks i (ds ++ [c]) l = some (d ++ [c])
  | [], i, ds, d, h => by simp only [putBlocks, Option.some.injEq] at h ⊢; rw [h]
  | b :: l, i, ds, d, h => by
    simp only [putBlocks] at h ⊢
    obtain ⟨d2, h1, h2⟩ := Option.bind_eq_some_iff.1 h
    obtain ⟨d1, h3, h4⟩ := Option.bind_eq_some_iff.1 h1
    rw [put_ext h3, Option.bind_some, putCode_ext h4, Option.bind_some]
    exact putBlocks_ext h2
theorem putCode_len' {i : Int} : ∀ {l : List Ins} {k : Nat} {ds d : List Def}, putCode i k ds l = some d → d.length = ds.length := fun h => (putCode_in h).1
theorem putCode_snoc {i : Int} {x : Ins} : ∀ {l : List Ins} {k : Nat} {ds : List Def}, putCode i k ds (l ++ [x]) = (putCode i k ds l).bind fun d => put i ((k + l.length : Nat) : Int) d x.outs
  | [], k, ds => by simp [putCode]
  | y :: l, k, ds => by
    simp only [List.cons_append, putCode, Option.bind_assoc]
    congr 1
    funext d
    rw [putCode_snoc, List.length_cons, show k + 1 + l.length = k + (l.length + 1) by omega]
theorem put_last {block pos : Int} {ds : List Def} {n : Nat} {c : Def} (hn : ds.length = n) (hc : c.made = false) : put block pos (ds ++ [c]) [(n : Int)] = some (ds ++ [⟨true, block, pos⟩]) := by
  subst hn
  simp only [put]
  rw [if_neg]
  · rw [Int.toNat_natCast, List.set_append_right _ _ (Nat.le_refl _)]; simp
  · rintro (h | h | h)
    · omega
    · simp at h; omega
    · simp [hc] at h
theorem putBlocks_more {c : Def} {x : Ins} (hc : c.made = false) : ∀ {l : List Block} {i j : Nat} {ds d : List Def} {b : Block}, putBlocks i ds l = some d → l[j]? = some b → x.outs = [(ds.length : Int)] → putBlocks i (ds ++ [c]) (l.set j (addB b x)) = some (d ++ [⟨true, ((i + j : Nat) : Int), (b.code.length : Int)⟩])
  | [], i, j, ds, d, b, _, hb, _ => by simp at hb
  | y :: l, i, 0, ds, d, b, h, hb, hx => by
    simp only [List.getElem?_cons_zero, Option.some.injEq] at hb
    subst hb
    simp only [List.set_cons_zero, putBlocks] at h ⊢
    obtain ⟨d2, h1, h2⟩ := Option.bind_eq_some_iff.1 h
    obtain ⟨d1, h3, h4⟩ := Option.bind_eq_some_iff.1 h1
    show ((put i (-1) (ds ++ [c]) y.params).bind fun d => putCode i 0 d (y.code ++ [x])).bind _ = _
    rw [put_ext h3, Option.bind_some, putCode_snoc, putCode_ext h4, Option.bind_some, hx]
    have hl : d2.length = ds.length := by rw [putCode_len' h4, put_len h3]
    rw [put_last hl hc, Option.bind_some, putBlocks_ext h2]
    simp
  | y :: l, i, j + 1, ds, d, b, h, hb, hx => by
    simp only [List.set_cons_succ, putBlocks] at h ⊢
    obtain ⟨d2, h1, h2⟩ := Option.bind_eq_some_iff.1 h
    obtain ⟨d1, h3, h4⟩ := Option.bind_eq_some_iff.1 h1
    rw [put_ext h3, Option.bind_some, putCode_ext h4, Option.bind_some]
    have hl : d2.length = ds.length := by rw [putCode_len' h4, put_len h3]
    have := putBlocks_more hc h2 (j := j) (b := b) (by simpa using hb) (by rw [hl]; exact hx)
    rw [this, show i + 1 + j = i + (j + 1) by omega]
/-- Params are made at place -1. -/
theorem putBlocks_params : ∀ {l : List Block} {i : Nat} {ds d : List Def}, putBlocks i ds l = some d → ∀ (j : Nat) (b : Block), l[j]? = some b → ∀ v ∈ b.params, dAt d v = ⟨true, ((i + j : Nat) : Int), -1⟩
  | [], i, ds, d, h => by simp
  | b :: l, i, ds, d, h => by
    simp only [putBlocks] at h
    obtain ⟨d2, h1, h2⟩ := Option.bind_eq_some_iff.1 h
    obtain ⟨d1, h3, h4⟩ := Option.bind_eq_some_iff.1 h1
    obtain ⟨p1, q1⟩ := put_puts h3
    obtain ⟨p2, _⟩ := putCode_puts h4
    obtain ⟨p3, _⟩ := putBlocks_puts h2
    intro j y hj v hv
    cases j with
    | zero =>
      simp only [List.getElem?_cons_zero, Option.some.injEq] at hj
      subst hj
      have n2 : v ∉ outsC b.code := fun hm => by
        have := p2.new v hm
        rw [p1.made v hv] at this; cases this
      have e2 : dAt d2 v = dAt d1 v := p2.keep v (p1.pos v hv) n2
      have n3 : v ∉ allL l := fun hm => by
        have := p3.new v hm
        rw [e2, p1.made v hv] at this; cases this
      rw [p3.keep v (p1.pos v hv) n3, e2, q1 v hv]; simp
    | succ j =>
      have := putBlocks_params h2 j y (by simpa using hj) v hv
      rw [this]; congr 2; omega
theorem tsAt {ts : List Int} {t v : Int} (h0 : 0 ≤ v) (h1 : v < ts.length) : (ts ++ [t]).getD v.toNat 0 = ts.getD v.toNat 0 := by
  simp only [List.getD_eq_getElem?_getD]
  rw [List.getElem?_append_left (by omega)]
theorem typesOf_ext {ts l : List Int} {t : Int} (h : InTs ts.length l) : typesOf (ts ++ [t]) l = typesOf ts l := by
  refine List.map_congr_left fun v hv => ?_
  obtain ⟨h0, h1⟩ := h v hv
  exact tsAt h0 h1
theorem eqF_mono {α : Type} {p q : α → α → Bool} : ∀ {l m : List α}, (∀ x ∈ l, ∀ y, p x y = true → q x y = true) → Go.Vw.eqF p l m = true → Go.Vw.eqF q l m = true
  | [], [], _, _ => rfl
  | [], _ :: _, _, h => by simp [Go.Vw.eqF] at h
  | _ :: _, [], _, h => by simp [Go.Vw.eqF] at h
  | a :: l, b :: m, hp, h => by
    simp only [Go.Vw.eqF, Bool.and_eq_true] at h ⊢
    exact ⟨hp a (by simp) b h.1, eqF_mono (fun x hx => hp x (by simp [hx])) h.2⟩
theorem asks_ext {ts : List Int} {ds : List Def} {near : List Int} {block pos pos' t : Int} {c : Def} {l types : List Int} (hl : ds.length = ts.length) (hp : pos ≤ pos') (h : asks ts ds near block pos l types = true) : asks (ts ++ [t]) (ds ++ [c]) near block pos' l types = true := by
  refine eqF_mono (fun v _ y hv => ?_) h
  simp only [askOk, Bool.and_eq_true, decide_eq_true_eq] at hv ⊢
  obtain ⟨⟨⟨⟨h0, h1⟩, h2⟩, h3⟩, h4⟩ := hv
  have e : (ds ++ [c]).getD v.toNat default = ds.getD v.toNat default := (getD_app h1).resolve_right (by omega)
  rw [e, tsAt h0 (by omega)]
  refine ⟨⟨⟨⟨h0, by simp; omega⟩, h2⟩, h3⟩, ?_⟩
  split at h4
  · rename_i hb
    rw [if_pos hb]
    simp only [decide_eq_true_eq] at h4 ⊢; omega
  · rename_i hb
    rw [if_neg hb]; exact h4
theorem insOut_ext {ts : List Int} {t : Int} {x : Ins} (h : InTs ts.length x.outs) : insOut (ts ++ [t]) x = insOut ts x := by
  unfold insOut
  cases hu : x.outs with
  | nil => rfl
  | cons v r =>
    obtain ⟨h0, h1⟩ := h v (by rw [hu]; simp)
    exact tsAt h0 h1
theorem insOk_ext {e : Env} {f g : Fn} {ds : List Def} {near : List Int} {i k t : Int} {c : Def} {x : Ins} (hl : ds.length = f.types.length) (ht : g.types = f.types ++ [t]) (ho : InTs f.types.length x.outs) (h : insOk e f ds near i k x = true) : insOk e g (ds ++ [c]) near i k x = true := by
  simp only [insOk, Bool.and_eq_true, decide_eq_true_eq] at h ⊢
  rw [ht, insOut_ext ho, typesOf_ext ho]
  exact ⟨h.1, asks_ext hl (Int.le_refl _) h.2⟩
theorem checkCode_ext {e : Env} {f g : Fn} {ds : List Def} {near : List Int} {i t : Int} {c : Def} (hl : ds.length = f.types.length) (ht : g.types = f.types ++ [t]) : ∀ {l : List Ins} {k : Nat}, (∀ x ∈ l, InTs f.types.length x.outs) → checkCode e f ds near i k l = true → checkCode e g (ds ++ [c]) near i k l = true
  | [], k, _, _ => rfl
  | x :: l, k, ho, h => by
    simp only [checkCode, Bool.and_eq_true] at h ⊢
    exact ⟨insOk_ext hl ht (ho x (by simp)) h.1, checkCode_ext hl ht (fun y hy => ho y (by simp [hy])) h.2⟩
theorem checkCode_snoc {e : Env} {f : Fn} {ds : List Def} {near : List Int} {i : Int} {x : Ins} : ∀ {l : List Ins} {k : Nat}, checkCode e f ds near i k (l ++ [x]) = (checkCode e f ds near i k l && insOk e f ds near i ((k + l.length : Nat) : Int) x)
  | [], k => by simp [checkCode]
  | y :: l, k => by
    simp only [List.cons_append, checkCode]
    rw [checkCode_snoc, List.length_cons, show k + 1 + l.length = k + (l.length + 1) by omega, Bool.and_assoc]
end Ss
