import Derived.Test.YtenhhokhkkfgbaaGreatC27
import Derived.Test.YtenhhokhkkfgbaaGreatC31
/-
  Part of the proof (texts SMoreP, DOkc, DRun).
-/
set_option linter.unusedVariables false
set_option linter.unusedSimpArgs false
namespace Ss
/-! ### An instruction more -/
def moreX (ts : List Int) (b : Block) : Ins := b.params.foldl (fun (x : Ins) (p : Int) => if 0 ≤ p ∧ p < (ts.length : Int) ∧ ts.getD p.toNat 0 = 126 then ⟨124, 0, [p, p], [(ts.length : Int)]⟩ else x) ⟨256, 9, [], [(ts.length : Int)]⟩
def addB (b : Block) (x : Ins) : Block := ⟨b.params, b.code ++ [x], b.term⟩
def more (f : Fn) (j : Nat) : Fn := ⟨f.sig, f.types ++ [126], f.blocks.set j (addB (f.blocks.getD j default) (moreX f.types (f.blocks.getD j default)))⟩
theorem putCode_len' {i : Int} : ∀ {l : List Ins} {k : Nat} {ds d : List Def}, putCode i k ds l = some d → d.length = ds.length := fun h => (putCode_in h).1
theorem putBlocks_params : ∀ {l : List Block} {i : Nat} {ds d : List Def}, putBlocks i ds l = some d → ∀ (j : Nat) (b : Block), l[j]? = some b → ∀ v ∈ b.params, dAt d v = ⟨true, ((i + j : Nat) : Int), -1⟩
 | [], i, ds, d, h => by simp
 | b :: l, i, ds, d, h => by
  simp only [putBlocks] at h
  obtain ⟨d2, h1, h2⟩ := Option.bind_eq_some_iff.1 h
  obtain ⟨d1, h3, h4⟩ := Option.bind_eq_some_iff.1 h1
  obtain ⟨p1, q1⟩ := put_puts h3
  obtain ⟨p2, _⟩ := putCode_puts h4
  obtain ⟨p3, _⟩ := putBlocks_puts h2
  intro j y hj v hv
  cases j with
  | zero =>
   simp only [List.getElem?_cons_zero, Option.some.injEq] at hj
   subst hj
   have n2 : v ∉ outsC b.code := fun hm => by
    have := p2.new v hm
    rw [p1.made v hv] at this; cases this
   have e2 : dAt d2 v = dAt d1 v := p2.keep v (p1.pos v hv) n2
   have n3 : v ∉ allL l := fun hm => by
    have := p3.new v hm
    rw [e2, p1.made v hv] at this; cases this
   rw [p3.keep v (p1.pos v hv) n3, e2, q1 v hv]; simp
  | succ j =>
   have := putBlocks_params h2 j y (by simpa using hj) v hv
   rw [this]; congr 2; omega
theorem eqF_mono {α : Type} {p q : α → α → Bool} : ∀ {l m : List α}, (∀ x ∈ l, ∀ y, p x y = true → q x y = true) → Go.Vw.eqF p l m = true → Go.Vw.eqF q l m = true
 | [], [], _, _ => rfl
 | [], _ :: _, _, h => by simp [Go.Vw.eqF] at h
 | _ :: _, [], _, h => by simp [Go.Vw.eqF] at h
 | a :: l, b :: m, hp, h => by
  simp only [Go.Vw.eqF, Bool.and_eq_true] at h ⊢
  exact ⟨hp a (by simp) b h.1, eqF_mono (fun x hx => hp x (by simp [hx])) h.2⟩
end Ss

namespace Ss
theorem total_one {e : Env} {op n out : Int} (h : total op = true) : ∃ t, (form e op n out).outs = [t] := by
 have h1 : op ≠ 258 := fun e => by subst e; revert h; decide
 have h2 : op ≠ 16 := fun e => by subst e; revert h; decide
 have h3 : op ≠ 35 := fun e => by subst e; revert h; decide
 have h4 : op ≠ 36 := fun e => by subst e; revert h; decide
 have h5 : op ≠ 256 := fun e => by subst e; revert h; decide
 have h6 : op ≠ 27 := fun e => by subst e; revert h; decide
 have e0 : form e op n out = formNum e op := by simp [form, h1, h2, h3, h4, h5, h6]
 rw [e0]
 unfold total at h
 unfold formNum numSig
 cases hf : find op with
 | none => rw [hf] at h; simp at h
 | some g => exact ⟨_, rfl⟩
theorem pure_one {e : Env} {op n out : Int} (h : pure op = true) : ∃ t, (form e op n out).outs = [t] := by
 simp only [pure, Bool.or_eq_true, decide_eq_true_eq] at h
 rcases h with (rfl | rfl) | h
 ·by_cases ho : out = 127 <;> simp [form, ho]
 ·simp [form]
 ·exact total_one h
theorem asks_in {ts : List Int} {ds : List Def} {near : List Int} {block pos : Int} {l types : List Int} (h : asks ts ds near block pos l types = true) {v : Int} (hv : v ∈ l) : InR ds.length v := by
 obtain ⟨t, ht⟩ := eqF_fst h v hv
 simp only [askOk, Bool.and_eq_true, decide_eq_true_eq] at ht
 exact ⟨ht.1.1.1.1, ht.1.1.1.2⟩
theorem check_dok {e : Env} {f : Fn} (h : check e f = true) : DOk f := by
 obtain ⟨hh, ds, hds, hsh, hB⟩ := check_spec h
 obtain ⟨hlen, hin⟩ := defs_in hds
 obtain ⟨hnd, hmade, hat⟩ := defs_made hds
 have hpar := putBlocks_params hds
 have hr : Go.Vw.G.right (succs f.blocks) = true := by
  simp only [shapeOk, Bool.and_eq_true] at hsh
  exact hsh.1.1.1.1
 have hto := right_to hr
 have hblk : ∀ b ∈ f.blocks, ∃ j : Nat, f.blocks[j]? = some b ∧ checkCode e f ds (Go.Vw.G.nearI (succs f.blocks)) (j : Int) 0 b.code = true ∧ termOk f ds (Go.Vw.G.nearI (succs f.blocks)) (j : Int) b = true := fun b hb => by
  obtain ⟨j, hj⟩ := List.mem_iff_getElem?.1 hb
  have := checkBlocks_at hB hj
  rw [Nat.zero_add] at this
  exact ⟨j, hj, this⟩
 have hins : ∀ b ∈ f.blocks, ∀ x ∈ b.code, ∃ j k : Nat, f.blocks[j]? = some b ∧ b.code[k]? = some x ∧ insOk e f ds (Go.Vw.G.nearI (succs f.blocks)) (j : Int) (k : Int) x = true := fun b hb x hx => by
  obtain ⟨j, hj, hc, _⟩ := hblk b hb
  obtain ⟨k, hk⟩ := List.mem_iff_getElem?.1 hx
  have := checkCode_at hc hk
  rw [Nat.zero_add] at this
  exact ⟨j, k, hj, hk, this⟩
 have hterm : ∀ b ∈ f.blocks, ∃ (j : Int) (le mo : Nat) (rs : List Int), termTail f ds (Go.Vw.G.nearI (succs f.blocks)) j b.code.length b.term le mo rs = true := fun b hb => by
  obtain ⟨j, hj, _, ht⟩ := hblk b hb
  unfold termOk at ht
  split at ht
  ·exact ⟨_, _, _, _, ht⟩
  ·cases ht
 have hone : ∀ b ∈ f.blocks, ∀ x ∈ b.code, pure x.op = true → ∃ o, x.outs = [o] := fun b hb x hx hp => by
  obtain ⟨j, k, _, _, hi⟩ := hins b hb x hx
  simp only [insOk, Bool.and_eq_true, decide_eq_true_eq] at hi
  obtain ⟨t, ht⟩ := pure_one (e := e) (n := x.n) (out := insOut f.types x) hp
  have h1 := hi.1.2
  rw [ht] at h1
  have h2 := congrArg List.length h1
  simp only [typesOf, List.length_map, List.length_singleton] at h2
  exact List.length_eq_one_iff.1 h2
 refine ⟨fun hb => ?_, fun b hb x hx v hv => (hin b hb).2 x hx v hv, hone, fun b hb x hx v hv => ?_, fun b hb v hv => (hin b hb).1 v hv, fun b hb v hv => ?_, fun b hb hk => ?_, fun b hb x hx v hv => ?_, fun b hb x hx => ?_, fun b hb c hc x hx y hy hp hq he => ?_, fun b hb c hc p hp y hy hm => ?_⟩
 ·simp only [shapeOk, Bool.and_eq_true] at hsh
  have := hsh.2
  rw [hb] at this
  cases this
 ·obtain ⟨j, k, _, _, hi⟩ := hins b hb x hx
  have := asks_in (insOk_asks hi) hv
  rwa [hlen] at this
 ·obtain ⟨j, le, mo, rs, ht⟩ := hterm b hb
  simp only [termTail, Bool.and_eq_true] at ht
  have := asks_in ht.1.2 hv
  rwa [hlen] at this
 ·obtain ⟨j, le, mo, rs, ht⟩ := hterm b hb
  simp only [termTail, Bool.and_eq_true] at ht
  have h1 := ht.1.1.1.1
  rw [if_pos hk] at h1
  have := asks_in h1 (v := b.term.arg) (by simp)
  rwa [hlen] at this
 ·obtain ⟨j, le, mo, rs, ht⟩ := hterm b hb
  simp only [termTail, Bool.and_eq_true, List.all_eq_true] at ht
  have h1 := ht.2 x hx
  simp only [edgeOk, Bool.and_eq_true] at h1
  have := asks_in h1.2 hv
  rwa [hlen] at this
 ·obtain ⟨j, le, mo, rs, ht⟩ := hterm b hb
  simp only [termTail, Bool.and_eq_true, List.all_eq_true] at ht
  have h1 := ht.2 x hx
  simp only [edgeOk, Bool.and_eq_true] at h1
  have h2 := eqF_len h1.2
  simp only [typesOf, List.length_map] at h2
  exact ⟨(hto b hb x hx).1, (hto b hb x hx).2, h2⟩
 ·obtain ⟨o, ho⟩ := hone b hb x hx hp
  obtain ⟨j, k, hj, hk, _⟩ := hins b hb x hx
  obtain ⟨j', k', hj', hk', _⟩ := hins c hc y hy
  have a1 := hat j b hj k x hk o (by simp [ho])
  have a2 := hat j' c hj' k' y hk' o (by simp [← he, ho])
  rw [a1] at a2
  simp only [Def.mk.injEq, true_and] at a2
  have e1 : j = j' := by omega
  have e2 : k = k' := by omega
  subst e1
  subst e2
  rw [hj] at hj'
  cases hj'
  rw [hk] at hk'
  cases hk'
  rfl
 ·obtain ⟨j, hj⟩ := List.mem_iff_getElem?.1 hb
  obtain ⟨j', k', hj', hk', _⟩ := hins c hc y hy
  have a1 := hpar j b hj p hp
  have a2 := hat j' c hj' k' y hk' p hm
  rw [a1] at a2
  simp only [Def.mk.injEq, true_and] at a2
  omega
end Ss

namespace Ss
def dNeed (f : Fn) : List Bool := dfs (askTab f) (f.types.length + 1) (List.replicate f.types.length false) (roots f)
def dKeep (need : List Bool) (x : Ins) : Bool := !pure x.op || on need (x.outs.getD 0 0)
def dEdge (need : List Bool) (bs : List Block) (e : Edge) : Edge := ⟨e.to, (((bs.getD e.to.toNat default).params.zip e.args).filter fun q => on need q.1).map Prod.snd⟩
def dBlock (need : List Bool) (bs : List Block) (b : Block) : Block := ⟨b.params.filter (on need), b.code.filter (dKeep need), ⟨b.term.kind, b.term.arg, b.term.to.map (dEdge need bs), b.term.args⟩⟩
def dceF (f : Fn) : Fn := ⟨f.sig, f.types, f.blocks.map (dBlock (dNeed f) f.blocks)⟩
def dceOut (e : Env) (f : Fn) : Fn × Int := if check e f then (dceF f, 0) else (⟨⟨[], []⟩, [], []⟩, 6)
theorem dNeed_marks {f : Fn} (h : DOk f) : Marks (askTab f) (List.replicate f.types.length false) (roots f) (dNeed f) := by
 have := need_same h (m := roots f) fun v => Iff.rfl
 unfold dNeed
 rw [← this]
 exact rneed_marks h
theorem dNeed_root {f : Fn} (h : DOk f) {v : Int} (hv : v ∈ roots f) : on (dNeed f) v = true := (dNeed_marks h).all v hv
theorem dNeed_asks {f : Fn} (h : DOk f) {v u : Int} (hv : on (dNeed f) v = true) (ha : Asks f v u) : on (dNeed f) u = true := by
 rcases (dNeed_marks h).shut v.toNat (on_iff.1 hv) with hn | hs
 ·have := List.mem_of_getElem? hn
  rw [List.mem_replicate] at this
  cases this.2
 ·exact hs u (tab_full h ha)
theorem dNeed_least {f : Fn} (h : DOk f) {P : Nat → Prop} (hr : ∀ v ∈ roots f, P v.toNat) (hc : ∀ v u : Int, InR f.types.length v → on (dNeed f) v = true → P v.toNat → Asks f v u → P u.toNat) : ∀ v : Int, on (dNeed f) v = true → P v.toNat := by
 intro v hv
 have := (dNeed_marks h).least (fun i => P i ∧ (dNeed f)[i]? = some true) (fun i hi => ?_) (fun v hv => ⟨hr v hv, on_iff.1 (dNeed_root h hv)⟩) (fun i hi u hu => ?_) v.toNat (on_iff.1 hv)
 ·exact this.1
 ·have := List.mem_of_getElem? hi
  rw [List.mem_replicate] at this
  cases this.2
 ·have hi2 : on (dNeed f) (i : Int) = true := by rw [on_iff]; simpa using hi.2
  have ha := tab_sound h (i : Int) u (by omega) (by simpa using hu)
  have hil : (i : Int) < f.types.length := by
   have h1 := (List.getElem?_eq_some_iff.1 hi.2).1
   have h2 := (dNeed_marks h).len
   rw [List.length_replicate] at h2
   omega
  exact ⟨by have := hc (i : Int) u ⟨by omega, hil⟩ hi2 (by simpa using hi.1) ha; exact this, on_iff.1 (dNeed_asks h hi2 ha)⟩
theorem getD_map_block {need : List Bool} {bs l : List Block} {n : Nat} (hn : n < l.length) : (l.map (dBlock need bs)).getD n default = dBlock need bs (l.getD n default) := by
 simp [List.getD_eq_getElem?_getD, List.getElem?_map, List.getElem?_eq_getElem hn]
theorem zip_keep (p : Int → Bool) : ∀ (l m : List Int), l.length = m.length → (l.filter p).zip (((l.zip m).filter fun q => p q.1).map Prod.snd) = (l.zip m).filter fun q => p q.1
 | [], _, _ => by simp
 | a :: l, [], h => by simp at h
 | a :: l, b :: m, h => by
  have := zip_keep p l m (by simpa using h)
  by_cases hp : p a = true
  ·simp [hp, this]
  ·have hp' : p a = false := by simpa using hp
   simp [hp', this]
theorem dce_head {f : Fn} (h : DOk f) : ((dceF f).blocks.getD 0 default).params = (f.blocks.getD 0 default).params := by
 have hn : 0 < f.blocks.length := List.length_pos_iff.2 h.ne
 simp only [dceF]
 rw [getD_map_block hn]
 simp only [dBlock, List.filter_eq_self]
 exact fun v hv => dNeed_root h (by simp only [roots, List.mem_append]; exact .inl hv)
theorem dce_rootsB (need : List Bool) (bs : List Block) (b : Block) : rootsB (dBlock need bs b) = rootsB b := by
 have e : ∀ l : List Ins, ((l.filter (dKeep need)).flatMap fun x => if pure x.op then [] else x.args ++ x.outs) = l.flatMap fun x => if pure x.op then [] else x.args ++ x.outs := by
  intro l
  induction l with
  | nil => rfl
  | cons x l ih =>
   by_cases hk : dKeep need x = true
   ·rw [List.filter_cons_of_pos hk, List.flatMap_cons, List.flatMap_cons, ih]
   ·rw [List.filter_cons_of_neg hk, List.flatMap_cons, ih]
    have hp : pure x.op = true := by
     unfold dKeep at hk
     cases hpp : pure x.op with
     | true => rfl
     | false => simp [hpp] at hk
    rw [if_pos hp, List.nil_append]
 unfold rootsB dBlock
 simp only [e]
 rfl
theorem dce_roots {f : Fn} (h : DOk f) : roots (dceF f) = roots f := by
 unfold roots
 rw [dce_head h]
 congr 1
 simp only [dceF, List.flatMap_map, dce_rootsB]
theorem dce_asks {f : Fn} (h : DOk f) {v u : Int} (hv : on (dNeed f) v = true) (ha : Asks f v u) : Asks (dceF f) v u := by
 rcases ha with ⟨b, hb, x, hx, hp, ho, hu⟩ | ⟨b, hb, e, he, hq⟩
 ·refine .inl ⟨dBlock (dNeed f) f.blocks b, List.mem_map_of_mem hb, x, ?_, hp, ho, hu⟩
  simp only [dBlock, List.mem_filter]
  exact ⟨hx, by rw [dKeep, ho, List.getD_cons_zero, hv, Bool.or_true]⟩
 ·obtain ⟨h0, h1, h2⟩ := h.etos b hb e he
  refine .inr ⟨dBlock (dNeed f) f.blocks b, List.mem_map_of_mem hb, dEdge (dNeed f) f.blocks e, List.mem_map_of_mem he, ?_⟩
  have e1 : (dEdge (dNeed f) f.blocks e).to = e.to := rfl
  simp only [dceF]
  rw [e1, getD_map_block (by omega)]
  simp only [dBlock, dEdge]
  rw [zip_keep _ _ _ h2.symm, List.mem_filter]
  exact ⟨hq, hv⟩
theorem dce_needs {f : Fn} (h : DOk f) (hg : DOk (dceF f)) : ∀ v : Int, on (dNeed f) v = true → on (dNeed (dceF f)) v = true := by
 intro v hv
 have := dNeed_least h (P := fun i => (dNeed (dceF f))[i]? = some true) (fun v hv => on_iff.1 (dNeed_root hg (by rw [dce_roots h]; exact hv))) (fun v u _ hn hp ha => on_iff.1 (dNeed_asks hg (on_iff.2 hp) (dce_asks h hn ha))) v hv
 exact on_iff.2 this
theorem dce_idem {f : Fn} (h : DOk f) (hg : DOk (dceF f)) : dceF (dceF f) = dceF f := by
 have hn := dce_needs h hg
 have e : ∀ b ∈ (dceF f).blocks, dBlock (dNeed (dceF f)) (dceF f).blocks b = b := fun c hc => by
  have hc' := hc
  simp only [dceF, List.mem_map] at hc'
  obtain ⟨b, hb, rfl⟩ := hc'
  have e1 : (dBlock (dNeed f) f.blocks b).params.filter (on (dNeed (dceF f))) = (dBlock (dNeed f) f.blocks b).params := by
   rw [List.filter_eq_self]
   intro v hv
   simp only [dBlock, List.mem_filter] at hv
   exact hn v hv.2
  have e2 : (dBlock (dNeed f) f.blocks b).code.filter (dKeep (dNeed (dceF f))) = (dBlock (dNeed f) f.blocks b).code := by
   rw [List.filter_eq_self]
   intro x hx
   simp only [dBlock, List.mem_filter, dKeep, Bool.or_eq_true] at hx ⊢
   exact hx.2.imp id (hn _)
  have e3 : (dBlock (dNeed f) f.blocks b).term.to.map (dEdge (dNeed (dceF f)) (dceF f).blocks) = (dBlock (dNeed f) f.blocks b).term.to := by
   refine (List.map_congr_left fun t ht => ?_).trans (List.map_id _)
   obtain ⟨h0, h1, h2⟩ := hg.etos _ hc t ht
   simp only [dEdge, id]
   have hall : (((dceF f).blocks.getD t.to.toNat default).params.zip t.args).filter (fun q => on (dNeed (dceF f)) q.1) = ((dceF f).blocks.getD t.to.toNat default).params.zip t.args := by
    rw [List.filter_eq_self]
    intro q hq
    have hp := (List.of_mem_zip hq).1
    have hlt : t.to.toNat < (dceF f).blocks.length := by omega
    have hlf : t.to.toNat < f.blocks.length := by simpa [dceF] using hlt
    simp only [dceF] at hp
    rw [getD_map_block hlf] at hp
    simp only [dBlock, List.mem_filter] at hp
    exact hn _ hp.2
   rw [hall, List.map_snd_zip (by omega)]
  unfold dBlock at e1 e2 e3 ⊢
  simp only at e1 e2 e3 ⊢
  rw [e1, e2, e3]
 have : (dceF (dceF f)).blocks = (dceF f).blocks := by
  conv => lhs; unfold dceF
  exact (List.map_congr_left e).trans (List.map_id _)
 have e2 : dceF (dceF f) = ⟨(dceF f).sig, (dceF f).types, (dceF (dceF f)).blocks⟩ := rfl
 rw [e2, this]
end Ss
