import Derived.Test.YtmfpoangempgaaaC13
import Derived.Test.YtmfpoangempgaaaProg
/-
  Part of the proof (texts SSpec, SRingP, SIdx).
-/
set_option linter.unusedVariables false
set_option linter.unusedSimpArgs false
/-
  Functions in SSA form: how long their lists are.
-/
namespace Ss
def shortL (ls : List (List Int)) : Bool := ls.all fun l => decide (l.length ≤ 4096)
def Ins.small (x : Ins) : Bool := decide (x.args.length ≤ 4096) && decide (x.outs.length ≤ 4096)
def Edge.small (x : Edge) : Bool := decide (x.args.length ≤ 4096)
def Block.small (b : Block) : Bool := decide (b.params.length ≤ 4096) && decide (b.term.to.length ≤ 4096) && decide (b.term.args.length ≤ 4096) && b.code.all Ins.small && b.term.to.all Edge.small
/-- Blocks from one on, behind n instructions. -/
def smallFrom (n : Nat) : List Block → Bool
  | [] => true
  | b :: bs => decide (n + b.code.length ≤ 4096) && b.small && smallFrom (n + b.code.length) bs
def Fn.heads (f : Fn) : Bool := decide (f.types.length ≤ 4096) && decide (f.blocks.length ≤ 4096) && decide (f.sig.inn.length ≤ 4096) && decide (f.sig.out.length ≤ 4096)
def Fn.small (f : Fn) : Bool := f.heads && smallFrom 0 f.blocks
def count (bs : List Block) : Nat := (bs.map fun b => b.code.length).sum

theorem smallFrom_all : ∀ {bs : List Block} {n : Nat}, smallFrom n bs = true → (∀ b ∈ bs, b.small = true) ∧ (n ≤ 4096 → n + count bs ≤ 4096)
  | [], n, _ => ⟨by simp, by simp [count]⟩
  | b :: bs, n, h => by
    simp only [smallFrom, Bool.and_eq_true, decide_eq_true_eq] at h
    obtain ⟨⟨h1, h2⟩, h3⟩ := h
    obtain ⟨k1, k2⟩ := smallFrom_all h3
    refine ⟨fun x hx => ?_, fun _ => ?_⟩
    · rcases List.mem_cons.1 hx with rfl | hx
      · exact h2
      · exact k1 x hx
    · have := k2 h1
      simp only [count, List.map_cons, List.sum_cons] at this ⊢
      omega
theorem smallFrom_mk : ∀ {bs : List Block} {n : Nat}, (∀ b ∈ bs, b.small = true) → n + count bs ≤ 4096 → smallFrom n bs = true
  | [], n, _, _ => rfl
  | b :: bs, n, h, hn => by
    simp only [count, List.map_cons, List.sum_cons] at hn
    simp only [smallFrom, Bool.and_eq_true, decide_eq_true_eq]
    exact ⟨⟨by omega, h b (by simp)⟩, smallFrom_mk (fun x hx => h x (by simp [hx])) (by simp only [count]; omega)⟩
theorem small_iff (f : Fn) : f.small = true ↔ f.heads = true ∧ (∀ b ∈ f.blocks, b.small = true) ∧ count f.blocks ≤ 4096 := by
  simp only [Fn.small, Bool.and_eq_true]
  constructor
  · rintro ⟨h1, h2⟩
    obtain ⟨k1, k2⟩ := smallFrom_all h2
    exact ⟨h1, k1, by simpa using k2 (by omega)⟩
  · rintro ⟨h1, h2, h3⟩
    exact ⟨h1, smallFrom_mk h2 (by simpa using h3)⟩
theorem drop_all {α : Type} (p : α → Bool) {l : List α} {k : Nat} (h : k < l.length) : (l.drop k).all p = (p l[k] && (l.drop (k + 1)).all p) := by
  rw [List.drop_eq_getElem_cons h, List.all_cons]
theorem drop_all_end {α : Type} (p : α → Bool) {l : List α} {k : Nat} (h : ¬ k < l.length) : (l.drop k).all p = true := by
  have : l.drop k = [] := by rw [List.drop_eq_nil_iff]; omega
  rw [this]; rfl
theorem drop_small {n : Nat} {l : List Block} {k : Nat} (h : k < l.length) : smallFrom n (l.drop k) = (decide (n + l[k].code.length ≤ 4096) && l[k].small && smallFrom (n + l[k].code.length) (l.drop (k + 1))) := by
  rw [List.drop_eq_getElem_cons h, smallFrom]
theorem drop_small_end {n : Nat} {l : List Block} {k : Nat} (h : ¬ k < l.length) : smallFrom n (l.drop k) = true := by
  have : l.drop k = [] := by rw [List.drop_eq_nil_iff]; omega
  rw [this]; rfl
end Ss

/-
  Circles of blocks, by a walk in depth: the walk ends.
-/
namespace Ss
def tickB (b : Block) : Bool := b.code.any fun x => decide (x.op = 258)
mutual
/-- The walk from a node: a circle?, and the nodes' states behind it (0 not met, 1 under way, 2 done); none: out of fuel. -/
def ringW (tick : List Bool) (g : List (List Nat)) : Nat → Nat → List Nat → Option (Bool × List Nat)
  | 0, _, _ => none
  | fuel + 1, n, st => if tick.getD n false then some (false, st) else
      match ringL tick g fuel (g.getD n []) (st.set n 1) with
      | some (true, s) => some (true, s)
      | some (false, s) => some (false, s.set n 2)
      | none => none
  termination_by fuel _ _ => (fuel, 0)
def ringL (tick : List Bool) (g : List (List Nat)) : Nat → List Nat → List Nat → Option (Bool × List Nat)
  | _, [], st => some (false, st)
  | fuel, k :: ks, st => if st.getD k 0 = 1 then some (true, st) else if st.getD k 0 = 0 then
      match ringW tick g fuel k st with
      | some (true, s) => some (true, s)
      | some (false, s) => ringL tick g fuel ks s
      | none => none
    else ringL tick g fuel ks st
  termination_by fuel ks _ => (fuel, ks.length + 1)
end
def ringM (tick : List Bool) (g : List (List Nat)) (fuel : Nat) : List Nat → List Nat → Option Bool
  | [], _ => some false
  | n :: ns, st => if st.getD n 0 = 0 then
      match ringW tick g fuel n st with
      | some (true, _) => some true
      | some (false, s) => ringM tick g fuel ns s
      | none => none
    else ringM tick g fuel ns st
def zeros (st : List Nat) : Nat := (st.filter fun x => decide (x = 0)).length
theorem zeros_set (v : Nat) : ∀ (st : List Nat) (n : Nat), v ≠ 0 → zeros (st.set n v) ≤ zeros st ∧ (n < st.length → st.getD n 1 = 0 → zeros (st.set n v) + 1 = zeros st)
  | [], n, _ => by simp [zeros]
  | x :: st, 0, hv => by
    have e : zeros ((x :: st).set 0 v) = zeros st := by simp [zeros, hv]
    rw [e]
    refine ⟨?_, fun _ h => ?_⟩
    · simp only [zeros, List.filter_cons]
      split <;> simp
    · simp at h; subst h; simp [zeros]
  | x :: st, n + 1, hv => by
    obtain ⟨h1, h2⟩ := zeros_set v st n hv
    simp only [zeros, List.set_cons_succ, List.filter_cons] at h1 h2 ⊢
    split
    · simp only [List.length_cons]
      refine ⟨by omega, fun h3 h4 => ?_⟩
      have := h2 (by simpa using h3) (by simpa using h4)
      omega
    · exact ⟨h1, fun h3 h4 => h2 (by simpa using h3) (by simpa using h4)⟩
theorem zeros_le (st : List Nat) : zeros st ≤ st.length := List.length_filter_le _ _

section
variable {tick : List Bool} {g : List (List Nat)}
theorem ringL_ends {N fuel : Nat} (hg : ∀ n, ∀ k ∈ g.getD n [], k < N)
    (ih : ∀ n st, n < N → st.length = N → st.getD n 0 = 0 → zeros st < fuel → ∃ r s, ringW tick g fuel n st = some (r, s) ∧ zeros s ≤ zeros st ∧ s.length = st.length) :
    ∀ (ks st : List Nat), (∀ k ∈ ks, k < N) → st.length = N → zeros st < fuel → ∃ r s, ringL tick g fuel ks st = some (r, s) ∧ zeros s ≤ zeros st ∧ s.length = st.length
  | [], st, _, _, _ => ⟨false, st, by rw [ringL], Nat.le_refl _, rfl⟩
  | k :: ks, st, hk, hl, hz => by
    rw [ringL]
    split
    · exact ⟨true, st, rfl, Nat.le_refl _, rfl⟩
    · split
      · rename_i h0
        obtain ⟨r, s, h1, h2, h3⟩ := ih k st (hk k (by simp)) hl h0 hz
        rw [h1]
        cases r with
        | true => exact ⟨true, s, rfl, h2, h3⟩
        | false =>
          obtain ⟨r', s', k1, k2, k3⟩ := ringL_ends hg ih ks s (fun x hx => hk x (by simp [hx])) (by omega) (by omega)
          exact ⟨r', s', k1, by omega, by omega⟩
      · exact ringL_ends hg ih ks st (fun x hx => hk x (by simp [hx])) hl hz
theorem ringW_ends {N : Nat} (hg : ∀ n, ∀ k ∈ g.getD n [], k < N) : ∀ (fuel n : Nat) (st : List Nat), n < N → st.length = N → st.getD n 0 = 0 → zeros st < fuel → ∃ r s, ringW tick g fuel n st = some (r, s) ∧ zeros s ≤ zeros st ∧ s.length = st.length
  | 0, _, _, _, _, _, hz => by omega
  | fuel + 1, n, st, hn, hl, h0, hz => by
    rw [ringW]
    split
    · exact ⟨false, st, rfl, Nat.le_refl _, rfl⟩
    · have hz1 := (zeros_set 1 st n (by decide)).2 (by omega) (by
        rw [List.getD_eq_getElem?_getD, List.getElem?_eq_getElem (by omega)] at h0 ⊢
        exact h0)
      obtain ⟨r, s, h1, h2, h3⟩ := ringL_ends hg (fun n st => ringW_ends hg fuel n st) (g.getD n []) (st.set n 1) (hg n) (by simp; omega) (by omega)
      rw [h1]
      have h3' : s.length = st.length := by rw [h3]; simp
      cases r with
      | true => exact ⟨true, s, rfl, by omega, h3'⟩
      | false =>
        have := (zeros_set 2 s n (by decide)).1
        exact ⟨false, s.set n 2, rfl, by omega, by simp [h3']⟩
theorem ringM_ends {N fuel : Nat} (hg : ∀ n, ∀ k ∈ g.getD n [], k < N) (hf : N < fuel) : ∀ (ns st : List Nat), (∀ n ∈ ns, n < N) → st.length = N → ∃ r, ringM tick g fuel ns st = some r
  | [], _, _, _ => ⟨false, rfl⟩
  | n :: ns, st, hn, hl => by
    simp only [ringM]
    split
    · rename_i h0
      obtain ⟨r, s, h1, h2, h3⟩ := ringW_ends (tick := tick) hg fuel n st (hn n (by simp)) hl h0 (by have := zeros_le st; omega)
      rw [h1]
      cases r with
      | true => exact ⟨true, rfl⟩
      | false => exact ringM_ends hg hf ns s (fun x hx => hn x (by simp [hx])) (by omega)
    · exact ringM_ends hg hf ns st (fun x hx => hn x (by simp [hx])) hl
theorem ringL_len {fuel : Nat} (ih : ∀ n st r s, ringW tick g fuel n st = some (r, s) → s.length = st.length) : ∀ (ks st : List Nat) (r : Bool) (s : List Nat), ringL tick g fuel ks st = some (r, s) → s.length = st.length
  | [], st, r, s, h => by rw [ringL] at h; cases h; rfl
  | k :: ks, st, r, s, h => by
    rw [ringL] at h
    split at h
    · cases h; rfl
    · split at h
      · cases hw : ringW tick g fuel k st with
        | none => rw [hw] at h; cases h
        | some p =>
          obtain ⟨b, s1⟩ := p
          rw [hw] at h
          have e1 := ih k st b s1 hw
          cases b with
          | true => cases h; exact e1
          | false => exact (ringL_len ih ks s1 r s h).trans e1
      · exact ringL_len ih ks st r s h
theorem ringW_len : ∀ (fuel n : Nat) (st : List Nat) (r : Bool) (s : List Nat), ringW tick g fuel n st = some (r, s) → s.length = st.length
  | 0, _, _, _, _, h => by rw [ringW] at h; cases h
  | fuel + 1, n, st, r, s, h => by
    rw [ringW] at h
    split at h
    · cases h; rfl
    · cases hl : ringL tick g fuel (g.getD n []) (st.set n 1) with
      | none => rw [hl] at h; cases h
      | some p =>
        obtain ⟨b, s1⟩ := p
        rw [hl] at h
        have e1 := ringL_len (ringW_len fuel) _ _ _ _ hl
        cases b with
        | true => cases h; simpa using e1
        | false => cases h; simpa using e1
end
/-- Is there a circle of blocks without a tick? -/
def rings (bs : List Block) (g : List (List Nat)) : Bool := (ringM (bs.map tickB) g (g.length + 1) (List.range g.length) (List.replicate g.length 0)).getD false
end Ss

namespace Go.Vw
open Go.Proofs Go.RowKit
set_option maxRecDepth 10000
set_option maxHeartbeats 4000000

/-- The first place where a test holds, from a number on; -1: none. -/
def findI {α : Type} (p : α → Bool) : List α → Nat → Int
  | [], _ => -1
  | x :: xs, k => if p x then (k : Int) else findI p xs (k + 1)
theorem findI_any {α : Type} (p : α → Bool) : ∀ (l : List α) (k : Nat), decide (0 ≤ findI p l k) = l.any p
  | [], k => by simp [findI]
  | x :: xs, k => by
      cases h : p x
      · simp [findI, h, findI_any p xs (k + 1)]
      · simp [findI, h]

/-- The same lists, by a test of elements. -/
def eqF {α : Type} (p : α → α → Bool) : List α → List α → Bool
  | [], [] => true
  | x :: xs, y :: ys => p x y && eqF p xs ys
  | _, _ => false
theorem eqF_len {α : Type} {p : α → α → Bool} : ∀ {l m : List α}, ¬ l.length = m.length → eqF p l m = false
  | [], [], h => absurd rfl h
  | [], _ :: _, _ => rfl
  | _ :: _, [], _ => rfl
  | x :: xs, y :: ys, h => by rw [eqF, eqF_len (l := xs) (m := ys) (by simpa using h)]; simp
theorem eqF_eq {α : Type} [DecidableEq α] {p : α → α → Bool} (hp : ∀ x y, p x y = decide (x = y)) : ∀ (l m : List α), eqF p l m = decide (l = m)
  | [], [] => by simp [eqF]
  | [], _ :: _ => by simp [eqF]
  | _ :: _, [] => by simp [eqF]
  | x :: xs, y :: ys => by rw [eqF, hp, eqF_eq hp xs ys]; simp

theorem IndexL_v (l : List (List Int)) (p : List Int → Bool) (fid : FuncId) (caps : List V) (hc : callable Try.prog fid = true) (hl : l.length < 2^63) (h : ∀ x ∈ l, VPure Try.prog fid ([vl vint x] ++ caps) (.bool (p x))) :
    VPure Try.prog 85 [vl (vl vint) l, .func fid caps] (vint (findI p l 0)) := by
  intro S
  refine vcalls_start (c := bodyOf Try.f85) Try.func85 rfl rfl (by simp [Try.ntmps85]) ?_
  rw [Try.ntmps85]
  intro hwf
  repeat (first|refine QG ?_|refine QX (r:=by conv=>lhs;simp[-List.map_set,QV]) (k:=?_))
  repeat refine QS ?_
  refine vw_loopAt [0, 1, 7, 8] rfl (fun c σ S' => ∃ (k : Nat), k ≤ l.length ∧ c = l.length - k ∧ findI p (l.drop k) k = findI p l 0 ∧ σ = [(0, vl (vl vint) l), (1, .func fid caps), (7, vnat l.length), (8, vnat k)] ∧ S' = St S [] []) l.length ?_ ?_
  · exact ⟨0, by omega, rfl, rfl, by simp [Fr.only], rfl⟩
  · rintro c σ T ⟨k, hk, rfl, hd, rfl, rfl⟩
    by_cases hkt : k < l.length
    · have hst : findI p (l.drop k) k = if p l[k] then (k : Int) else findI p (l.drop (k + 1)) (k + 1) := by rw [List.drop_eq_getElem_cons hkt, findI]
      have hw := wrapNat hkt hl
      repeat (first|refine QG ?_|refine QX (r:=by conv=>lhs;simp[-List.map_set,QV,hkt]) (k:=?_))
      repeat refine QS ?_
      refine QR (r:=by conv=>lhs;simp[-List.map_set,QV,hkt]) (k:=?_)
      refine vcallv_use rfl hc rfl (h _ (List.getElem_mem hkt)) ?_
      refine QM (by conv=>lhs;simp[-List.map_set,QV]) ?_
      refine QN ?_
      cases hp : p l[k] with
      | true =>
        rw [hp] at hst
        repeat (first|refine QG ?_|refine QX (r:=by conv=>lhs;simp[-List.map_set,QV,hp]) (k:=?_))
        exact done_pure hwf (by rw [← hd, hst]; rfl) rfl
      | false =>
        rw [hp] at hst
        repeat (first|refine QG ?_|refine QX (r:=by conv=>lhs;simp[-List.map_set,QV,hp]) (k:=?_))
        show Again _ _ _ _ _ _ _
        exact again ⟨Nat.sub_lt_sub_left hkt (Nat.lt_succ_self k), k + 1, hkt, rfl, by rw [← hd, hst]; rfl, by simp [Fr.only, hw], rfl⟩
    · have e : l.drop k = [] := by rw [List.drop_eq_nil_iff]; omega
      rw [e] at hd
      repeat (first|refine QG ?_|refine QX (r:=by conv=>lhs;simp[-List.map_set,QV,hkt]) (k:=?_))
      exact done_pure hwf (by rw [← hd]; rfl) rfl

theorem AnyL_v (l : List (List Int)) (p : List Int → Bool) (fid : FuncId) (caps : List V) (hc : callable Try.prog fid = true) (hl : l.length < 2^63) (h : ∀ x ∈ l, VPure Try.prog fid ([vl vint x] ++ caps) (.bool (p x))) :
    VPure Try.prog 66 [vl (vl vint) l, .func fid caps] (.bool (l.any p)) := by
  intro S
  refine vcalls_start (c := bodyOf Try.f66) Try.func66 rfl rfl (by simp [Try.ntmps66]) ?_
  rw [Try.ntmps66]
  intro hwf
  rw [← findI_any p l 0]
  repeat (first|refine QG ?_|refine QX (r:=by conv=>lhs;simp[-List.map_set,QV]) (k:=?_))
  repeat refine QS ?_
  refine QR (r:=by conv=>lhs;simp[-List.map_set,QV]) (k:=?_)
  refine vcall_use rfl (IndexL_v l p fid caps hc hl h) ?_
  refine QM (by conv=>lhs;simp[-List.map_set,QV]) ?_
  refine QN ?_
  repeat (first|refine QG ?_|refine QX (r:=by conv=>lhs;simp[-List.map_set,QV]) (k:=?_))
  exact done_pure hwf rfl rfl

theorem IndexI_v (l : List (Int)) (p : Int → Bool) (fid : FuncId) (caps : List V) (hc : callable Try.prog fid = true) (hl : l.length < 2^63) (h : ∀ x ∈ l, VPure Try.prog fid ([vint x] ++ caps) (.bool (p x))) :
    VPure Try.prog 71 [vl (vint) l, .func fid caps] (vint (findI p l 0)) := by
  intro S
  refine vcalls_start (c := bodyOf Try.f71) Try.func71 rfl rfl (by simp [Try.ntmps71]) ?_
  rw [Try.ntmps71]
  intro hwf
  repeat (first|refine QG ?_|refine QX (r:=by conv=>lhs;simp[-List.map_set,QV]) (k:=?_))
  repeat refine QS ?_
  refine vw_loopAt [0, 1, 7, 8] rfl (fun c σ S' => ∃ (k : Nat), k ≤ l.length ∧ c = l.length - k ∧ findI p (l.drop k) k = findI p l 0 ∧ σ = [(0, vl (vint) l), (1, .func fid caps), (7, vnat l.length), (8, vnat k)] ∧ S' = St S [] []) l.length ?_ ?_
  · exact ⟨0, by omega, rfl, rfl, by simp [Fr.only], rfl⟩
  · rintro c σ T ⟨k, hk, rfl, hd, rfl, rfl⟩
    by_cases hkt : k < l.length
    · have hst : findI p (l.drop k) k = if p l[k] then (k : Int) else findI p (l.drop (k + 1)) (k + 1) := by rw [List.drop_eq_getElem_cons hkt, findI]
      have hw := wrapNat hkt hl
      repeat (first|refine QG ?_|refine QX (r:=by conv=>lhs;simp[-List.map_set,QV,hkt]) (k:=?_))
      repeat refine QS ?_
      refine QR (r:=by conv=>lhs;simp[-List.map_set,QV,hkt]) (k:=?_)
      refine vcallv_use rfl hc rfl (h _ (List.getElem_mem hkt)) ?_
      refine QM (by conv=>lhs;simp[-List.map_set,QV]) ?_
      refine QN ?_
      cases hp : p l[k] with
      | true =>
        rw [hp] at hst
        repeat (first|refine QG ?_|refine QX (r:=by conv=>lhs;simp[-List.map_set,QV,hp]) (k:=?_))
        exact done_pure hwf (by rw [← hd, hst]; rfl) rfl
      | false =>
        rw [hp] at hst
        repeat (first|refine QG ?_|refine QX (r:=by conv=>lhs;simp[-List.map_set,QV,hp]) (k:=?_))
        show Again _ _ _ _ _ _ _
        exact again ⟨Nat.sub_lt_sub_left hkt (Nat.lt_succ_self k), k + 1, hkt, rfl, by rw [← hd, hst]; rfl, by simp [Fr.only, hw], rfl⟩
    · have e : l.drop k = [] := by rw [List.drop_eq_nil_iff]; omega
      rw [e] at hd
      repeat (first|refine QG ?_|refine QX (r:=by conv=>lhs;simp[-List.map_set,QV,hkt]) (k:=?_))
      exact done_pure hwf (by rw [← hd]; rfl) rfl

theorem AnyI_v (l : List (Int)) (p : Int → Bool) (fid : FuncId) (caps : List V) (hc : callable Try.prog fid = true) (hl : l.length < 2^63) (h : ∀ x ∈ l, VPure Try.prog fid ([vint x] ++ caps) (.bool (p x))) :
    VPure Try.prog 53 [vl (vint) l, .func fid caps] (.bool (l.any p)) := by
  intro S
  refine vcalls_start (c := bodyOf Try.f53) Try.func53 rfl rfl (by simp [Try.ntmps53]) ?_
  rw [Try.ntmps53]
  intro hwf
  rw [← findI_any p l 0]
  repeat (first|refine QG ?_|refine QX (r:=by conv=>lhs;simp[-List.map_set,QV]) (k:=?_))
  repeat refine QS ?_
  refine QR (r:=by conv=>lhs;simp[-List.map_set,QV]) (k:=?_)
  refine vcall_use rfl (IndexI_v l p fid caps hc hl h) ?_
  refine QM (by conv=>lhs;simp[-List.map_set,QV]) ?_
  refine QN ?_
  repeat (first|refine QG ?_|refine QX (r:=by conv=>lhs;simp[-List.map_set,QV]) (k:=?_))
  exact done_pure hwf rfl rfl

theorem IndexB_v (l : List (Ss.Block)) (p : Ss.Block → Bool) (fid : FuncId) (caps : List V) (hc : callable Try.prog fid = true) (hl : l.length < 2^63) (h : ∀ x ∈ l, VPure Try.prog fid ([encBlock x] ++ caps) (.bool (p x))) :
    VPure Try.prog 56 [vl (encBlock) l, .func fid caps] (vint (findI p l 0)) := by
  intro S
  refine vcalls_start (c := bodyOf Try.f56) Try.func56 rfl rfl (by simp [Try.ntmps56]) ?_
  rw [Try.ntmps56]
  intro hwf
  repeat (first|refine QG ?_|refine QX (r:=by conv=>lhs;simp[-List.map_set,QV]) (k:=?_))
  repeat refine QS ?_
  refine vw_loopAt [0, 1, 7, 8] rfl (fun c σ S' => ∃ (k : Nat), k ≤ l.length ∧ c = l.length - k ∧ findI p (l.drop k) k = findI p l 0 ∧ σ = [(0, vl (encBlock) l), (1, .func fid caps), (7, vnat l.length), (8, vnat k)] ∧ S' = St S [] []) l.length ?_ ?_
  · exact ⟨0, by omega, rfl, rfl, by simp [Fr.only], rfl⟩
  · rintro c σ T ⟨k, hk, rfl, hd, rfl, rfl⟩
    by_cases hkt : k < l.length
    · have hst : findI p (l.drop k) k = if p l[k] then (k : Int) else findI p (l.drop (k + 1)) (k + 1) := by rw [List.drop_eq_getElem_cons hkt, findI]
      have hw := wrapNat hkt hl
      repeat (first|refine QG ?_|refine QX (r:=by conv=>lhs;simp[-List.map_set,QV,hkt]) (k:=?_))
      repeat refine QS ?_
      refine QR (r:=by conv=>lhs;simp[-List.map_set,QV,hkt]) (k:=?_)
      refine vcallv_use rfl hc rfl (h _ (List.getElem_mem hkt)) ?_
      refine QM (by conv=>lhs;simp[-List.map_set,QV]) ?_
      refine QN ?_
      cases hp : p l[k] with
      | true =>
        rw [hp] at hst
        repeat (first|refine QG ?_|refine QX (r:=by conv=>lhs;simp[-List.map_set,QV,hp]) (k:=?_))
        exact done_pure hwf (by rw [← hd, hst]; rfl) rfl
      | false =>
        rw [hp] at hst
        repeat (first|refine QG ?_|refine QX (r:=by conv=>lhs;simp[-List.map_set,QV,hp]) (k:=?_))
        show Again _ _ _ _ _ _ _
        exact again ⟨Nat.sub_lt_sub_left hkt (Nat.lt_succ_self k), k + 1, hkt, rfl, by rw [← hd, hst]; rfl, by simp [Fr.only, hw], rfl⟩
    · have e : l.drop k = [] := by rw [List.drop_eq_nil_iff]; omega
      rw [e] at hd
      repeat (first|refine QG ?_|refine QX (r:=by conv=>lhs;simp[-List.map_set,QV,hkt]) (k:=?_))
      exact done_pure hwf (by rw [← hd]; rfl) rfl

theorem AnyB_v (l : List (Ss.Block)) (p : Ss.Block → Bool) (fid : FuncId) (caps : List V) (hc : callable Try.prog fid = true) (hl : l.length < 2^63) (h : ∀ x ∈ l, VPure Try.prog fid ([encBlock x] ++ caps) (.bool (p x))) :
    VPure Try.prog 32 [vl (encBlock) l, .func fid caps] (.bool (l.any p)) := by
  intro S
  refine vcalls_start (c := bodyOf Try.f32) Try.func32 rfl rfl (by simp [Try.ntmps32]) ?_
  rw [Try.ntmps32]
  intro hwf
  rw [← findI_any p l 0]
  repeat (first|refine QG ?_|refine QX (r:=by conv=>lhs;simp[-List.map_set,QV]) (k:=?_))
  repeat refine QS ?_
  refine QR (r:=by conv=>lhs;simp[-List.map_set,QV]) (k:=?_)
  refine vcall_use rfl (IndexB_v l p fid caps hc hl h) ?_
  refine QM (by conv=>lhs;simp[-List.map_set,QV]) ?_
  refine QN ?_
  repeat (first|refine QG ?_|refine QX (r:=by conv=>lhs;simp[-List.map_set,QV]) (k:=?_))
  exact done_pure hwf rfl rfl

theorem IndexS_v (l : List (Ss.Sig)) (p : Ss.Sig → Bool) (fid : FuncId) (caps : List V) (hc : callable Try.prog fid = true) (hl : l.length < 2^63) (h : ∀ x ∈ l, VPure Try.prog fid ([encSig x] ++ caps) (.bool (p x))) :
    VPure Try.prog 70 [vl (encSig) l, .func fid caps] (vint (findI p l 0)) := by
  intro S
  refine vcalls_start (c := bodyOf Try.f70) Try.func70 rfl rfl (by simp [Try.ntmps70]) ?_
  rw [Try.ntmps70]
  intro hwf
  repeat (first|refine QG ?_|refine QX (r:=by conv=>lhs;simp[-List.map_set,QV]) (k:=?_))
  repeat refine QS ?_
  refine vw_loopAt [0, 1, 7, 8] rfl (fun c σ S' => ∃ (k : Nat), k ≤ l.length ∧ c = l.length - k ∧ findI p (l.drop k) k = findI p l 0 ∧ σ = [(0, vl (encSig) l), (1, .func fid caps), (7, vnat l.length), (8, vnat k)] ∧ S' = St S [] []) l.length ?_ ?_
  · exact ⟨0, by omega, rfl, rfl, by simp [Fr.only], rfl⟩
  · rintro c σ T ⟨k, hk, rfl, hd, rfl, rfl⟩
    by_cases hkt : k < l.length
    · have hst : findI p (l.drop k) k = if p l[k] then (k : Int) else findI p (l.drop (k + 1)) (k + 1) := by rw [List.drop_eq_getElem_cons hkt, findI]
      have hw := wrapNat hkt hl
      repeat (first|refine QG ?_|refine QX (r:=by conv=>lhs;simp[-List.map_set,QV,hkt]) (k:=?_))
      repeat refine QS ?_
      refine QR (r:=by conv=>lhs;simp[-List.map_set,QV,hkt]) (k:=?_)
      refine vcallv_use rfl hc rfl (h _ (List.getElem_mem hkt)) ?_
      refine QM (by conv=>lhs;simp[-List.map_set,QV]) ?_
      refine QN ?_
      cases hp : p l[k] with
      | true =>
        rw [hp] at hst
        repeat (first|refine QG ?_|refine QX (r:=by conv=>lhs;simp[-List.map_set,QV,hp]) (k:=?_))
        exact done_pure hwf (by rw [← hd, hst]; rfl) rfl
      | false =>
        rw [hp] at hst
        repeat (first|refine QG ?_|refine QX (r:=by conv=>lhs;simp[-List.map_set,QV,hp]) (k:=?_))
        show Again _ _ _ _ _ _ _
        exact again ⟨Nat.sub_lt_sub_left hkt (Nat.lt_succ_self k), k + 1, hkt, rfl, by rw [← hd, hst]; rfl, by simp [Fr.only, hw], rfl⟩
    · have e : l.drop k = [] := by rw [List.drop_eq_nil_iff]; omega
      rw [e] at hd
      repeat (first|refine QG ?_|refine QX (r:=by conv=>lhs;simp[-List.map_set,QV,hkt]) (k:=?_))
      exact done_pure hwf (by rw [← hd]; rfl) rfl

theorem AnyS_v (l : List (Ss.Sig)) (p : Ss.Sig → Bool) (fid : FuncId) (caps : List V) (hc : callable Try.prog fid = true) (hl : l.length < 2^63) (h : ∀ x ∈ l, VPure Try.prog fid ([encSig x] ++ caps) (.bool (p x))) :
    VPure Try.prog 51 [vl (encSig) l, .func fid caps] (.bool (l.any p)) := by
  intro S
  refine vcalls_start (c := bodyOf Try.f51) Try.func51 rfl rfl (by simp [Try.ntmps51]) ?_
  rw [Try.ntmps51]
  intro hwf
  rw [← findI_any p l 0]
  repeat (first|refine QG ?_|refine QX (r:=by conv=>lhs;simp[-List.map_set,QV]) (k:=?_))
  repeat refine QS ?_
  refine QR (r:=by conv=>lhs;simp[-List.map_set,QV]) (k:=?_)
  refine vcall_use rfl (IndexS_v l p fid caps hc hl h) ?_
  refine QM (by conv=>lhs;simp[-List.map_set,QV]) ?_
  refine QN ?_
  repeat (first|refine QG ?_|refine QX (r:=by conv=>lhs;simp[-List.map_set,QV]) (k:=?_))
  exact done_pure hwf rfl rfl

theorem IndexN_v (l : List (Ss.Ins)) (p : Ss.Ins → Bool) (fid : FuncId) (caps : List V) (hc : callable Try.prog fid = true) (hl : l.length < 2^63) (h : ∀ x ∈ l, VPure Try.prog fid ([encIns x] ++ caps) (.bool (p x))) :
    VPure Try.prog 89 [vl (encIns) l, .func fid caps] (vint (findI p l 0)) := by
  intro S
  refine vcalls_start (c := bodyOf Try.f89) Try.func89 rfl rfl (by simp [Try.ntmps89]) ?_
  rw [Try.ntmps89]
  intro hwf
  repeat (first|refine QG ?_|refine QX (r:=by conv=>lhs;simp[-List.map_set,QV]) (k:=?_))
  repeat refine QS ?_
  refine vw_loopAt [0, 1, 7, 8] rfl (fun c σ S' => ∃ (k : Nat), k ≤ l.length ∧ c = l.length - k ∧ findI p (l.drop k) k = findI p l 0 ∧ σ = [(0, vl (encIns) l), (1, .func fid caps), (7, vnat l.length), (8, vnat k)] ∧ S' = St S [] []) l.length ?_ ?_
  · exact ⟨0, by omega, rfl, rfl, by simp [Fr.only], rfl⟩
  · rintro c σ T ⟨k, hk, rfl, hd, rfl, rfl⟩
    by_cases hkt : k < l.length
    · have hst : findI p (l.drop k) k = if p l[k] then (k : Int) else findI p (l.drop (k + 1)) (k + 1) := by rw [List.drop_eq_getElem_cons hkt, findI]
      have hw := wrapNat hkt hl
      repeat (first|refine QG ?_|refine QX (r:=by conv=>lhs;simp[-List.map_set,QV,hkt]) (k:=?_))
      repeat refine QS ?_
      refine QR (r:=by conv=>lhs;simp[-List.map_set,QV,hkt]) (k:=?_)
      refine vcallv_use rfl hc rfl (h _ (List.getElem_mem hkt)) ?_
      refine QM (by conv=>lhs;simp[-List.map_set,QV]) ?_
      refine QN ?_
      cases hp : p l[k] with
      | true =>
        rw [hp] at hst
        repeat (first|refine QG ?_|refine QX (r:=by conv=>lhs;simp[-List.map_set,QV,hp]) (k:=?_))
        exact done_pure hwf (by rw [← hd, hst]; rfl) rfl
      | false =>
        rw [hp] at hst
        repeat (first|refine QG ?_|refine QX (r:=by conv=>lhs;simp[-List.map_set,QV,hp]) (k:=?_))
        show Again _ _ _ _ _ _ _
        exact again ⟨Nat.sub_lt_sub_left hkt (Nat.lt_succ_self k), k + 1, hkt, rfl, by rw [← hd, hst]; rfl, by simp [Fr.only, hw], rfl⟩
    · have e : l.drop k = [] := by rw [List.drop_eq_nil_iff]; omega
      rw [e] at hd
      repeat (first|refine QG ?_|refine QX (r:=by conv=>lhs;simp[-List.map_set,QV,hkt]) (k:=?_))
      exact done_pure hwf (by rw [← hd]; rfl) rfl

theorem AnyN_v (l : List (Ss.Ins)) (p : Ss.Ins → Bool) (fid : FuncId) (caps : List V) (hc : callable Try.prog fid = true) (hl : l.length < 2^63) (h : ∀ x ∈ l, VPure Try.prog fid ([encIns x] ++ caps) (.bool (p x))) :
    VPure Try.prog 75 [vl (encIns) l, .func fid caps] (.bool (l.any p)) := by
  intro S
  refine vcalls_start (c := bodyOf Try.f75) Try.func75 rfl rfl (by simp [Try.ntmps75]) ?_
  rw [Try.ntmps75]
  intro hwf
  rw [← findI_any p l 0]
  repeat (first|refine QG ?_|refine QX (r:=by conv=>lhs;simp[-List.map_set,QV]) (k:=?_))
  repeat refine QS ?_
  refine QR (r:=by conv=>lhs;simp[-List.map_set,QV]) (k:=?_)
  refine vcall_use rfl (IndexN_v l p fid caps hc hl h) ?_
  refine QM (by conv=>lhs;simp[-List.map_set,QV]) ?_
  refine QN ?_
  repeat (first|refine QG ?_|refine QX (r:=by conv=>lhs;simp[-List.map_set,QV]) (k:=?_))
  exact done_pure hwf rfl rfl

end Go.Vw
