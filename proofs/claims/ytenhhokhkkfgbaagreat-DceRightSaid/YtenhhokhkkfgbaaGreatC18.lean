import Derived.Test.YtenhhokhkkfgbaaGreatC12
import Derived.Test.YtenhhokhkkfgbaaGreatC13
import Derived.Test.YtenhhokhkkfgbaaGreatC16
import Derived.Test.YtenhhokhkkfgbaaGreatC17
import Derived.Test.YtenhhokhkkfgbaaGreatProg
/-
  Part of the proof (texts GAll, SRingP, SIdx).
-/
set_option linter.unusedVariables false
set_option linter.unusedSimpArgs false
namespace Go.Vw
open Go.Proofs Go.RowKit
set_option maxRecDepth 10000
set_option maxHeartbeats 8000000
namespace G
def ordI (g : List (List Int)) : List Nat := if right g then order (nats g) else []
def fromI (g : List (List Int)) : List (List Nat) := if right g then froms (nats g) else []
def err (g : List (List Int)) : Int := if right g then 0 else 1
end G
def Fits (g : List (List Int)) : Prop := g.length < 2^63 ∧ ∀ l ∈ g, l.length < 2^63
theorem right_nats (g : List (List Int)) (h : Fits g) (hr : G.right g = true) : VPure Tryz.prog 118 [vl (vl vnat) (G.nats g)] (.bool true) := by
 have := Right_v g h.1 h.2
 rw [hr, G.right_enc hr] at this
 exact this
theorem OrderAll_v (g : List (List Int)) (h : Fits g) : VPure Tryz.prog 100 [vl (vl vint) g] (.tuple [vl vnat (G.ordI g), vint (G.err g)]) := by
 intro S
 cases hr : G.right g with
 | false =>
  simp only [G.ordI, G.err, hr]
  refine vcalls_start (c := bodyOf Tryz.f100) Tryz.func100 rfl rfl (by simp [Tryz.ntmps100]) ?_
  rw [Tryz.ntmps100]
  intro hwf
  repeat (first|refine QG ?_|refine QX (r:=by conv=>lhs;simp[-List.map_set,QV]) (k:=?_))
  repeat refine QS ?_
  refine QR (r:=by conv=>lhs;simp[-List.map_set,QV]) (k:=?_)
  refine vcall_use rfl (Right_v g h.1 h.2) ?_
  refine QM (by conv=>lhs;simp[-List.map_set,QV,hr]) ?_
  refine QN ?_
  repeat (first|refine QG ?_|refine QX (r:=by conv=>lhs;simp[-List.map_set,QV]) (k:=?_))
  exact done_via (l := []) hwf ((Ghost.tuple [] [vint 1] (Ghost.nils_list _)).toB _) rfl
 | true =>
  simp only [G.ordI, G.err, hr, if_true]
  rw [G.right_enc hr]
  have hg := G.right_ok hr
  generalize hgn : G.nats g = gn at hg
  have hrn := right_nats g h hr
  rw [hgn] at hrn
  refine vcalls_start (c := bodyOf Tryz.f100) Tryz.func100 rfl rfl (by simp [Tryz.ntmps100]) ?_
  rw [Tryz.ntmps100]
  intro hwf
  repeat (first|refine QG ?_|refine QX (r:=by conv=>lhs;simp[-List.map_set,QV]) (k:=?_))
  repeat refine QS ?_
  refine QR (r:=by conv=>lhs;simp[-List.map_set,QV]) (k:=?_)
  refine vcall_use rfl (hrn) ?_
  refine QM (by conv=>lhs;simp[-List.map_set,QV]) ?_
  refine QN ?_
  repeat (first|refine QG ?_|refine QX (r:=by conv=>lhs;simp[-List.map_set,QV]) (k:=?_))
  repeat refine QS ?_
  refine QR (r:=by conv=>lhs;simp[-List.map_set,QV]) (k:=?_)
  refine vcall_use rfl (gOrd_v gn hg) ?_
  refine QM (by conv=>lhs;simp[-List.map_set,QV]) ?_
  refine QN ?_
  repeat (first|refine QG ?_|refine QX (r:=by conv=>lhs;simp[-List.map_set,QV]) (k:=?_))
  exact done_pure hwf rfl rfl
theorem ordI_len (g : List (List Int)) : (G.ordI g).length ≤ 256 := by
 simp only [G.ordI]
 split
 ·rename_i h
  have hg := G.right_ok h
  obtain ⟨t, h1, h2, h3⟩ := G.order_ends hg
  have := hg.max
  simp [G.order, h1]; omega
 ·simp
theorem pushAll_row : ∀ (es : List (Nat × Nat)) (rows : List (List Nat)) (r : List Nat), r ∈ G.pushAll rows es → r.length ≤ G.total rows + es.length
 | [], rows, r, h => by
  have h : r ∈ rows := h
  obtain ⟨i, hi, rfl⟩ := List.getElem_of_mem h
  have := G.row_le_total rows i
  have hi' : i < rows.length := hi
  have e : rows.getD i [] = rows[i] := by simp [hi']
  rw [e] at this
  simpa using this
 | e :: es, rows, r, h => by
  have := pushAll_row es (G.push rows e.1 e.2) r h
  by_cases hk : e.1 < rows.length
  ·have k := G.total_push (rows := rows) (k := e.1) (i := e.2) hk
   simp; omega
  ·have k : G.push rows e.1 e.2 = rows := by simp only [G.push]; exact List.set_eq_of_length_le (by omega)
   rw [k] at this
   simp; omega
namespace G
def nearI (g : List (List Int)) : List Int := if right g then rNear (nats g) else []
theorem nearI_len (g : List (List Int)) : (nearI g).length ≤ 256 := by
 simp only [nearI]
 split
 ·rename_i h
  have := (right_ok h).max
  simp [rNear]; exact this
 ·simp
end G
theorem NearestAll_v (g : List (List Int)) (h : Fits g) : VPure Tryz.prog 102 [vl (vl vint) g] (.tuple [vl vint (G.nearI g), vint (G.err g)]) := by
 cases hr : G.right g with
 | false =>
  simp only [G.nearI, G.err, hr]
  exact NearestErr_v g h.1 h.2 hr
 | true =>
  simp only [G.nearI, G.err, hr, if_true]
  rw [G.right_enc hr]
  have hg := G.right_ok hr
  have ho := G.order_ok hg
  obtain ⟨F, K, nearF, h1, h2⟩ := G.chk_ends hg
  rw [G.near_eq hg h2]
  refine Nearest_v (G.nats g) hg (right_nats g h hr) (G.order (G.nats g)) rfl ?_ ho.lt (G.froms (G.nats g)) rfl (G.froms_length _) (fun r hr x hx => ?_) (fun r hr => ?_) ?_ F K nearF h1
  ·obtain ⟨r, e⟩ := ho.head; rw [e]; simp
  ·obtain ⟨i, hi, rfl⟩ := List.getElem_of_mem hr
   have hig : i < (G.nats g).length := by rw [G.froms_length] at hi; exact hi
   have := (G.mem_froms hg i x hig).1 (by simpa [hi] using hx)
   exact this.1
  ·have k1 := pushAll_row _ _ r hr
   have k2 := G.edges_len hg.row 0
   have k3 := hg.max
   rw [G.total_rep] at k1
   omega
  ·obtain ⟨t, k1, k2, k3⟩ := G.order_ends hg
   simp [G.order, k1]; exact k2
end Go.Vw

/-
 Circles of blocks, by a walk in depth: the walk ends.
-/
namespace Ss
def tickB (b : Block) : Bool := b.code.any fun x => decide (x.op = 258)
mutual
def ringW (tick : List Bool) (g : List (List Nat)) : Nat → Nat → List Nat → Option (Bool × List Nat)
 | 0, _, _ => none
 | fuel + 1, n, st => if tick.getD n false then some (false, st) else
   match ringL tick g fuel (g.getD n []) (st.set n 1) with
   | some (true, s) => some (true, s)
   | some (false, s) => some (false, s.set n 2)
   | none => none
 termination_by fuel _ _ => (fuel, 0)
def ringL (tick : List Bool) (g : List (List Nat)) : Nat → List Nat → List Nat → Option (Bool × List Nat)
 | _, [], st => some (false, st)
 | fuel, k :: ks, st => if st.getD k 0 = 1 then some (true, st) else if st.getD k 0 = 0 then
   match ringW tick g fuel k st with
   | some (true, s) => some (true, s)
   | some (false, s) => ringL tick g fuel ks s
   | none => none
  else ringL tick g fuel ks st
 termination_by fuel ks _ => (fuel, ks.length + 1)
end
def ringM (tick : List Bool) (g : List (List Nat)) (fuel : Nat) : List Nat → List Nat → Option Bool
 | [], _ => some false
 | n :: ns, st => if st.getD n 0 = 0 then
   match ringW tick g fuel n st with
   | some (true, _) => some true
   | some (false, s) => ringM tick g fuel ns s
   | none => none
  else ringM tick g fuel ns st
def zeros (st : List Nat) : Nat := (st.filter fun x => decide (x = 0)).length
theorem zeros_set (v : Nat) : ∀ (st : List Nat) (n : Nat), v ≠ 0 → zeros (st.set n v) ≤ zeros st ∧ (n < st.length → st.getD n 1 = 0 → zeros (st.set n v) + 1 = zeros st)
 | [], n, _ => by simp [zeros]
 | x :: st, 0, hv => by
  have e : zeros ((x :: st).set 0 v) = zeros st := by simp [zeros, hv]
  rw [e]
  refine ⟨?_, fun _ h => ?_⟩
  ·simp only [zeros, List.filter_cons]
   split <;> simp
  ·simp at h; subst h; simp [zeros]
 | x :: st, n + 1, hv => by
  obtain ⟨h1, h2⟩ := zeros_set v st n hv
  simp only [zeros, List.set_cons_succ, List.filter_cons] at h1 h2 ⊢
  split
  ·simp only [List.length_cons]
   refine ⟨by omega, fun h3 h4 => ?_⟩
   have := h2 (by simpa using h3) (by simpa using h4)
   omega
  ·exact ⟨h1, fun h3 h4 => h2 (by simpa using h3) (by simpa using h4)⟩
theorem zeros_le (st : List Nat) : zeros st ≤ st.length := List.length_filter_le _ _
section
variable {tick : List Bool} {g : List (List Nat)}
theorem ringL_ends {N fuel : Nat} (hg : ∀ n, ∀ k ∈ g.getD n [], k < N)
  (ih : ∀ n st, n < N → st.length = N → st.getD n 0 = 0 → zeros st < fuel → ∃ r s, ringW tick g fuel n st = some (r, s) ∧ zeros s ≤ zeros st ∧ s.length = st.length) :
  ∀ (ks st : List Nat), (∀ k ∈ ks, k < N) → st.length = N → zeros st < fuel → ∃ r s, ringL tick g fuel ks st = some (r, s) ∧ zeros s ≤ zeros st ∧ s.length = st.length
 | [], st, _, _, _ => ⟨false, st, by rw [ringL], Nat.le_refl _, rfl⟩
 | k :: ks, st, hk, hl, hz => by
  rw [ringL]
  split
  ·exact ⟨true, st, rfl, Nat.le_refl _, rfl⟩
  ·split
   ·rename_i h0
    obtain ⟨r, s, h1, h2, h3⟩ := ih k st (hk k (by simp)) hl h0 hz
    rw [h1]
    cases r with
    | true => exact ⟨true, s, rfl, h2, h3⟩
    | false =>
     obtain ⟨r', s', k1, k2, k3⟩ := ringL_ends hg ih ks s (fun x hx => hk x (by simp [hx])) (by omega) (by omega)
     exact ⟨r', s', k1, by omega, by omega⟩
   ·exact ringL_ends hg ih ks st (fun x hx => hk x (by simp [hx])) hl hz
theorem ringW_ends {N : Nat} (hg : ∀ n, ∀ k ∈ g.getD n [], k < N) : ∀ (fuel n : Nat) (st : List Nat), n < N → st.length = N → st.getD n 0 = 0 → zeros st < fuel → ∃ r s, ringW tick g fuel n st = some (r, s) ∧ zeros s ≤ zeros st ∧ s.length = st.length
 | 0, _, _, _, _, _, hz => by omega
 | fuel + 1, n, st, hn, hl, h0, hz => by
  rw [ringW]
  split
  ·exact ⟨false, st, rfl, Nat.le_refl _, rfl⟩
  ·have hz1 := (zeros_set 1 st n (by decide)).2 (by omega) (by
    rw [List.getD_eq_getElem?_getD, List.getElem?_eq_getElem (by omega)] at h0 ⊢
    exact h0)
   obtain ⟨r, s, h1, h2, h3⟩ := ringL_ends hg (fun n st => ringW_ends hg fuel n st) (g.getD n []) (st.set n 1) (hg n) (by simp; omega) (by omega)
   rw [h1]
   have h3' : s.length = st.length := by rw [h3]; simp
   cases r with
   | true => exact ⟨true, s, rfl, by omega, h3'⟩
   | false =>
    have := (zeros_set 2 s n (by decide)).1
    exact ⟨false, s.set n 2, rfl, by omega, by simp [h3']⟩
theorem ringM_ends {N fuel : Nat} (hg : ∀ n, ∀ k ∈ g.getD n [], k < N) (hf : N < fuel) : ∀ (ns st : List Nat), (∀ n ∈ ns, n < N) → st.length = N → ∃ r, ringM tick g fuel ns st = some r
 | [], _, _, _ => ⟨false, rfl⟩
 | n :: ns, st, hn, hl => by
  simp only [ringM]
  split
  ·rename_i h0
   obtain ⟨r, s, h1, h2, h3⟩ := ringW_ends (tick := tick) hg fuel n st (hn n (by simp)) hl h0 (by have := zeros_le st; omega)
   rw [h1]
   cases r with
   | true => exact ⟨true, rfl⟩
   | false => exact ringM_ends hg hf ns s (fun x hx => hn x (by simp [hx])) (by omega)
  ·exact ringM_ends hg hf ns st (fun x hx => hn x (by simp [hx])) hl
theorem ringL_len {fuel : Nat} (ih : ∀ n st r s, ringW tick g fuel n st = some (r, s) → s.length = st.length) : ∀ (ks st : List Nat) (r : Bool) (s : List Nat), ringL tick g fuel ks st = some (r, s) → s.length = st.length
 | [], st, r, s, h => by rw [ringL] at h; cases h; rfl
 | k :: ks, st, r, s, h => by
  rw [ringL] at h
  split at h
  ·cases h; rfl
  ·split at h
   ·cases hw : ringW tick g fuel k st with
    | none => rw [hw] at h; cases h
    | some p =>
     obtain ⟨b, s1⟩ := p
     rw [hw] at h
     have e1 := ih k st b s1 hw
     cases b with
     | true => cases h; exact e1
     | false => exact (ringL_len ih ks s1 r s h).trans e1
   ·exact ringL_len ih ks st r s h
theorem ringW_len : ∀ (fuel n : Nat) (st : List Nat) (r : Bool) (s : List Nat), ringW tick g fuel n st = some (r, s) → s.length = st.length
 | 0, _, _, _, _, h => by rw [ringW] at h; cases h
 | fuel + 1, n, st, r, s, h => by
  rw [ringW] at h
  split at h
  ·cases h; rfl
  ·cases hl : ringL tick g fuel (g.getD n []) (st.set n 1) with
   | none => rw [hl] at h; cases h
   | some p =>
    obtain ⟨b, s1⟩ := p
    rw [hl] at h
    have e1 := ringL_len (ringW_len fuel) _ _ _ _ hl
    cases b with
    | true => cases h; simpa using e1
    | false => cases h; simpa using e1
end
def rings (bs : List Block) (g : List (List Nat)) : Bool := (ringM (bs.map tickB) g (g.length + 1) (List.range g.length) (List.replicate g.length 0)).getD false
end Ss

namespace Go.Vw
open Go.Proofs Go.RowKit
set_option maxRecDepth 10000
set_option maxHeartbeats 4000000
def findI {α : Type} (p : α → Bool) : List α → Nat → Int
 | [], _ => -1
 | x :: xs, k => if p x then (k : Int) else findI p xs (k + 1)
theorem findI_any {α : Type} (p : α → Bool) : ∀ (l : List α) (k : Nat), decide (0 ≤ findI p l k) = l.any p
 | [], k => by simp [findI]
 | x :: xs, k => by
   cases h : p x
   ·simp [findI, h, findI_any p xs (k + 1)]
   ·simp [findI, h]
def eqF {α : Type} (p : α → α → Bool) : List α → List α → Bool
 | [], [] => true
 | x :: xs, y :: ys => p x y && eqF p xs ys
 | _, _ => false
theorem eqF_len {α : Type} {p : α → α → Bool} : ∀ {l m : List α}, ¬ l.length = m.length → eqF p l m = false
 | [], [], h => absurd rfl h
 | [], _ :: _, _ => rfl
 | _ :: _, [], _ => rfl
 | x :: xs, y :: ys, h => by rw [eqF, eqF_len (l := xs) (m := ys) (by simpa using h)]; simp
theorem eqF_eq {α : Type} [DecidableEq α] {p : α → α → Bool} (hp : ∀ x y, p x y = decide (x = y)) : ∀ (l m : List α), eqF p l m = decide (l = m)
 | [], [] => by simp [eqF]
 | [], _ :: _ => by simp [eqF]
 | _ :: _, [] => by simp [eqF]
 | x :: xs, y :: ys => by rw [eqF, hp, eqF_eq hp xs ys]; simp
theorem IndexL_v (l : List (List Int)) (p : List Int → Bool) (fid : FuncId) (caps : List V) (hc : callable Tryz.prog fid = true) (hl : l.length < 2^63) (h : ∀ x ∈ l, VPure Tryz.prog fid ([vl vint x] ++ caps) (.bool (p x))) :
  VPure Tryz.prog 135 [vl (vl vint) l, .func fid caps] (vint (findI p l 0)) := by
 intro S
 refine vcalls_start (c := bodyOf Tryz.f135) Tryz.func135 rfl rfl (by simp [Tryz.ntmps135]) ?_
 rw [Tryz.ntmps135]
 intro hwf
 repeat (first|refine QG ?_|refine QX (r:=by conv=>lhs;simp[-List.map_set,QV]) (k:=?_))
 repeat refine QS ?_
 refine vw_loopAt [0, 1, 7, 8] rfl (fun c σ S' => ∃ (k : Nat), k ≤ l.length ∧ c = l.length - k ∧ findI p (l.drop k) k = findI p l 0 ∧ σ = [(0, vl (vl vint) l), (1, .func fid caps), (7, vnat l.length), (8, vnat k)] ∧ S' = St S [] []) l.length ?_ ?_
 ·exact ⟨0, by omega, rfl, rfl, by simp [Fr.only], rfl⟩
 ·rintro c σ T ⟨k, hk, rfl, hd, rfl, rfl⟩
  by_cases hkt : k < l.length
  ·have hst : findI p (l.drop k) k = if p l[k] then (k : Int) else findI p (l.drop (k + 1)) (k + 1) := by rw [List.drop_eq_getElem_cons hkt, findI]
   have hw := wrapNat hkt hl
   repeat (first|refine QG ?_|refine QX (r:=by conv=>lhs;simp[-List.map_set,QV,hkt]) (k:=?_))
   repeat refine QS ?_
   refine QR (r:=by conv=>lhs;simp[-List.map_set,QV,hkt]) (k:=?_)
   refine vcallv_use rfl hc rfl (h _ (List.getElem_mem hkt)) ?_
   refine QM (by conv=>lhs;simp[-List.map_set,QV]) ?_
   refine QN ?_
   cases hp : p l[k] with
   | true =>
    rw [hp] at hst
    repeat (first|refine QG ?_|refine QX (r:=by conv=>lhs;simp[-List.map_set,QV,hp]) (k:=?_))
    exact done_pure hwf (by rw [← hd, hst]; rfl) rfl
   | false =>
    rw [hp] at hst
    repeat (first|refine QG ?_|refine QX (r:=by conv=>lhs;simp[-List.map_set,QV,hp]) (k:=?_))
    show Again _ _ _ _ _ _ _
    exact again ⟨Nat.sub_lt_sub_left hkt (Nat.lt_succ_self k), k + 1, hkt, rfl, by rw [← hd, hst]; rfl, by simp [Fr.only, hw], rfl⟩
  ·have e : l.drop k = [] := by rw [List.drop_eq_nil_iff]; omega
   rw [e] at hd
   repeat (first|refine QG ?_|refine QX (r:=by conv=>lhs;simp[-List.map_set,QV,hkt]) (k:=?_))
   exact done_pure hwf (by rw [← hd]; rfl) rfl
theorem AnyL_v (l : List (List Int)) (p : List Int → Bool) (fid : FuncId) (caps : List V) (hc : callable Tryz.prog fid = true) (hl : l.length < 2^63) (h : ∀ x ∈ l, VPure Tryz.prog fid ([vl vint x] ++ caps) (.bool (p x))) :
  VPure Tryz.prog 116 [vl (vl vint) l, .func fid caps] (.bool (l.any p)) := by
 intro S
 refine vcalls_start (c := bodyOf Tryz.f116) Tryz.func116 rfl rfl (by simp [Tryz.ntmps116]) ?_
 rw [Tryz.ntmps116]
 intro hwf
 rw [← findI_any p l 0]
 repeat (first|refine QG ?_|refine QX (r:=by conv=>lhs;simp[-List.map_set,QV]) (k:=?_))
 repeat refine QS ?_
 refine QR (r:=by conv=>lhs;simp[-List.map_set,QV]) (k:=?_)
 refine vcall_use rfl (IndexL_v l p fid caps hc hl h) ?_
 refine QM (by conv=>lhs;simp[-List.map_set,QV]) ?_
 refine QN ?_
 repeat (first|refine QG ?_|refine QX (r:=by conv=>lhs;simp[-List.map_set,QV]) (k:=?_))
 exact done_pure hwf rfl rfl
theorem IndexI_v (l : List (Int)) (p : Int → Bool) (fid : FuncId) (caps : List V) (hc : callable Tryz.prog fid = true) (hl : l.length < 2^63) (h : ∀ x ∈ l, VPure Tryz.prog fid ([vint x] ++ caps) (.bool (p x))) :
  VPure Tryz.prog 74 [vl (vint) l, .func fid caps] (vint (findI p l 0)) := by
 intro S
 refine vcalls_start (c := bodyOf Tryz.f74) Tryz.func74 rfl rfl (by simp [Tryz.ntmps74]) ?_
 rw [Tryz.ntmps74]
 intro hwf
 repeat (first|refine QG ?_|refine QX (r:=by conv=>lhs;simp[-List.map_set,QV]) (k:=?_))
 repeat refine QS ?_
 refine vw_loopAt [0, 1, 7, 8] rfl (fun c σ S' => ∃ (k : Nat), k ≤ l.length ∧ c = l.length - k ∧ findI p (l.drop k) k = findI p l 0 ∧ σ = [(0, vl (vint) l), (1, .func fid caps), (7, vnat l.length), (8, vnat k)] ∧ S' = St S [] []) l.length ?_ ?_
 ·exact ⟨0, by omega, rfl, rfl, by simp [Fr.only], rfl⟩
 ·rintro c σ T ⟨k, hk, rfl, hd, rfl, rfl⟩
  by_cases hkt : k < l.length
  ·have hst : findI p (l.drop k) k = if p l[k] then (k : Int) else findI p (l.drop (k + 1)) (k + 1) := by rw [List.drop_eq_getElem_cons hkt, findI]
   have hw := wrapNat hkt hl
   repeat (first|refine QG ?_|refine QX (r:=by conv=>lhs;simp[-List.map_set,QV,hkt]) (k:=?_))
   repeat refine QS ?_
   refine QR (r:=by conv=>lhs;simp[-List.map_set,QV,hkt]) (k:=?_)
   refine vcallv_use rfl hc rfl (h _ (List.getElem_mem hkt)) ?_
   refine QM (by conv=>lhs;simp[-List.map_set,QV]) ?_
   refine QN ?_
   cases hp : p l[k] with
   | true =>
    rw [hp] at hst
    repeat (first|refine QG ?_|refine QX (r:=by conv=>lhs;simp[-List.map_set,QV,hp]) (k:=?_))
    exact done_pure hwf (by rw [← hd, hst]; rfl) rfl
   | false =>
    rw [hp] at hst
    repeat (first|refine QG ?_|refine QX (r:=by conv=>lhs;simp[-List.map_set,QV,hp]) (k:=?_))
    show Again _ _ _ _ _ _ _
    exact again ⟨Nat.sub_lt_sub_left hkt (Nat.lt_succ_self k), k + 1, hkt, rfl, by rw [← hd, hst]; rfl, by simp [Fr.only, hw], rfl⟩
  ·have e : l.drop k = [] := by rw [List.drop_eq_nil_iff]; omega
   rw [e] at hd
   repeat (first|refine QG ?_|refine QX (r:=by conv=>lhs;simp[-List.map_set,QV,hkt]) (k:=?_))
   exact done_pure hwf (by rw [← hd]; rfl) rfl
theorem AnyI_v (l : List (Int)) (p : Int → Bool) (fid : FuncId) (caps : List V) (hc : callable Tryz.prog fid = true) (hl : l.length < 2^63) (h : ∀ x ∈ l, VPure Tryz.prog fid ([vint x] ++ caps) (.bool (p x))) :
  VPure Tryz.prog 94 [vl (vint) l, .func fid caps] (.bool (l.any p)) := by
 intro S
 refine vcalls_start (c := bodyOf Tryz.f94) Tryz.func94 rfl rfl (by simp [Tryz.ntmps94]) ?_
 rw [Tryz.ntmps94]
 intro hwf
 rw [← findI_any p l 0]
 repeat (first|refine QG ?_|refine QX (r:=by conv=>lhs;simp[-List.map_set,QV]) (k:=?_))
 repeat refine QS ?_
 refine QR (r:=by conv=>lhs;simp[-List.map_set,QV]) (k:=?_)
 refine vcall_use rfl (IndexI_v l p fid caps hc hl h) ?_
 refine QM (by conv=>lhs;simp[-List.map_set,QV]) ?_
 refine QN ?_
 repeat (first|refine QG ?_|refine QX (r:=by conv=>lhs;simp[-List.map_set,QV]) (k:=?_))
 exact done_pure hwf rfl rfl
theorem IndexB_v (l : List (Ss.Block)) (p : Ss.Block → Bool) (fid : FuncId) (caps : List V) (hc : callable Tryz.prog fid = true) (hl : l.length < 2^63) (h : ∀ x ∈ l, VPure Tryz.prog fid ([encBlock x] ++ caps) (.bool (p x))) :
  VPure Tryz.prog 97 [vl (encBlock) l, .func fid caps] (vint (findI p l 0)) := by
 intro S
 refine vcalls_start (c := bodyOf Tryz.f97) Tryz.func97 rfl rfl (by simp [Tryz.ntmps97]) ?_
 rw [Tryz.ntmps97]
 intro hwf
 repeat (first|refine QG ?_|refine QX (r:=by conv=>lhs;simp[-List.map_set,QV]) (k:=?_))
 repeat refine QS ?_
 refine vw_loopAt [0, 1, 7, 8] rfl (fun c σ S' => ∃ (k : Nat), k ≤ l.length ∧ c = l.length - k ∧ findI p (l.drop k) k = findI p l 0 ∧ σ = [(0, vl (encBlock) l), (1, .func fid caps), (7, vnat l.length), (8, vnat k)] ∧ S' = St S [] []) l.length ?_ ?_
 ·exact ⟨0, by omega, rfl, rfl, by simp [Fr.only], rfl⟩
 ·rintro c σ T ⟨k, hk, rfl, hd, rfl, rfl⟩
  by_cases hkt : k < l.length
  ·have hst : findI p (l.drop k) k = if p l[k] then (k : Int) else findI p (l.drop (k + 1)) (k + 1) := by rw [List.drop_eq_getElem_cons hkt, findI]
   have hw := wrapNat hkt hl
   repeat (first|refine QG ?_|refine QX (r:=by conv=>lhs;simp[-List.map_set,QV,hkt]) (k:=?_))
   repeat refine QS ?_
   refine QR (r:=by conv=>lhs;simp[-List.map_set,QV,hkt]) (k:=?_)
   refine vcallv_use rfl hc rfl (h _ (List.getElem_mem hkt)) ?_
   refine QM (by conv=>lhs;simp[-List.map_set,QV]) ?_
   refine QN ?_
   cases hp : p l[k] with
   | true =>
    rw [hp] at hst
    repeat (first|refine QG ?_|refine QX (r:=by conv=>lhs;simp[-List.map_set,QV,hp]) (k:=?_))
    exact done_pure hwf (by rw [← hd, hst]; rfl) rfl
   | false =>
    rw [hp] at hst
    repeat (first|refine QG ?_|refine QX (r:=by conv=>lhs;simp[-List.map_set,QV,hp]) (k:=?_))
    show Again _ _ _ _ _ _ _
    exact again ⟨Nat.sub_lt_sub_left hkt (Nat.lt_succ_self k), k + 1, hkt, rfl, by rw [← hd, hst]; rfl, by simp [Fr.only, hw], rfl⟩
  ·have e : l.drop k = [] := by rw [List.drop_eq_nil_iff]; omega
   rw [e] at hd
   repeat (first|refine QG ?_|refine QX (r:=by conv=>lhs;simp[-List.map_set,QV,hkt]) (k:=?_))
   exact done_pure hwf (by rw [← hd]; rfl) rfl
theorem AnyB_v (l : List (Ss.Block)) (p : Ss.Block → Bool) (fid : FuncId) (caps : List V) (hc : callable Tryz.prog fid = true) (hl : l.length < 2^63) (h : ∀ x ∈ l, VPure Tryz.prog fid ([encBlock x] ++ caps) (.bool (p x))) :
  VPure Tryz.prog 61 [vl (encBlock) l, .func fid caps] (.bool (l.any p)) := by
 intro S
 refine vcalls_start (c := bodyOf Tryz.f61) Tryz.func61 rfl rfl (by simp [Tryz.ntmps61]) ?_
 rw [Tryz.ntmps61]
 intro hwf
 rw [← findI_any p l 0]
 repeat (first|refine QG ?_|refine QX (r:=by conv=>lhs;simp[-List.map_set,QV]) (k:=?_))
 repeat refine QS ?_
 refine QR (r:=by conv=>lhs;simp[-List.map_set,QV]) (k:=?_)
 refine vcall_use rfl (IndexB_v l p fid caps hc hl h) ?_
 refine QM (by conv=>lhs;simp[-List.map_set,QV]) ?_
 refine QN ?_
 repeat (first|refine QG ?_|refine QX (r:=by conv=>lhs;simp[-List.map_set,QV]) (k:=?_))
 exact done_pure hwf rfl rfl
theorem IndexS_v (l : List (Ss.Sig)) (p : Ss.Sig → Bool) (fid : FuncId) (caps : List V) (hc : callable Tryz.prog fid = true) (hl : l.length < 2^63) (h : ∀ x ∈ l, VPure Tryz.prog fid ([encSig x] ++ caps) (.bool (p x))) :
  VPure Tryz.prog 115 [vl (encSig) l, .func fid caps] (vint (findI p l 0)) := by
 intro S
 refine vcalls_start (c := bodyOf Tryz.f115) Tryz.func115 rfl rfl (by simp [Tryz.ntmps115]) ?_
 rw [Tryz.ntmps115]
 intro hwf
 repeat (first|refine QG ?_|refine QX (r:=by conv=>lhs;simp[-List.map_set,QV]) (k:=?_))
 repeat refine QS ?_
 refine vw_loopAt [0, 1, 7, 8] rfl (fun c σ S' => ∃ (k : Nat), k ≤ l.length ∧ c = l.length - k ∧ findI p (l.drop k) k = findI p l 0 ∧ σ = [(0, vl (encSig) l), (1, .func fid caps), (7, vnat l.length), (8, vnat k)] ∧ S' = St S [] []) l.length ?_ ?_
 ·exact ⟨0, by omega, rfl, rfl, by simp [Fr.only], rfl⟩
 ·rintro c σ T ⟨k, hk, rfl, hd, rfl, rfl⟩
  by_cases hkt : k < l.length
  ·have hst : findI p (l.drop k) k = if p l[k] then (k : Int) else findI p (l.drop (k + 1)) (k + 1) := by rw [List.drop_eq_getElem_cons hkt, findI]
   have hw := wrapNat hkt hl
   repeat (first|refine QG ?_|refine QX (r:=by conv=>lhs;simp[-List.map_set,QV,hkt]) (k:=?_))
   repeat refine QS ?_
   refine QR (r:=by conv=>lhs;simp[-List.map_set,QV,hkt]) (k:=?_)
   refine vcallv_use rfl hc rfl (h _ (List.getElem_mem hkt)) ?_
   refine QM (by conv=>lhs;simp[-List.map_set,QV]) ?_
   refine QN ?_
   cases hp : p l[k] with
   | true =>
    rw [hp] at hst
    repeat (first|refine QG ?_|refine QX (r:=by conv=>lhs;simp[-List.map_set,QV,hp]) (k:=?_))
    exact done_pure hwf (by rw [← hd, hst]; rfl) rfl
   | false =>
    rw [hp] at hst
    repeat (first|refine QG ?_|refine QX (r:=by conv=>lhs;simp[-List.map_set,QV,hp]) (k:=?_))
    show Again _ _ _ _ _ _ _
    exact again ⟨Nat.sub_lt_sub_left hkt (Nat.lt_succ_self k), k + 1, hkt, rfl, by rw [← hd, hst]; rfl, by simp [Fr.only, hw], rfl⟩
  ·have e : l.drop k = [] := by rw [List.drop_eq_nil_iff]; omega
   rw [e] at hd
   repeat (first|refine QG ?_|refine QX (r:=by conv=>lhs;simp[-List.map_set,QV,hkt]) (k:=?_))
   exact done_pure hwf (by rw [← hd]; rfl) rfl
theorem AnyS_v (l : List (Ss.Sig)) (p : Ss.Sig → Bool) (fid : FuncId) (caps : List V) (hc : callable Tryz.prog fid = true) (hl : l.length < 2^63) (h : ∀ x ∈ l, VPure Tryz.prog fid ([encSig x] ++ caps) (.bool (p x))) :
  VPure Tryz.prog 91 [vl (encSig) l, .func fid caps] (.bool (l.any p)) := by
 intro S
 refine vcalls_start (c := bodyOf Tryz.f91) Tryz.func91 rfl rfl (by simp [Tryz.ntmps91]) ?_
 rw [Tryz.ntmps91]
 intro hwf
 rw [← findI_any p l 0]
 repeat (first|refine QG ?_|refine QX (r:=by conv=>lhs;simp[-List.map_set,QV]) (k:=?_))
 repeat refine QS ?_
 refine QR (r:=by conv=>lhs;simp[-List.map_set,QV]) (k:=?_)
 refine vcall_use rfl (IndexS_v l p fid caps hc hl h) ?_
 refine QM (by conv=>lhs;simp[-List.map_set,QV]) ?_
 refine QN ?_
 repeat (first|refine QG ?_|refine QX (r:=by conv=>lhs;simp[-List.map_set,QV]) (k:=?_))
 exact done_pure hwf rfl rfl
theorem IndexN_v (l : List (Ss.Ins)) (p : Ss.Ins → Bool) (fid : FuncId) (caps : List V) (hc : callable Tryz.prog fid = true) (hl : l.length < 2^63) (h : ∀ x ∈ l, VPure Tryz.prog fid ([encIns x] ++ caps) (.bool (p x))) :
  VPure Tryz.prog 72 [vl (encIns) l, .func fid caps] (vint (findI p l 0)) := by
 intro S
 refine vcalls_start (c := bodyOf Tryz.f72) Tryz.func72 rfl rfl (by simp [Tryz.ntmps72]) ?_
 rw [Tryz.ntmps72]
 intro hwf
 repeat (first|refine QG ?_|refine QX (r:=by conv=>lhs;simp[-List.map_set,QV]) (k:=?_))
 repeat refine QS ?_
 refine vw_loopAt [0, 1, 7, 8] rfl (fun c σ S' => ∃ (k : Nat), k ≤ l.length ∧ c = l.length - k ∧ findI p (l.drop k) k = findI p l 0 ∧ σ = [(0, vl (encIns) l), (1, .func fid caps), (7, vnat l.length), (8, vnat k)] ∧ S' = St S [] []) l.length ?_ ?_
 ·exact ⟨0, by omega, rfl, rfl, by simp [Fr.only], rfl⟩
 ·rintro c σ T ⟨k, hk, rfl, hd, rfl, rfl⟩
  by_cases hkt : k < l.length
  ·have hst : findI p (l.drop k) k = if p l[k] then (k : Int) else findI p (l.drop (k + 1)) (k + 1) := by rw [List.drop_eq_getElem_cons hkt, findI]
   have hw := wrapNat hkt hl
   repeat (first|refine QG ?_|refine QX (r:=by conv=>lhs;simp[-List.map_set,QV,hkt]) (k:=?_))
   repeat refine QS ?_
   refine QR (r:=by conv=>lhs;simp[-List.map_set,QV,hkt]) (k:=?_)
   refine vcallv_use rfl hc rfl (h _ (List.getElem_mem hkt)) ?_
   refine QM (by conv=>lhs;simp[-List.map_set,QV]) ?_
   refine QN ?_
   cases hp : p l[k] with
   | true =>
    rw [hp] at hst
    repeat (first|refine QG ?_|refine QX (r:=by conv=>lhs;simp[-List.map_set,QV,hp]) (k:=?_))
    exact done_pure hwf (by rw [← hd, hst]; rfl) rfl
   | false =>
    rw [hp] at hst
    repeat (first|refine QG ?_|refine QX (r:=by conv=>lhs;simp[-List.map_set,QV,hp]) (k:=?_))
    show Again _ _ _ _ _ _ _
    exact again ⟨Nat.sub_lt_sub_left hkt (Nat.lt_succ_self k), k + 1, hkt, rfl, by rw [← hd, hst]; rfl, by simp [Fr.only, hw], rfl⟩
  ·have e : l.drop k = [] := by rw [List.drop_eq_nil_iff]; omega
   rw [e] at hd
   repeat (first|refine QG ?_|refine QX (r:=by conv=>lhs;simp[-List.map_set,QV,hkt]) (k:=?_))
   exact done_pure hwf (by rw [← hd]; rfl) rfl
theorem AnyN_v (l : List (Ss.Ins)) (p : Ss.Ins → Bool) (fid : FuncId) (caps : List V) (hc : callable Tryz.prog fid = true) (hl : l.length < 2^63) (h : ∀ x ∈ l, VPure Tryz.prog fid ([encIns x] ++ caps) (.bool (p x))) :
  VPure Tryz.prog 121 [vl (encIns) l, .func fid caps] (.bool (l.any p)) := by
 intro S
 refine vcalls_start (c := bodyOf Tryz.f121) Tryz.func121 rfl rfl (by simp [Tryz.ntmps121]) ?_
 rw [Tryz.ntmps121]
 intro hwf
 rw [← findI_any p l 0]
 repeat (first|refine QG ?_|refine QX (r:=by conv=>lhs;simp[-List.map_set,QV]) (k:=?_))
 repeat refine QS ?_
 refine QR (r:=by conv=>lhs;simp[-List.map_set,QV]) (k:=?_)
 refine vcall_use rfl (IndexN_v l p fid caps hc hl h) ?_
 refine QM (by conv=>lhs;simp[-List.map_set,QV]) ?_
 refine QN ?_
 repeat (first|refine QG ?_|refine QX (r:=by conv=>lhs;simp[-List.map_set,QV]) (k:=?_))
 exact done_pure hwf rfl rfl
end Go.Vw
