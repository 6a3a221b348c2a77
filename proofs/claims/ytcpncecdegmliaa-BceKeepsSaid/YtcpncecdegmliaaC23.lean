import Derived.Test.YtcpncecdegmliaaC12
import Derived.Test.YtcpncecdegmliaaC20
import Derived.Test.YtcpncecdegmliaaC22
import Derived.Test.YtcpncecdegmliaaC15
import Derived.Test.YtcpncecdegmliaaC13
import Derived.Test.YtcpncecdegmliaaC21
/-
  Part of the proof (texts GAll, SRingP, SDef, SDef2, SRing).
-/
set_option linter.unusedVariables false
set_option linter.unusedSimpArgs false
namespace Go.Vw
open Go.Proofs Go.RowKit
set_option maxRecDepth 10000
set_option maxHeartbeats 8000000
namespace G
def ordI (g : List (List Int)) : List Nat := if right g then order (nats g) else []
def fromI (g : List (List Int)) : List (List Nat) := if right g then froms (nats g) else []
def err (g : List (List Int)) : Int := if right g then 0 else 1
end G
def Fits (g : List (List Int)) : Prop := g.length < 2^63 ∧ ∀ l ∈ g, l.length < 2^63
theorem right_nats (g : List (List Int)) (h : Fits g) (hr : G.right g = true) : VPure Try.prog 57 [vl (vl vnat) (G.nats g)] (.bool true) := by
 have := Right_v g h.1 h.2
 rw [hr, G.right_enc hr] at this
 exact this
theorem OrderAll_v (g : List (List Int)) (h : Fits g) : VPure Try.prog 19 [vl (vl vint) g] (.tuple [vl vnat (G.ordI g), vint (G.err g)]) := by
 intro S
 cases hr : G.right g with
 | false =>
  simp only [G.ordI, G.err, hr]
  refine vcalls_start (c := bodyOf Try.f19) Try.func19 rfl rfl (by simp [Try.ntmps19]) ?_
  rw [Try.ntmps19]
  intro hwf
  repeat (first|refine QG ?_|refine QX (r:=by conv=>lhs;simp[-List.map_set,QV]) (k:=?_))
  repeat refine QS ?_
  refine QR (r:=by conv=>lhs;simp[-List.map_set,QV]) (k:=?_)
  refine vcall_use rfl (Right_v g h.1 h.2) ?_
  refine QM (by conv=>lhs;simp[-List.map_set,QV,hr]) ?_
  refine QN ?_
  repeat (first|refine QG ?_|refine QX (r:=by conv=>lhs;simp[-List.map_set,QV]) (k:=?_))
  exact done_via (l := []) hwf ((Ghost.tuple [] [vint 1] (Ghost.nils_list _)).toB _) rfl
 | true =>
  simp only [G.ordI, G.err, hr, if_true]
  rw [G.right_enc hr]
  have hg := G.right_ok hr
  generalize hgn : G.nats g = gn at hg
  have hrn := right_nats g h hr
  rw [hgn] at hrn
  refine vcalls_start (c := bodyOf Try.f19) Try.func19 rfl rfl (by simp [Try.ntmps19]) ?_
  rw [Try.ntmps19]
  intro hwf
  repeat (first|refine QG ?_|refine QX (r:=by conv=>lhs;simp[-List.map_set,QV]) (k:=?_))
  repeat refine QS ?_
  refine QR (r:=by conv=>lhs;simp[-List.map_set,QV]) (k:=?_)
  refine vcall_use rfl (hrn) ?_
  refine QM (by conv=>lhs;simp[-List.map_set,QV]) ?_
  refine QN ?_
  repeat (first|refine QG ?_|refine QX (r:=by conv=>lhs;simp[-List.map_set,QV]) (k:=?_))
  repeat refine QS ?_
  refine QR (r:=by conv=>lhs;simp[-List.map_set,QV]) (k:=?_)
  refine vcall_use rfl (gOrd_v gn hg) ?_
  refine QM (by conv=>lhs;simp[-List.map_set,QV]) ?_
  refine QN ?_
  repeat (first|refine QG ?_|refine QX (r:=by conv=>lhs;simp[-List.map_set,QV]) (k:=?_))
  exact done_pure hwf rfl rfl
theorem ordI_len (g : List (List Int)) : (G.ordI g).length ≤ 256 := by
 simp only [G.ordI]
 split
 ·rename_i h
  have hg := G.right_ok h
  obtain ⟨t, h1, h2, h3⟩ := G.order_ends hg
  have := hg.max
  simp [G.order, h1]; omega
 ·simp
theorem pushAll_row : ∀ (es : List (Nat × Nat)) (rows : List (List Nat)) (r : List Nat), r ∈ G.pushAll rows es → r.length ≤ G.total rows + es.length
 | [], rows, r, h => by
  have h : r ∈ rows := h
  obtain ⟨i, hi, rfl⟩ := List.getElem_of_mem h
  have := G.row_le_total rows i
  have hi' : i < rows.length := hi
  have e : rows.getD i [] = rows[i] := by simp [hi']
  rw [e] at this
  simpa using this
 | e :: es, rows, r, h => by
  have := pushAll_row es (G.push rows e.1 e.2) r h
  by_cases hk : e.1 < rows.length
  ·have k := G.total_push (rows := rows) (k := e.1) (i := e.2) hk
   simp; omega
  ·have k : G.push rows e.1 e.2 = rows := by simp only [G.push]; exact List.set_eq_of_length_le (by omega)
   rw [k] at this
   simp; omega
namespace G
def nearI (g : List (List Int)) : List Int := if right g then rNear (nats g) else []
theorem nearI_len (g : List (List Int)) : (nearI g).length ≤ 256 := by
 simp only [nearI]
 split
 ·rename_i h
  have := (right_ok h).max
  simp [rNear]; exact this
 ·simp
end G
theorem NearestAll_v (g : List (List Int)) (h : Fits g) : VPure Try.prog 21 [vl (vl vint) g] (.tuple [vl vint (G.nearI g), vint (G.err g)]) := by
 cases hr : G.right g with
 | false =>
  simp only [G.nearI, G.err, hr]
  exact NearestErr_v g h.1 h.2 hr
 | true =>
  simp only [G.nearI, G.err, hr, if_true]
  rw [G.right_enc hr]
  have hg := G.right_ok hr
  have ho := G.order_ok hg
  obtain ⟨F, K, nearF, h1, h2⟩ := G.chk_ends hg
  rw [G.near_eq hg h2]
  refine Nearest_v (G.nats g) hg (right_nats g h hr) (G.order (G.nats g)) rfl ?_ ho.lt (G.froms (G.nats g)) rfl (G.froms_length _) (fun r hr x hx => ?_) (fun r hr => ?_) ?_ F K nearF h1
  ·obtain ⟨r, e⟩ := ho.head; rw [e]; simp
  ·obtain ⟨i, hi, rfl⟩ := List.getElem_of_mem hr
   have hig : i < (G.nats g).length := by rw [G.froms_length] at hi; exact hi
   have := (G.mem_froms hg i x hig).1 (by simpa [hi] using hx)
   exact this.1
  ·have k1 := pushAll_row _ _ r hr
   have k2 := G.edges_len hg.row 0
   have k3 := hg.max
   rw [G.total_rep] at k1
   omega
  ·obtain ⟨t, k1, k2, k3⟩ := G.order_ends hg
   simp [G.order, k1]; exact k2
end Go.Vw

/-
 Circles of blocks, by a walk in depth: the walk ends.
-/
namespace Ss
def tickB (b : Block) : Bool := b.code.any fun x => decide (x.op = 258)
mutual
def ringW (tick : List Bool) (g : List (List Nat)) : Nat → Nat → List Nat → Option (Bool × List Nat)
 | 0, _, _ => none
 | fuel + 1, n, st => if tick.getD n false then some (false, st) else
   match ringL tick g fuel (g.getD n []) (st.set n 1) with
   | some (true, s) => some (true, s)
   | some (false, s) => some (false, s.set n 2)
   | none => none
 termination_by fuel _ _ => (fuel, 0)
def ringL (tick : List Bool) (g : List (List Nat)) : Nat → List Nat → List Nat → Option (Bool × List Nat)
 | _, [], st => some (false, st)
 | fuel, k :: ks, st => if st.getD k 0 = 1 then some (true, st) else if st.getD k 0 = 0 then
   match ringW tick g fuel k st with
   | some (true, s) => some (true, s)
   | some (false, s) => ringL tick g fuel ks s
   | none => none
  else ringL tick g fuel ks st
 termination_by fuel ks _ => (fuel, ks.length + 1)
end
def ringM (tick : List Bool) (g : List (List Nat)) (fuel : Nat) : List Nat → List Nat → Option Bool
 | [], _ => some false
 | n :: ns, st => if st.getD n 0 = 0 then
   match ringW tick g fuel n st with
   | some (true, _) => some true
   | some (false, s) => ringM tick g fuel ns s
   | none => none
  else ringM tick g fuel ns st
def zeros (st : List Nat) : Nat := (st.filter fun x => decide (x = 0)).length
theorem zeros_set (v : Nat) : ∀ (st : List Nat) (n : Nat), v ≠ 0 → zeros (st.set n v) ≤ zeros st ∧ (n < st.length → st.getD n 1 = 0 → zeros (st.set n v) + 1 = zeros st)
 | [], n, _ => by simp [zeros]
 | x :: st, 0, hv => by
  have e : zeros ((x :: st).set 0 v) = zeros st := by simp [zeros, hv]
  rw [e]
  refine ⟨?_, fun _ h => ?_⟩
  ·simp only [zeros, List.filter_cons]
   split <;> simp
  ·simp at h; subst h; simp [zeros]
 | x :: st, n + 1, hv => by
  obtain ⟨h1, h2⟩ := zeros_set v st n hv
  simp only [zeros, List.set_cons_succ, List.filter_cons] at h1 h2 ⊢
  split
  ·simp only [List.length_cons]
   refine ⟨by omega, fun h3 h4 => ?_⟩
   have := h2 (by simpa using h3) (by simpa using h4)
   omega
  ·exact ⟨h1, fun h3 h4 => h2 (by simpa using h3) (by simpa using h4)⟩
theorem zeros_le (st : List Nat) : zeros st ≤ st.length := List.length_filter_le _ _
section
variable {tick : List Bool} {g : List (List Nat)}
theorem ringL_ends {N fuel : Nat} (hg : ∀ n, ∀ k ∈ g.getD n [], k < N)
  (ih : ∀ n st, n < N → st.length = N → st.getD n 0 = 0 → zeros st < fuel → ∃ r s, ringW tick g fuel n st = some (r, s) ∧ zeros s ≤ zeros st ∧ s.length = st.length) :
  ∀ (ks st : List Nat), (∀ k ∈ ks, k < N) → st.length = N → zeros st < fuel → ∃ r s, ringL tick g fuel ks st = some (r, s) ∧ zeros s ≤ zeros st ∧ s.length = st.length
 | [], st, _, _, _ => ⟨false, st, by rw [ringL], Nat.le_refl _, rfl⟩
 | k :: ks, st, hk, hl, hz => by
  rw [ringL]
  split
  ·exact ⟨true, st, rfl, Nat.le_refl _, rfl⟩
  ·split
   ·rename_i h0
    obtain ⟨r, s, h1, h2, h3⟩ := ih k st (hk k (by simp)) hl h0 hz
    rw [h1]
    cases r with
    | true => exact ⟨true, s, rfl, h2, h3⟩
    | false =>
     obtain ⟨r', s', k1, k2, k3⟩ := ringL_ends hg ih ks s (fun x hx => hk x (by simp [hx])) (by omega) (by omega)
     exact ⟨r', s', k1, by omega, by omega⟩
   ·exact ringL_ends hg ih ks st (fun x hx => hk x (by simp [hx])) hl hz
theorem ringW_ends {N : Nat} (hg : ∀ n, ∀ k ∈ g.getD n [], k < N) : ∀ (fuel n : Nat) (st : List Nat), n < N → st.length = N → st.getD n 0 = 0 → zeros st < fuel → ∃ r s, ringW tick g fuel n st = some (r, s) ∧ zeros s ≤ zeros st ∧ s.length = st.length
 | 0, _, _, _, _, _, hz => by omega
 | fuel + 1, n, st, hn, hl, h0, hz => by
  rw [ringW]
  split
  ·exact ⟨false, st, rfl, Nat.le_refl _, rfl⟩
  ·have hz1 := (zeros_set 1 st n (by decide)).2 (by omega) (by
    rw [List.getD_eq_getElem?_getD, List.getElem?_eq_getElem (by omega)] at h0 ⊢
    exact h0)
   obtain ⟨r, s, h1, h2, h3⟩ := ringL_ends hg (fun n st => ringW_ends hg fuel n st) (g.getD n []) (st.set n 1) (hg n) (by simp; omega) (by omega)
   rw [h1]
   have h3' : s.length = st.length := by rw [h3]; simp
   cases r with
   | true => exact ⟨true, s, rfl, by omega, h3'⟩
   | false =>
    have := (zeros_set 2 s n (by decide)).1
    exact ⟨false, s.set n 2, rfl, by omega, by simp [h3']⟩
theorem ringM_ends {N fuel : Nat} (hg : ∀ n, ∀ k ∈ g.getD n [], k < N) (hf : N < fuel) : ∀ (ns st : List Nat), (∀ n ∈ ns, n < N) → st.length = N → ∃ r, ringM tick g fuel ns st = some r
 | [], _, _, _ => ⟨false, rfl⟩
 | n :: ns, st, hn, hl => by
  simp only [ringM]
  split
  ·rename_i h0
   obtain ⟨r, s, h1, h2, h3⟩ := ringW_ends (tick := tick) hg fuel n st (hn n (by simp)) hl h0 (by have := zeros_le st; omega)
   rw [h1]
   cases r with
   | true => exact ⟨true, rfl⟩
   | false => exact ringM_ends hg hf ns s (fun x hx => hn x (by simp [hx])) (by omega)
  ·exact ringM_ends hg hf ns st (fun x hx => hn x (by simp [hx])) hl
theorem ringL_len {fuel : Nat} (ih : ∀ n st r s, ringW tick g fuel n st = some (r, s) → s.length = st.length) : ∀ (ks st : List Nat) (r : Bool) (s : List Nat), ringL tick g fuel ks st = some (r, s) → s.length = st.length
 | [], st, r, s, h => by rw [ringL] at h; cases h; rfl
 | k :: ks, st, r, s, h => by
  rw [ringL] at h
  split at h
  ·cases h; rfl
  ·split at h
   ·cases hw : ringW tick g fuel k st with
    | none => rw [hw] at h; cases h
    | some p =>
     obtain ⟨b, s1⟩ := p
     rw [hw] at h
     have e1 := ih k st b s1 hw
     cases b with
     | true => cases h; exact e1
     | false => exact (ringL_len ih ks s1 r s h).trans e1
   ·exact ringL_len ih ks st r s h
theorem ringW_len : ∀ (fuel n : Nat) (st : List Nat) (r : Bool) (s : List Nat), ringW tick g fuel n st = some (r, s) → s.length = st.length
 | 0, _, _, _, _, h => by rw [ringW] at h; cases h
 | fuel + 1, n, st, r, s, h => by
  rw [ringW] at h
  split at h
  ·cases h; rfl
  ·cases hl : ringL tick g fuel (g.getD n []) (st.set n 1) with
   | none => rw [hl] at h; cases h
   | some p =>
    obtain ⟨b, s1⟩ := p
    rw [hl] at h
    have e1 := ringL_len (ringW_len fuel) _ _ _ _ hl
    cases b with
    | true => cases h; simpa using e1
    | false => cases h; simpa using e1
end
def rings (bs : List Block) (g : List (List Nat)) : Bool := (ringM (bs.map tickB) g (g.length + 1) (List.range g.length) (List.replicate g.length 0)).getD false
end Ss

namespace Ss
def put (block pos : Int) : List Def → List Int → Option (List Def)
 | ds, [] => some ds
 | ds, v :: l => if v < 0 ∨ (ds.length : Int) ≤ v ∨ (ds.getD v.toNat default).made = true then none else put block pos (ds.set v.toNat ⟨true, block, pos⟩) l
def putCode (i : Int) : Nat → List Def → List Ins → Option (List Def)
 | _, ds, [] => some ds
 | k, ds, x :: r => (put i k ds x.outs).bind fun d => putCode i (k + 1) d r
def putBlocks : Nat → List Def → List Block → Option (List Def)
 | _, ds, [] => some ds
 | i, ds, b :: bs => ((put i (-1) ds b.params).bind fun d => putCode i 0 d b.code).bind fun d => putBlocks (i + 1) d bs
def defsOf (f : Fn) : Option (List Def) := putBlocks 0 (List.replicate f.types.length ⟨false, 0, 0⟩) f.blocks
theorem put_len {block pos : Int} : ∀ {l : List Int} {ds d : List Def}, put block pos ds l = some d → d.length = ds.length
 | [], ds, d, h => by simp only [put, Option.some.injEq] at h; rw [h]
 | v :: l, ds, d, h => by
  simp only [put] at h
  split at h
  ·cases h
  ·rw [put_len h]; simp
end Ss
namespace Go.Vw
open Go.Proofs Go.RowKit
set_option maxRecDepth 10000
set_option maxHeartbeats 4000000
theorem flatC_set {α : Type} {enc : α → V} {s : Nat} (hs : ∀ a, (enc a).cells.length = s) (a : α) : ∀ (l : List α) (n : Nat), n < l.length → flatC enc (l.set n a) = (flatC enc l).take (n * s) ++ (enc a).cells ++ (flatC enc l).drop (n * s + s)
 | [], n, h => by simp at h
 | x :: l, 0, h => by
  simp only [List.set_cons_zero, flatC, List.flatMap_cons, Nat.zero_mul, List.take_zero, List.nil_append, Nat.zero_add]
  rw [← hs x, List.drop_left]
 | x :: l, n + 1, h => by
  have ih := flatC_set hs a l n (by simpa using h)
  simp only [List.set_cons_succ, flatC, List.flatMap_cons] at ih ⊢
  have e1 : (n + 1) * s = (enc x).cells.length + n * s := by rw [hs, Nat.add_mul]; omega
  have e2 : (n + 1) * s + s = (enc x).cells.length + (n * s + s) := by omega
  rw [ih, e2, e1, List.take_length_add_append, List.drop_length_add_append]
  simp [List.append_assoc]
theorem old_lt {S : Store} (hwf : S.Wf) {o : Nat} {c} (h : S.get o = some c) : o < S.nx := by
 rcases Nat.lt_or_ge o S.nx with h' | h'
 ·exact h'
 ·rw [hwf.gone o h'] at h; cases h
theorem define1_v (S : Store) (e : Ss.Env) (f : Ss.Fn) (nearV : V) (pc ck od : Nat) (ds : List Ss.Def) (l : List Int) (block pos : Int) (hl : l.length < 2^63) (hn : ds.length < 2^40) (hp : S.get pc = some (1, [.ptr ck 0]))
  (hc : S.get ck = some (11, ckC e f (.slice od 0 ds.length) nearV)) (hd : S.get od = some (3, flatC encDef ds)) (h1 : pc ≠ od) (h2 : ck ≠ od) :
  VCalls Try.prog 77 ([vl vint l, vint block, vint pos] ++ [.ptr pc 0]) S (fun r T => ∃ ds', ds'.length = ds.length ∧ r = .bool (Ss.put block pos ds l).isSome ∧ (∀ d, Ss.put block pos ds l = some d → ds' = d) ∧ T = S.upd od (3, flatC encDef ds')) := by
 obtain ⟨⟨fi, fo⟩, ts, bs⟩ := f
 obtain ⟨sg, im, gl, mu, me⟩ := e
 refine vcalls_start (c := bodyOf Try.f77) Try.func77 rfl rfl (by simp [Try.ntmps77]) ?_
 rw [Try.ntmps77]
 intro hwf
 have hpn := old_lt hwf hp
 have hcn := old_lt hwf hc
 have hdn := old_lt hwf hd
 have op := fun u l => @St_old S u l pc hpn
 have oc := fun u l => @St_old S u l ck hcn
 have od' := fun u l => @St_old S u l od hdn
 have hupd := fun u l c => @St_updOld S u l c od hdn
 have fin : ∀ (X : Bool) (d : List Ss.Def), d.length = ds.length → (Ss.put block pos ds l).isSome = X → (∀ d', Ss.put block pos ds l = some d' → d = d') → ∀ r : V, r = .bool X →
   PostB S.nx (fun r T => ∃ ds', ds'.length = ds.length ∧ r = .bool (Ss.put block pos ds l).isSome ∧ (∀ d, Ss.put block pos ds l = some d → ds' = d) ∧ T = S.upd od (3, flatC encDef ds')) r (St S [(od, some (3, flatC encDef d))] []) := by
  intro X d k1 k2 k3 r k4
  refine done_turned (X := .bool X) (S' := S.upd od (3, flatC encDef d)) hwf k4 rfl (by simp [gcOkU, gcOkE, flatC_ids encDef_closed]) ?_ ⟨d, k1, by rw [k2], k3, rfl⟩
  simp only [gcU, gcE, Option.map_some, flatC_ren encDef_closed]
  exact St_upd1 hwf hdn
 rw [St_touch hd]
 repeat (first|refine QG ?_|refine QX (r:=by conv=>lhs;simp[-List.map_set,QV]) (k:=?_))
 repeat refine QS ?_
 refine vw_loopAt [1, 2, 3, 10, 11, 12] rfl (fun c σ S' => ∃ (k : Nat) (d : List Ss.Def), k ≤ l.length ∧ c = l.length - k ∧ d.length = ds.length ∧ Ss.put block pos d (l.drop k) = Ss.put block pos ds l ∧ σ = [(1, vint block), (2, vint pos), (3, .ptr pc 0), (10, vl vint l), (11, vnat l.length), (12, vnat k)] ∧ S' = St S [(od, some (3, flatC encDef d))] []) l.length ?_ ?_
 ·exact ⟨0, ds, by omega, rfl, rfl, rfl, by simp [Fr.only], rfl⟩
 ·rintro c σ T ⟨k, d, hk, rfl, hdl, hpd, rfl, rfl⟩
  by_cases hkt : k < l.length
  ·have hw := wrapNat hkt hl
   have hst : Ss.put block pos d (l.drop k) = if l[k] < 0 ∨ (d.length : Int) ≤ l[k] ∨ (d.getD l[k].toNat default).made = true then none else Ss.put block pos (d.set l[k].toNat ⟨true, block, pos⟩) (l.drop (k + 1)) := by rw [List.drop_eq_getElem_cons hkt, Ss.put]
   obtain ⟨v, hx⟩ : ∃ v, l[k] = v := ⟨_, rfl⟩
   rw [hx] at hst
   have bad : (v < 0 ∨ (d.length : Int) ≤ v ∨ (d.getD v.toNat default).made = true) → Ss.put block pos ds l = none := fun hb => by rw [← hpd, hst, if_pos hb]
   by_cases q1 : v < 0
   ·repeat (first|refine QG ?_|refine QX (r:=by conv=>lhs;simp[-List.map_set,QV,hkt,hx,q1]) (k:=?_))
    have hb := bad (.inl q1)
    exact fin false d hdl (by rw [hb]; rfl) (by rw [hb]; simp) _ (by simp)
   obtain ⟨n, rfl⟩ : ∃ n : Nat, v = n := ⟨v.toNat, by omega⟩
   by_cases q2 : n < d.length
   case neg =>
    have q2' : (ds.length : Int) ≤ (n : Int) := by omega
    have hb := bad (.inr (.inl (by omega)))
    repeat (first|refine QG ?_|refine QX (r:=by conv=>lhs;simp[-List.map_set,QV,hkt,hx,q1,q2,q2',op,oc,od',hp,hc,h1,h2]) (k:=?_))
    exact fin false d hdl (by rw [hb]; rfl) (by rw [hb]; simp) _ (by simp)
   have q2' : ¬ (ds.length : Int) ≤ (n : Int) := by omega
   obtain ⟨⟨dm, db, dp⟩, hdx⟩ : ∃ x, d[n] = x := ⟨_, rfl⟩
   have hdg : d.getD (n : Int).toNat default = ⟨dm, db, dp⟩ := by simp [q2, hdx]
   have hcell : (flatC encDef d)[n * 3]? = some (.bool dm) := flatC_get (enc := encDef) (s := 3) (fun _ => rfl) d n 0 ⟨dm, db, dp⟩ (.bool dm) (by rw [← hdx]; exact List.getElem?_eq_getElem q2) rfl
   have hfl : (flatC encDef d).length = d.length * 3 := flatC_len (enc := encDef) (s := 3) (fun _ => rfl) d
   have hn2 : n < ds.length := by omega
   by_cases q3 : dm = true
   ·have hb := bad (.inr (.inr (by rw [hdg]; exact q3)))
    repeat (first|refine QG ?_|refine QX (r:=by conv=>lhs;simp[-List.map_set,QV,hkt,hx,q1,q2,q2',op,oc,od',hp,hc,h1,h2,hcell,hn2,q3]) (k:=?_))
    exact fin false d hdl (by rw [hb]; rfl) (by rw [hb]; simp) _ (by simp)
   ·have q3' : dm = false := by simpa using q3
    have hfit : n * 3 + 3 ≤ (flatC encDef d).length := by omega
    rw [if_neg (by rw [hdg]; rintro (h | h | h) <;> first | exact q1 h | exact q3 h | omega)] at hst
    have hfs := flatC_set (enc := encDef) (s := 3) (fun _ => rfl) ⟨true, block, pos⟩ d n q2
    repeat (first|refine QG ?_|refine QX (r:=by conv=>lhs;simp[-List.map_set,QV,hkt,hx,q1,q2,q2',op,oc,od',hp,hc,h1,h2,hcell,hn2,q3',hfit,hupd]) (k:=?_))
    show Again _ _ _ _ _ _ _
    exact again ⟨Nat.sub_lt_sub_left hkt (Nat.lt_succ_self k), k + 1, d.set n ⟨true, block, pos⟩, hkt, rfl, by simp [hdl], by rw [← hpd, hst]; rfl, by simp [Fr.only, hw], by rw [hfs]; simp [encDef_cells]⟩
  ·have e1 : l.drop k = [] := by rw [List.drop_eq_nil_iff]; omega
   rw [e1] at hpd
   have hpe : Ss.put block pos ds l = some d := by rw [← hpd]; rfl
   repeat (first|refine QG ?_|refine QX (r:=by conv=>lhs;simp[-List.map_set,QV,hkt]) (k:=?_))
   exact fin true d hdl (by rw [hpe]; rfl) (by rw [hpe]; simp) _ (by simp)
end Go.Vw

namespace Go.Vw
open Go.Proofs Go.RowKit
set_option maxRecDepth 10000
set_option maxHeartbeats 4000000
theorem putBlocks_one {i : Nat} {ds : List Ss.Def} {bs : List Ss.Block} (h : i < bs.length) : Ss.putBlocks i ds (bs.drop i) = ((Ss.put i (-1) ds bs[i].params).bind fun d => Ss.putCode i 0 d bs[i].code).bind fun d => Ss.putBlocks (i + 1) d (bs.drop (i + 1)) := by
 rw [List.drop_eq_getElem_cons h, Ss.putBlocks]
theorem putCode_one {i : Int} {k : Nat} {ds : List Ss.Def} {l : List Ss.Ins} (h : k < l.length) : Ss.putCode i k ds (l.drop k) = (Ss.put i k ds l[k].outs).bind fun d => Ss.putCode i (k + 1) d (l.drop (k + 1)) := by
 rw [List.drop_eq_getElem_cons h, Ss.putCode]
theorem flatC_rep0 (n : Nat) : (List.replicate n [V.bool false, .int .i64 0, .int .i64 0]).flatten = flatC encDef (List.replicate n ⟨false, 0, 0⟩) := by
 induction n with
 | zero => rfl
 | succ n ih => rw [List.replicate_succ, List.replicate_succ, List.flatten_cons, ih]; rfl
theorem renL_defs (f : Nat → Nat) (l : List Ss.Def) : V.renL f (flatC encDef l) = flatC encDef l := flatC_ren encDef_closed f l
theorem idsL_defs (p : Nat → Bool) (l : List Ss.Def) : V.idsL p (flatC encDef l) = true := flatC_ids encDef_closed p l
theorem define_v (S : Store) (e : Ss.Env) (f : Ss.Fn) (ck : Nat) (hf : f.Fits) (hts : f.types.length ≤ 1048576) (hc : S.get ck = some (11, ckC e f .nils .nils)) :
  VCalls Try.prog 49 [.ptr ck 0] S (fun r T => ∃ ds', ds'.length = f.types.length ∧ r = .bool (Ss.defsOf f).isSome ∧ (∀ d, Ss.defsOf f = some d → ds' = d) ∧ T = St S [(ck, some (11, ckC e f (.slice (lid S.nx 0) 0 f.types.length) .nils))] [some (3, flatC encDef ds')]) := by
 obtain ⟨_, _, ⟨hbl0, hbf⟩⟩ := hf
 obtain ⟨⟨fi, fo⟩, ts, bs⟩ := f
 obtain ⟨sg, im, gl, mu, me⟩ := e
 simp only at hts hbl0 hbf hc ⊢
 have hbl : bs.length < 2^63 := by omega
 generalize hD : Ss.defsOf ⟨⟨fi, fo⟩, ts, bs⟩ = D
 refine vcalls_start (c := bodyOf Try.f49) Try.func49 rfl rfl (by simp [Try.ntmps49]) ?_
 rw [Try.ntmps49]
 intro hwf
 have hcn := old_lt hwf hc
 have oc := fun u l => @St_old S u l ck hcn
 have hupd := fun u l c => @St_updOld S u l c ck hcn
 have gp := fun ks => gcP_old (n := S.nx) ks hcn
 have gt := fun ks => gcTo_old (n := S.nx) ks hcn
 have hb24 : ts.length * 24 ≤ 140737488355328 := by omega
 have hb0 : ts.length ≤ 140737488355328 := by omega
 rw [St_touch hc]
 repeat refine QS ?_
 refine QR (r:=by conv=>lhs;simp[-List.map_set,QV]) (k:=?_)
 refine QN ?_
 repeat refine QS ?_
 refine vw_drawW (St S [(ck, none)] [some (1, [.ptr ck 0])]) (St S [(ck, some (11, ckC ⟨sg, im, gl, mu, me⟩ ⟨⟨fi, fo⟩, ts, bs⟩ .nils .nils))] [some (1, [.ptr ck 0])]) [13] rfl (by kernel_rfl) (by conv => lhs; reduce) (by conv => lhs; reduce) (by kernel_rfl) (by kernel_rfl) (ok_St (by simp [subU, shpU, subL, shpL])) (by conv => lhs; simp [-List.map_set,QV, oc, hc]) ?_
 refine vseg_write rfl (by conv=>lhs;simp[-List.map_set,QV,hb24,hb0]) (ok_St (by simp [subU, shpU, subL, shpL])) ?_
 refine QM (by conv=>lhs;simp[-List.map_set,QV,oc,hc]) ?_
 refine vseg_write rfl (by conv=>lhs;simp[-List.map_set,QV,oc,hc,hupd]) (ok_St (by simp [subU, shpU, subL, shpL])) ?_
 refine QN ?_
 have hr0 : rep0 [V.bool false, .int .i64 0, .int .i64 0] ts.length = flatC encDef (List.replicate ts.length ⟨false, 0, 0⟩) := flatC_rep0 _
 repeat (first|refine QG ?_|refine QX (r:=by conv=>lhs;simp[-List.map_set,QV,oc,hupd]) (k:=?_))
 repeat refine QS ?_
 refine vw_loopAt [3, 23, 24, 25] rfl (fun c σ S' => ∃ (k : Nat) (d : List Ss.Def), k ≤ bs.length ∧ c = bs.length - k ∧ d.length = ts.length ∧ Ss.putBlocks k d (bs.drop k) = D ∧ σ = [(3, .func 77 [.ptr (lid S.nx 0) 0]), (23, vl encBlock bs), (24, vnat bs.length), (25, vnat k)] ∧ S' = St S [(ck, some (11, ckC ⟨sg, im, gl, mu, me⟩ ⟨⟨fi, fo⟩, ts, bs⟩ (.slice (lid S.nx 1) 0 ts.length) .nils))] [some (1, [.ptr ck 0]), some (3, flatC encDef d)]) bs.length ?_ ?_
 ·exact ⟨0, List.replicate ts.length ⟨false, 0, 0⟩, by omega, rfl, by simp, by rw [← hD]; rfl, by simp [Fr.only], by simp [hr0]⟩
 ·rintro c σ T ⟨k, d, hk, rfl, hdl, hpd, rfl, rfl⟩
  by_cases hkt : k < bs.length
  ·have hw := wrapNat hkt hbl
   have hst := putBlocks_one (ds := d) hkt
   have hbk := hbf _ (List.getElem_mem hkt)
   obtain ⟨⟨ps, code, ⟨tk, ta, to, az⟩⟩, hx⟩ : ∃ b, bs[k] = b := ⟨_, rfl⟩
   rw [hx] at hst hbk
   obtain ⟨⟨hpl, _⟩, ⟨hcl, hcf⟩, _⟩ := hbk
   simp only at hst hpl hcl hcf
   repeat (first|refine QG ?_|refine QX (r:=by conv=>lhs;simp[-List.map_set,QV,hkt,hx]) (k:=?_))
   repeat refine QS ?_
   refine QR (r:=by conv=>lhs;simp[-List.map_set,QV,hkt,hx]) (k:=?_)
   refine vcallv_any rfl rfl rfl (define1_v _ ⟨sg, im, gl, mu, me⟩ ⟨⟨fi, fo⟩, ts, bs⟩ .nils (lid S.nx 0) ck (lid S.nx 1) d ps k (-1) (by omega) (by omega) (by simp) (by rw [oc]; simp [uGet, hdl]) (by simp) (by simp [lid]) (by simp [lid]; omega)) ?_
   rintro X S2 ⟨d1, hd1, rfl, hp1, rfl⟩
   rw [St_upd (by simp)]
   simp only [List.set_cons_succ, List.set_cons_zero]
   obtain ⟨z, hz⟩ : ∃ z, (Ss.put k (-1) d ps).isSome = z := ⟨_, rfl⟩
   rw [hz]
   by_cases hz1 : z = true
   case neg =>
    have hz2 : z = false := by simpa using hz1
    have hD2 : D = none := by
     rw [← hpd, hst]
     have : Ss.put k (-1) d ps = none := by rw [hz2] at hz; simpa using hz
     rw [this]; rfl
    refine QM (by conv=>lhs;simp[-List.map_set,QV,hz2]) ?_
    refine QN ?_
    refine vw_only' [35] (by conv => lhs; simp [Fr.only, Fr.look]) ?_
    refine vw_gc [1] hwf (by decide) (by simp [-List.map_set, idsL_defs, gp]) (by conv => lhs; simp [-List.map_set]) (by conv => lhs; simp [-List.map_set, renL_defs, gt]) (by conv => lhs; simp [-List.map_set]) ?_
    repeat (first|refine QG ?_|refine QX (r:=by conv=>lhs;simp[-List.map_set,QV]) (k:=?_))
    exact done_as ⟨d1, by omega, by simp [hD2], by simp [hD2], by simp⟩
   obtain ⟨d2, hq1⟩ : ∃ d2, Ss.put k (-1) d ps = some d2 := by rw [hz1] at hz; exact Option.isSome_iff_exists.1 hz
   obtain rfl := hp1 _ hq1
   rw [hq1] at hst
   have hst1 : Ss.putBlocks k d (bs.drop k) = (Ss.putCode k 0 d1 code).bind fun d => Ss.putBlocks (k + 1) d (bs.drop (k + 1)) := hst
   refine QM (by conv=>lhs;simp[-List.map_set,QV,hz1]) ?_
   refine QN ?_
   repeat (first|refine QG ?_|refine QX (r:=by conv=>lhs;simp[-List.map_set,QV]) (k:=?_))
   refine vw_only' [3, 4, 23, 24, 25, 37, 38, 39] (by conv => lhs; simp [Fr.only, Fr.look]) ?_
   refine vw_gc [0, 1] hwf (by decide) (by simp [-List.map_set, idsL_defs, gp]) (by conv => lhs; simp [-List.map_set]) (by conv => lhs; simp [-List.map_set, renL_defs, gt]) (by conv => lhs; simp [-List.map_set]) ?_
   repeat refine QS ?_
   refine vw_loopAt [3, 4, 23, 24, 25, 37, 38, 39] rfl (fun c σ S' => ∃ (j : Nat) (d : List Ss.Def), j ≤ code.length ∧ c = code.length - j ∧ d.length = ts.length ∧ Ss.putCode k j d (code.drop j) = Ss.putCode k 0 d1 code ∧ σ = [(3, .func 77 [.ptr (lid S.nx 0) 0]), (4, vnat k), (23, vl encBlock bs), (24, vnat bs.length), (25, vnat k), (37, vl encIns code), (38, vnat code.length), (39, vnat j)] ∧ S' = St S [(ck, some (11, ckC ⟨sg, im, gl, mu, me⟩ ⟨⟨fi, fo⟩, ts, bs⟩ (.slice (lid S.nx 1) 0 ts.length) .nils))] [some (1, [.ptr ck 0]), some (3, flatC encDef d)]) code.length ?_ ?_
   ·exact ⟨0, d1, by omega, rfl, by omega, rfl, by simp [Fr.only], by simp⟩
   ·rintro c σ T ⟨j, d3, hj, rfl, hdl3, hpc, rfl, rfl⟩
    by_cases hjt : j < code.length
    ·have hwj := wrapNat hjt (by omega)
     have hsc := putCode_one (i := k) (ds := d3) hjt
     have hif := hcf _ (List.getElem_mem hjt)
     obtain ⟨⟨xo, xn, xa, xu⟩, hx2⟩ : ∃ b, code[j] = b := ⟨_, rfl⟩
     rw [hx2] at hsc hif
     obtain ⟨_, _, _, ⟨hul, _⟩⟩ := hif
     simp only at hsc hul
     repeat (first|refine QG ?_|refine QX (r:=by conv=>lhs;simp[-List.map_set,QV,hjt,hx2]) (k:=?_))
     repeat refine QS ?_
     refine QR (r:=by conv=>lhs;simp[-List.map_set,QV,hjt,hx2]) (k:=?_)
     refine vcallv_any rfl rfl rfl (define1_v _ ⟨sg, im, gl, mu, me⟩ ⟨⟨fi, fo⟩, ts, bs⟩ .nils (lid S.nx 0) ck (lid S.nx 1) d3 xu k j (by omega) (by omega) (by simp) (by rw [oc]; simp [uGet, hdl3]) (by simp) (by simp [lid]) (by simp [lid]; omega)) ?_
     rintro X S2 ⟨d4, hd4, rfl, hp4, rfl⟩
     rw [St_upd (by simp)]
     simp only [List.set_cons_succ, List.set_cons_zero]
     obtain ⟨z2, hz2⟩ : ∃ z, (Ss.put k j d3 xu).isSome = z := ⟨_, rfl⟩
     rw [hz2]
     by_cases hz3 : z2 = true
     case neg =>
      have hz4 : z2 = false := by simpa using hz3
      have hD2 : D = none := by
       have : Ss.put k j d3 xu = none := by rw [hz4] at hz2; simpa using hz2
       rw [← hpd, hst1, ← hpc, hsc, this]; rfl
      refine QM (by conv=>lhs;simp[-List.map_set,QV,hz4]) ?_
      refine QN ?_
      refine vw_only' [50] (by conv => lhs; simp [Fr.only, Fr.look]) ?_
      refine vw_gc [1] hwf (by decide) (by simp [-List.map_set, idsL_defs, gp]) (by conv => lhs; simp [-List.map_set]) (by conv => lhs; simp [-List.map_set, renL_defs, gt]) (by conv => lhs; simp [-List.map_set]) ?_
      repeat (first|refine QG ?_|refine QX (r:=by conv=>lhs;simp[-List.map_set,QV]) (k:=?_))
      exact done_as ⟨d4, by omega, by simp [hD2], by simp [hD2], by simp⟩
     obtain ⟨d5, hq5⟩ : ∃ d5, Ss.put k j d3 xu = some d5 := by rw [hz3] at hz2; exact Option.isSome_iff_exists.1 hz2
     obtain rfl := hp4 _ hq5
     rw [hq5] at hsc
     have hsc1 : Ss.putCode k j d3 (code.drop j) = Ss.putCode k (j + 1) d4 (code.drop (j + 1)) := hsc
     refine QM (by conv=>lhs;simp[-List.map_set,QV,hz3]) ?_
     refine QN ?_
     repeat (first|refine QG ?_|refine QX (r:=by conv=>lhs;simp[-List.map_set,QV]) (k:=?_))
     refine again_gc [0, 1] (by conv => lhs; simp [Fr.only]) hwf (by decide) (by simp [-List.map_set, renL_defs, idsL_defs, gp, gt]) (by conv => lhs; simp [-List.map_set, renL_defs, idsL_defs, gp, gt]) (by conv => lhs; simp [-List.map_set, renL_defs, idsL_defs, gp, gt]) (by conv => lhs; simp [-List.map_set, renL_defs, idsL_defs, gp, gt]) ⟨?_, j + 1, d4, hjt, rfl, by omega, by rw [← hpc, hsc1], by simp [hwj], by simp⟩
     omega
    ·have e1 : code.drop j = [] := by rw [List.drop_eq_nil_iff]; omega
     rw [e1] at hpc
     have hpc1 : Ss.putCode k 0 d1 code = some d3 := by rw [← hpc]; rfl
     rw [hpc1] at hst1
     repeat (first|refine QG ?_|refine QX (r:=by conv=>lhs;simp[-List.map_set,QV,hjt]) (k:=?_))
     refine again_gc [0, 1] (by conv => lhs; simp [Fr.only]) hwf (by decide) (by simp [-List.map_set, renL_defs, idsL_defs, gp, gt]) (by conv => lhs; simp [-List.map_set, renL_defs, idsL_defs, gp, gt]) (by conv => lhs; simp [-List.map_set, renL_defs, idsL_defs, gp, gt]) (by conv => lhs; simp [-List.map_set, renL_defs, idsL_defs, gp, gt]) ⟨?_, k + 1, d3, hkt, rfl, by omega, by rw [← hpd, hst1]; rfl, by simp [hw], by simp⟩
     omega
  ·have e1 : bs.drop k = [] := by rw [List.drop_eq_nil_iff]; omega
   rw [e1] at hpd
   have hD2 : D = some d := by rw [← hpd]; rfl
   repeat refine QS ?_
   refine QR (r:=by conv=>lhs;simp[-List.map_set,QV,hkt]) (k:=?_)
   refine QN ?_
   repeat refine QS ?_
   refine vw_condF rfl rfl rfl ?_
   repeat refine QS ?_
   refine vw_exitAt 0 rfl rfl ?_
   refine vw_only' [25] (by conv => lhs; simp [Fr.only, Fr.look]) ?_
   refine vw_gc [1] hwf (by decide) (by simp [-List.map_set, idsL_defs, gp]) (by conv => lhs; simp [-List.map_set]) (by conv => lhs; simp [-List.map_set, renL_defs, gt]) (by conv => lhs; simp [-List.map_set]) ?_
   repeat (first|refine QG ?_|refine QX (r:=by conv=>lhs;simp[-List.map_set,QV]) (k:=?_))
   exact done_as ⟨d, hdl, by simp [hD2], by simp [hD2], by simp⟩
end Go.Vw

namespace Go.Vw
open Go.Proofs Go.RowKit
set_option maxRecDepth 10000
set_option maxHeartbeats 4000000
theorem rings11_v (x : Ss.Ins) : VPure Try.prog 95 ([encIns x] ++ []) (.bool (decide (x.op = 258))) := by
 intro S
 obtain ⟨o, n, a, u⟩ := x
 refine vcalls_start (c := bodyOf Try.f95) Try.func95 rfl rfl (by simp [Try.ntmps95]) ?_
 rw [Try.ntmps95]
 intro hwf
 repeat (first|refine QG ?_|refine QX (r:=by conv=>lhs;simp[-List.map_set,QV]) (k:=?_))
 exact done_pure hwf (by simp) rfl
theorem tick_v (l : List Ss.Ins) (hl : l.length < 2^63) : VPure Try.prog 94 [vl encIns l, .func 95 []] (.bool (l.any fun x => decide (x.op = 258))) :=
 AnyN_v l (fun x => decide (x.op = 258)) _ [] rfl hl (fun x _ => rings11_v x)
theorem rings1_v (f : Ss.Fn) (g : List (List Nat)) (hgl : g.length = f.blocks.length) (hgb : g.length < 2^62) (hrow : ∀ r ∈ g, r.length < 2^62 ∧ ∀ k ∈ r, k < g.length) (hcode : ∀ b ∈ f.blocks, b.code.length < 2^63) :
  ∀ (fuel n : Nat) (st : List Nat) (r : Bool) (s : List Nat) (S : Store) (ps os pw : Nat), n < g.length → st.length = g.length → S.get ps = some (1, [.slice os 0 g.length]) → S.get os = some (1, st.map vnat) →
   S.get pw = some (1, [.func 93 [.ref (encFn f), .ptr ps 0, .ref (vl (vl vnat) g), .ptr pw 0]]) → ps ≠ os → pw ≠ os → Ss.ringW (f.blocks.map Ss.tickB) g fuel n st = some (r, s) →
   VCalls Try.prog 93 [vnat n, .ref (encFn f), .ptr ps 0, .ref (vl (vl vnat) g), .ptr pw 0] S (fun x T => x = .bool r ∧ T = S.upd os (1, s.map vnat)) := by
 intro fuel
 induction fuel with
 | zero => intro n st r s S ps os pw _ _ _ _ _ _ _ h; rw [Ss.ringW] at h; cases h
 | succ fuel ih =>
  intro n st r s S ps os pw hn hsl hps hos hpw h1 h2 hr
  obtain ⟨⟨fi, fo⟩, ts, bs⟩ := f
  simp only at hgl hcode hr
  have hnb : n < bs.length := by omega
  have hns : n < st.length := by omega
  have hct := tick_v _ (hcode _ (List.getElem_mem hnb))
  obtain ⟨⟨bp, bc, ⟨tk, ta, to, az⟩⟩, hx⟩ : ∃ b, bs[n] = b := ⟨_, rfl⟩
  have htk : (bs.map Ss.tickB).getD n false = bc.any fun x => decide (x.op = 258) := by simp [hnb, hx, Ss.tickB]
  rw [hx] at hct
  simp only at hct
  rw [Ss.ringW, htk] at hr
  generalize (bc.any fun x => decide (x.op = 258)) = tb at *
  refine vcalls_start (c := bodyOf Try.f93) Try.func93 rfl rfl (by simp [Try.ntmps93]) ?_
  rw [Try.ntmps93]
  intro hwf
  have psn := old_lt hwf hps
  have osn := old_lt hwf hos
  have pwn := old_lt hwf hpw
  have ops := fun u l => @St_old S u l ps psn
  have oos := fun u l => @St_old S u l os osn
  have opw := fun u l => @St_old S u l pw pwn
  have hupd := fun u l c => @St_updOld S u l c os osn
  rw [St_touch hos]
  have fin : ∀ (b : Bool) (d : List Nat) (v : V), v = .bool b → r = b → s = d → PostB S.nx (fun x T => x = .bool r ∧ T = S.upd os (1, s.map vnat)) v (St S [(os, some (1, d.map vnat))] []) := by
   rintro b d v rfl rfl rfl
   refine done_turned (X := .bool r) (S' := S.upd os (1, s.map vnat)) hwf rfl rfl (by simp [gcOkU, gcOkE, idsL_vnat]) ?_ ⟨rfl, rfl⟩
   simp only [gcU, gcE, Option.map_some, renL_vnat]
   exact St_upd1 hwf osn
  repeat refine QS ?_
  refine QR (r:=by conv=>lhs;simp[-List.map_set,QV]) (k:=?_)
  refine QN ?_
  repeat refine QS ?_
  refine QR (r:=by conv=>lhs;simp[-List.map_set,QV,hnb,hx]) (k:=?_)
  refine vcall_useH (hct) (by rfl) ?_
  by_cases ht : tb = true
  ·rw [if_pos ht] at hr
   cases hr
   refine QM (by conv=>lhs;simp[-List.map_set,QV,ht]) ?_
   refine QN ?_
   repeat (first|refine QG ?_|refine QX (r:=by conv=>lhs;simp[-List.map_set,QV]) (k:=?_))
   exact fin _ _ _ (by simp) rfl rfl
  have ht' : tb = false := by simpa using ht
  rw [if_neg ht] at hr
  have hgd : g.getD n [] = g[n] := by simp [hn]
  rw [hgd] at hr
  obtain ⟨hrl, hrk⟩ := hrow _ (List.getElem_mem hn)
  obtain ⟨row, hrow'⟩ : ∃ row, g[n] = row := ⟨_, rfl⟩
  rw [hrow'] at hr hrl hrk
  refine QM (by conv=>lhs;simp[-List.map_set,QV,ht']) ?_
  refine QN ?_
  repeat (first|refine QG ?_|refine QX (r:=by conv=>lhs;simp[-List.map_set,QV,ops,oos,opw,hps,hos,hpw,h1,h2,hn,hns,hupd,hrow']) (k:=?_))
  obtain ⟨q, hq⟩ : ∃ q, Ss.ringL (bs.map Ss.tickB) g fuel row (st.set n 1) = some q := by
   cases hz : Ss.ringL (bs.map Ss.tickB) g fuel row (st.set n 1) with
   | none => rw [hz] at hr; cases hr
   | some q => exact ⟨q, rfl⟩
  rw [hq] at hr
  repeat refine QS ?_
  refine vw_loopAt [0, 2, 4, 22, 23, 24] rfl (fun c σ S' => ∃ (k : Nat) (d : List Nat), k ≤ row.length ∧ c = row.length - k ∧ d.length = g.length ∧ Ss.ringL (bs.map Ss.tickB) g fuel (row.drop k) d = some q ∧ σ = [(0, vnat n), (2, .ptr ps 0), (4, .ptr pw 0), (22, vl vnat row), (23, vnat row.length), (24, vnat k)] ∧ S' = St S [(os, some (1, d.map vnat))] []) row.length ?_ ?_
  ·exact ⟨0, st.set n 1, by omega, rfl, by simpa using hsl, hq, by simp [Fr.only], by simp⟩
  ·rintro c σ T ⟨k, d, hk, rfl, hdl, hql, rfl, rfl⟩
   by_cases hkt : k < row.length
   ·have hw := wrapNat hkt (by omega)
    rw [List.drop_eq_getElem_cons hkt, Ss.ringL] at hql
    have hkk := hrk _ (List.getElem_mem hkt)
    obtain ⟨m, hm⟩ : ∃ m, row[k] = m := ⟨_, rfl⟩
    rw [hm] at hql hkk
    have hmd : m < d.length := by omega
    obtain ⟨x, hxd⟩ : ∃ x, d[m] = x := ⟨_, rfl⟩
    have hgd2 : d.getD m 0 = x := by simp [hmd, hxd]
    rw [hgd2] at hql
    by_cases x1 : x = 1
    ·rw [if_pos x1] at hql
     cases hql
     simp only at hr
     cases hr
     repeat (first|refine QG ?_|refine QX (r:=by conv=>lhs;simp[-List.map_set,QV,hkt,hm,ops,oos,hps,hos,h1,hkk,hmd,hxd,x1]) (k:=?_))
     exact fin _ _ _ (by simp) rfl rfl
    have x1' : ¬ (x : Int) = 1 := by omega
    rw [if_neg x1] at hql
    by_cases x0 : x = 0
    ·rw [if_pos x0] at hql
     obtain ⟨⟨b2, s2⟩, hw2⟩ : ∃ p, Ss.ringW (bs.map Ss.tickB) g fuel m d = some p := by
      cases hz : Ss.ringW (bs.map Ss.tickB) g fuel m d with
      | none => rw [hz] at hql; cases hql
      | some q => exact ⟨q, rfl⟩
     rw [hw2] at hql
     have hs2 := Ss.ringW_len _ _ _ _ _ hw2
     have x0' : (x : Int) = 0 := by omega
     repeat (first|refine QG ?_|refine QX (r:=by conv=>lhs;simp[-List.map_set,QV,hkt,hm,ops,oos,hps,hos,h1,hkk,hmd,hxd,x1,x1',x0,x0']) (k:=?_))
     repeat refine QS ?_
     refine QR (r:=by conv=>lhs;simp[-List.map_set,QV,hkt,hm,ops,oos,opw,hps,hos,hpw,h1,h2,hkk,hmd,hxd,x1,x1',x0,x0']) (k:=?_)
     refine vcallv_any rfl rfl rfl (ih m d b2 s2 _ ps os pw hkk hdl (by rw [ops]; simp [uGet, h1, hps]) (by rw [oos]; simp [uGet]) (by rw [opw]; simp [uGet, h2, hpw]) h1 h2 hw2) ?_
     rintro X S2 ⟨rfl, rfl⟩
     rw [hupd]
     simp only [uSet, if_true]
     by_cases hb2 : b2 = true
     ·rw [hb2] at hql
      simp only at hql
      cases hql
      simp only at hr
      cases hr
      refine QM (by conv=>lhs;simp[-List.map_set,QV,hb2]) ?_
      refine QN ?_
      repeat (first|refine QG ?_|refine QX (r:=by conv=>lhs;simp[-List.map_set,QV]) (k:=?_))
      exact fin _ _ _ (by simp) rfl rfl
     ·have hb2' : b2 = false := by simpa using hb2
      rw [hb2'] at hql
      simp only at hql
      refine QM (by conv=>lhs;simp[-List.map_set,QV,hb2']) ?_
      refine QN ?_
      repeat (first|refine QG ?_|refine QX (r:=by conv=>lhs;simp[-List.map_set,QV]) (k:=?_))
      show Again _ _ _ _ _ _ _
      exact again ⟨Nat.sub_lt_sub_left hkt (Nat.lt_succ_self k), k + 1, s2, hkt, rfl, by omega, hql, by simp [Fr.only, hw], rfl⟩
    ·rw [if_neg x0] at hql
     have x0' : ¬ (x : Int) = 0 := by omega
     repeat (first|refine QG ?_|refine QX (r:=by conv=>lhs;simp[-List.map_set,QV,hkt,hm,ops,oos,hps,hos,h1,hkk,hmd,hxd,x1,x1',x0,x0']) (k:=?_))
     show Again _ _ _ _ _ _ _
     exact again ⟨Nat.sub_lt_sub_left hkt (Nat.lt_succ_self k), k + 1, d, hkt, rfl, hdl, hql, by simp [Fr.only, hw], rfl⟩
   ·have e1 : row.drop k = [] := by rw [List.drop_eq_nil_iff]; omega
    rw [e1, Ss.ringL] at hql
    cases hql
    simp only at hr
    cases hr
    have hnd : n < d.length := by omega
    have e2 : (d.map vnat).set n (.int .i64 2) = (d.set n 2).map vnat := by simp [List.map_set, vnat]
    repeat (first|refine QG ?_|refine QX (r:=by conv=>lhs;simp[-List.map_set,QV,hkt,ops,oos,hps,hos,h1,hn,hnd,hupd]) (k:=?_))
    rw [e2]
    exact fin _ _ _ (by simp) rfl rfl
end Go.Vw
