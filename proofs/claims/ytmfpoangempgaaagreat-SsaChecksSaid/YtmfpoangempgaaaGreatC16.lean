import Derived.Test.YtmfpoangempgaaaGreatC14
import Derived.Test.YtmfpoangempgaaaGreatC15
/-
  Part of the proof (texts SAsk, SDef, SDef2, SNum).
-/
set_option linter.unusedVariables false
set_option linter.unusedSimpArgs false
namespace Ss
/-- Where a value is made. -/
structure Def where
  made : Bool
  block : Int
  pos : Int
deriving DecidableEq, Inhabited
/-- Is a value there at a place, of a type? -/
def askOk (ts : List Int) (ds : List Def) (near : List Int) (block pos v t : Int) : Bool :=
  decide (0 ≤ v) && decide (v < ds.length) && decide (ts.getD v.toNat 0 = t) && (ds.getD v.toNat default).made &&
    (if (ds.getD v.toNat default).block = block then decide ((ds.getD v.toNat default).pos < pos) else Go.Vw.G.dominates near (ds.getD v.toNat default).block block)
def asks (ts : List Int) (ds : List Def) (near : List Int) (block pos : Int) (l types : List Int) : Bool := Go.Vw.eqF (askOk ts ds near block pos) l types
def typesOf (ts : List Int) (l : List Int) : List Int := l.map fun v => ts.getD v.toNat 0
/-- Numbers of values. -/
def InTs (n : Nat) (l : List Int) : Prop := ∀ v ∈ l, 0 ≤ v ∧ v < n
end Ss
namespace Go.Vw
open Go.Proofs Go.RowKit
set_option maxRecDepth 10000
set_option maxHeartbeats 2000000

def encDef (d : Ss.Def) : V := .agg [.bool d.made, vint d.block, vint d.pos]
theorem encDef_eq (d : Ss.Def) : encDef d = .agg [.bool d.made, vint d.block, vint d.pos] := nr rfl
theorem encDef_nc (d : Ss.Def) : (encDef d).ncells = 3 := nr rfl
theorem encDef_cells (d : Ss.Def) : (encDef d).cells = [.bool d.made, vint d.block, vint d.pos] := nr rfl
theorem encDef_closed (d : Ss.Def) : (encDef d).closed = true := rfl
attribute [simp] encDef_eq encDef_nc
/-- The checker's cells. -/
def ckC (e : Ss.Env) (f : Ss.Fn) (ds near : V) : List V := [vl encSig e.sigs, vint e.imports, vl vint e.globals, vl V.bool e.muts, .bool e.mem, vl vint f.sig.inn, vl vint f.sig.out, vl vint f.types, vl encBlock f.blocks, ds, near]
theorem ckC_eq (e : Ss.Env) (f : Ss.Fn) (ds near : V) : ckC e f ds near = [vl encSig e.sigs, vint e.imports, vl vint e.globals, vl V.bool e.muts, .bool e.mem, vl vint f.sig.inn, vl vint f.sig.out, vl vint f.types, vl encBlock f.blocks, ds, near] := nr rfl
attribute [simp] ckC_eq
abbrev ckV (e : Ss.Env) (f : Ss.Fn) (ds : List Ss.Def) (near : List Int) : V := .ref (.agg (ckC e f (vl encDef ds) (vl vint near)))

theorem boxSt {B : Store} {u : Upds} {l : List (Option (Nat × List V))} {k s : Nat} {x : V} (hk : k < l.length) (hc : (l[k]?).join = some (s, [x])) (h1 : x.closed1 = true) : Ghost (.ptr (lid B.nx k) 0) (St B u l) (.ref x) (St B u (l.set k none)) := by
  rw [← St_del hk]
  exact Ghost.box (by rw [St_get]; exact hc) h1

theorem types_v (e : Ss.Env) (f : Ss.Fn) (ds : List Ss.Def) (near : List Int) (l : List Int) (hl : l.length ≤ 1048576) (hv : Ss.InTs f.types.length l) : VPure Tryz.prog 52 [ckV e f ds near, vl vint l] (vl vint (Ss.typesOf f.types l)) := by
  intro S
  obtain ⟨⟨fi, fo⟩, ts, bs⟩ := f
  simp only at hv
  generalize hg : (fun v : Int => ts.getD v.toNat 0) = g
  have hX : Ss.typesOf ts l = l.map g := by rw [Ss.typesOf, hg]
  simp only
  rw [hX]
  refine vcalls_start (c := bodyOf Tryz.f52) Tryz.func52 rfl rfl (by simp [Tryz.ntmps52]) ?_
  rw [Tryz.ntmps52]
  intro hwf
  repeat refine QS ?_
  refine QR (r:=by conv=>lhs;simp[-List.map_set,QV]) (k:=?_)
  refine QN ?_
  repeat refine QS ?_
  refine QR (r:=by conv=>lhs;simp[-List.map_set,QV]) (k:=?_)
  refine QN ?_
  refine vw_void 5 1 rfl (by conv => lhs; simp [Fr.set]) ?_
  repeat (first|refine QG ?_|refine QX (r:=by conv=>lhs;simp[-List.map_set,QV]) (k:=?_))
  repeat refine QS ?_
  refine vw_loopAt [0, 5, 8, 9, 10] rfl (fun c σ S' => ∃ (k : Nat) (out : List Int), k ≤ l.length ∧ c = l.length - k ∧ out = (l.take k).map g ∧ out.length = k ∧ σ = [(0, ckV e ⟨⟨fi, fo⟩, ts, bs⟩ ds near), (5, .slice (lid S.nx 0) 0 k), (8, vl vint l), (9, vnat l.length), (10, vnat k)] ∧ S' = St S [] [some (1, out.map vint)]) l.length ?_ ?_
  · exact ⟨0, [], by omega, rfl, by simp, rfl, by simp [Fr.only], by simp⟩
  · rintro c σ T ⟨k, out, hk, rfl, ho, hlen, rfl, rfl⟩
    by_cases hkt : k < l.length
    · have hw := wrapNat hkt (by omega)
      obtain ⟨h0, h1⟩ := hv _ (List.getElem_mem hkt)
      obtain ⟨v, hx⟩ : ∃ v, l[k] = v := ⟨_, rfl⟩
      rw [hx] at h0 h1
      obtain ⟨n, rfl⟩ : ∃ n : Nat, v = n := ⟨v.toNat, by omega⟩
      have hn : n < ts.length := by omega
      have hgn : g (n : Int) = ts[n] := by rw [← hg]; simp [hn]
      have htk : l.take (k + 1) = l.take k ++ [(n : Int)] := by rw [List.take_add_one, List.getElem?_eq_getElem hkt, hx]; rfl
      have hb : (k + 1) * 8 ≤ 140737488355328 := by omega
      have hb' : k + 1 ≤ 140737488355328 := by omega
      repeat (first|refine QG ?_|refine QX (r:=by conv=>lhs;simp[-List.map_set,QV,hkt,hx,hn,hlen,hb,hb']) (k:=?_))
      refine QA [2] (h:=⟨?_, k + 1, out ++ [ts[n]], hkt, rfl, by rw [htk, List.map_append, ho]; simp [hgn], by simp [hlen], by simp [hw], by simp⟩)
      omega
    · have hke : k = l.length := by omega
      subst hke
      rw [List.take_length] at ho
      repeat (first|refine QG ?_|refine QX (r:=by conv=>lhs;simp[-List.map_set,QV,hkt]) (k:=?_))
      rw [← ho]
      exact done_via hwf ((frz1 (by simp) (by rfl) (all_closed1 vint (fun _ => rfl) _) (by simpa using hlen)).toB _) rfl

theorem asks1_v (e : Ss.Env) (f : Ss.Fn) (ds : List Ss.Def) (near : List Int) (block pos v t : Int) (hds : ds.length = f.types.length) (htl : f.types.length < 2^63) (hnl : near.length < 2^63) :
    VPure Tryz.prog 79 ([vint v, vint t] ++ [.ref (ckV e f ds near), .ref (vint block), .ref (vint pos)]) (.bool (Ss.askOk f.types ds near block pos v t)) := by
  intro S
  obtain ⟨⟨fi, fo⟩, ts, bs⟩ := f
  simp only at hds htl ⊢
  by_cases h0 : v < 0
  · have e : Ss.askOk ts ds near block pos v t = false := by simp [Ss.askOk]; omega
    rw [e]
    refine vcalls_start (c := bodyOf Tryz.f79) Tryz.func79 rfl rfl (by simp [Tryz.ntmps79]) ?_
    rw [Tryz.ntmps79]
    intro hwf
    repeat (first|refine QG ?_|refine QX (r:=by conv=>lhs;simp[-List.map_set,QV,h0]) (k:=?_))
    exact done_pure hwf (by simp) rfl
  obtain ⟨n, rfl⟩ : ∃ n : Nat, v = n := ⟨v.toNat, by omega⟩
  by_cases h1 : n < ds.length
  case neg =>
    have h1' : ¬ (n : Int) < (ds.length : Int) := by omega
    have h1'' : (ds.length : Int) ≤ (n : Int) := by omega
    have e : Ss.askOk ts ds near block pos n t = false := by simp [Ss.askOk]; omega
    rw [e]
    refine vcalls_start (c := bodyOf Tryz.f79) Tryz.func79 rfl rfl (by simp [Tryz.ntmps79]) ?_
    rw [Tryz.ntmps79]
    intro hwf
    repeat (first|refine QG ?_|refine QX (r:=by conv=>lhs;simp[-List.map_set,QV,h0,h1,h1',h1'']) (k:=?_))
    exact done_pure hwf (by simp) rfl
  have hnt : n < ts.length := by omega
  have h1'' : ¬ (ds.length : Int) ≤ (n : Int) := by omega
  obtain ⟨tt, htt⟩ : ∃ x, ts[n] = x := ⟨_, rfl⟩
  obtain ⟨⟨dm, db, dp⟩, hd⟩ : ∃ x, ds[n] = x := ⟨_, rfl⟩
  have hX : Ss.askOk ts ds near block pos n t = (decide (tt = t) && (dm && (if db = block then decide (dp < pos) else G.dominates near db block))) := by
    simp [Ss.askOk, h1, hnt, htt, hd, Bool.and_assoc]
  rw [hX]
  by_cases h2 : tt = t
  case neg =>
    refine vcalls_start (c := bodyOf Tryz.f79) Tryz.func79 rfl rfl (by simp [Tryz.ntmps79]) ?_
    rw [Tryz.ntmps79]
    intro hwf
    repeat (first|refine QG ?_|refine QX (r:=by conv=>lhs;simp[-List.map_set,QV,h0,h1,h1'',hnt,htt,h2]) (k:=?_))
    exact done_pure hwf (by simp [h2]) rfl
  cases dm with
  | false =>
    refine vcalls_start (c := bodyOf Tryz.f79) Tryz.func79 rfl rfl (by simp [Tryz.ntmps79]) ?_
    rw [Tryz.ntmps79]
    intro hwf
    repeat (first|refine QG ?_|refine QX (r:=by conv=>lhs;simp[-List.map_set,QV,h0,h1,h1'',hnt,htt,h2,hd]) (k:=?_))
    exact done_pure hwf (by simp) rfl
  | true =>
    by_cases h3 : db = block
    · refine vcalls_start (c := bodyOf Tryz.f79) Tryz.func79 rfl rfl (by simp [Tryz.ntmps79]) ?_
      rw [Tryz.ntmps79]
      intro hwf
      repeat (first|refine QG ?_|refine QX (r:=by conv=>lhs;simp[-List.map_set,QV,h0,h1,h1'',hnt,htt,h2,hd,h3]) (k:=?_))
      exact done_pure hwf (by simp [h2, h3]) rfl
    · have cd := Dominates_v near db block hnl
      generalize G.dominates near db block = y at *
      refine vcalls_start (c := bodyOf Tryz.f79) Tryz.func79 rfl rfl (by simp [Tryz.ntmps79]) ?_
      rw [Tryz.ntmps79]
      intro hwf
      repeat (first|refine QG ?_|refine QX (r:=by conv=>lhs;simp[-List.map_set,QV,h0,h1,h1'',hnt,htt,h2,hd,h3]) (k:=?_))
      repeat refine QS ?_
      refine QD (r:=by conv=>lhs;simp[-List.map_set,QV,h0,h1,h1'',hnt,htt,h2,hd,h3]) (k:=?_)
      refine vcall_useH (cd) (by rfl) ?_
      refine QM (by conv=>lhs;simp[-List.map_set,QV]) ?_
      refine QN ?_
      repeat (first|refine QG ?_|refine QX (r:=by conv=>lhs;simp[-List.map_set,QV]) (k:=?_))
      exact done_pure hwf (by simp [h2, h3]) rfl

theorem asks_v (e : Ss.Env) (f : Ss.Fn) (ds : List Ss.Def) (near : List Int) (block pos : Int) (l types : List Int) (hds : ds.length = f.types.length) (htl : f.types.length < 2^63) (hnl : near.length < 2^63) (hl : l.length < 2^63) :
    VPure Tryz.prog 54 [ckV e f ds near, vint block, vint pos, vl vint l, vl vint types] (.bool (Ss.asks f.types ds near block pos l types)) := by
  intro S
  refine vcalls_start (c := bodyOf Tryz.f54) Tryz.func54 rfl rfl (by simp [Tryz.ntmps54]) ?_
  rw [Tryz.ntmps54]
  intro hwf
  repeat refine QS ?_
  refine QR (r:=by conv=>lhs;simp[-List.map_set,QV]) (k:=?_)
  refine QN ?_
  refine vw_ghost' 5 rfl ((boxSt (by simp) rfl rfl)) (by conv => lhs; simp [Fr.set]) ?_
  simp only [List.set_cons_succ, List.set_cons_zero]
  refine vw_ghost' 6 rfl ((boxSt (by simp) rfl rfl)) (by conv => lhs; simp [Fr.set]) ?_
  simp only [List.set_cons_succ, List.set_cons_zero]
  refine vw_ghost' 7 rfl ((boxSt (by simp) rfl rfl)) (by conv => lhs; simp [Fr.set]) ?_
  simp only [List.set_cons_succ, List.set_cons_zero]
  repeat refine QS ?_
  refine QR (r:=by conv=>lhs;simp[-List.map_set,QV]) (k:=?_)
  refine vcall_useH (EqFI_v l types (Ss.askOk f.types ds near block pos) 79 [.ref (ckV e f ds near), .ref (vint block), .ref (vint pos)] rfl hl (fun _ k h1 h2 => asks1_v e f ds near block pos _ _ hds htl hnl)) (by rfl) ?_
  refine QM (by conv=>lhs;simp[-List.map_set,QV]) ?_
  refine QN ?_
  repeat (first|refine QG ?_|refine QX (r:=by conv=>lhs;simp[-List.map_set,QV]) (k:=?_))
  exact done_pure hwf rfl rfl
end Go.Vw

namespace Ss
/-- Values made at a place; none: one that is made already, or is none. -/
def put (block pos : Int) : List Def → List Int → Option (List Def)
  | ds, [] => some ds
  | ds, v :: l => if v < 0 ∨ (ds.length : Int) ≤ v ∨ (ds.getD v.toNat default).made = true then none else put block pos (ds.set v.toNat ⟨true, block, pos⟩) l
def putCode (i : Int) : Nat → List Def → List Ins → Option (List Def)
  | _, ds, [] => some ds
  | k, ds, x :: r => (put i k ds x.outs).bind fun d => putCode i (k + 1) d r
def putBlocks : Nat → List Def → List Block → Option (List Def)
  | _, ds, [] => some ds
  | i, ds, b :: bs => ((put i (-1) ds b.params).bind fun d => putCode i 0 d b.code).bind fun d => putBlocks (i + 1) d bs
def defsOf (f : Fn) : Option (List Def) := putBlocks 0 (List.replicate f.types.length ⟨false, 0, 0⟩) f.blocks
theorem put_len {block pos : Int} : ∀ {l : List Int} {ds d : List Def}, put block pos ds l = some d → d.length = ds.length
  | [], ds, d, h => by simp only [put, Option.some.injEq] at h; rw [h]
  | v :: l, ds, d, h => by
    simp only [put] at h
    split at h
    · cases h
    · rw [put_len h]; simp
end Ss
namespace Go.Vw
open Go.Proofs Go.RowKit
set_option maxRecDepth 10000
set_option maxHeartbeats 4000000

theorem flatC_set {α : Type} {enc : α → V} {s : Nat} (hs : ∀ a, (enc a).cells.length = s) (a : α) : ∀ (l : List α) (n : Nat), n < l.length → flatC enc (l.set n a) = (flatC enc l).take (n * s) ++ (enc a).cells ++ (flatC enc l).drop (n * s + s)
  | [], n, h => by simp at h
  | x :: l, 0, h => by
    simp only [List.set_cons_zero, flatC, List.flatMap_cons, Nat.zero_mul, List.take_zero, List.nil_append, Nat.zero_add]
    rw [← hs x, List.drop_left]
  | x :: l, n + 1, h => by
    have ih := flatC_set hs a l n (by simpa using h)
    simp only [List.set_cons_succ, flatC, List.flatMap_cons] at ih ⊢
    have e1 : (n + 1) * s = (enc x).cells.length + n * s := by rw [hs, Nat.add_mul]; omega
    have e2 : (n + 1) * s + s = (enc x).cells.length + (n * s + s) := by omega
    rw [ih, e2, e1, List.take_length_add_append, List.drop_length_add_append]
    simp [List.append_assoc]

theorem old_lt {S : Store} (hwf : S.Wf) {o : Nat} {c} (h : S.get o = some c) : o < S.nx := by
  rcases Nat.lt_or_ge o S.nx with h' | h'
  · exact h'
  · rw [hwf.gone o h'] at h; cases h

theorem define1_v (S : Store) (e : Ss.Env) (f : Ss.Fn) (nearV : V) (pc ck od : Nat) (ds : List Ss.Def) (l : List Int) (block pos : Int) (hl : l.length < 2^63) (hn : ds.length < 2^40) (hp : S.get pc = some (1, [.ptr ck 0]))
    (hc : S.get ck = some (11, ckC e f (.slice od 0 ds.length) nearV)) (hd : S.get od = some (3, flatC encDef ds)) (h1 : pc ≠ od) (h2 : ck ≠ od) :
    VCalls Tryz.prog 47 ([vl vint l, vint block, vint pos] ++ [.ptr pc 0]) S (fun r T => ∃ ds', ds'.length = ds.length ∧ r = .bool (Ss.put block pos ds l).isSome ∧ (∀ d, Ss.put block pos ds l = some d → ds' = d) ∧ T = S.upd od (3, flatC encDef ds')) := by
  obtain ⟨⟨fi, fo⟩, ts, bs⟩ := f
  obtain ⟨sg, im, gl, mu, me⟩ := e
  refine vcalls_start (c := bodyOf Tryz.f47) Tryz.func47 rfl rfl (by simp [Tryz.ntmps47]) ?_
  rw [Tryz.ntmps47]
  intro hwf
  have hpn := old_lt hwf hp
  have hcn := old_lt hwf hc
  have hdn := old_lt hwf hd
  have op := fun u l => @St_old S u l pc hpn
  have oc := fun u l => @St_old S u l ck hcn
  have od' := fun u l => @St_old S u l od hdn
  have hupd := fun u l c => @St_updOld S u l c od hdn
  have fin : ∀ (X : Bool) (d : List Ss.Def), d.length = ds.length → (Ss.put block pos ds l).isSome = X → (∀ d', Ss.put block pos ds l = some d' → d = d') → ∀ r : V, r = .bool X →
      PostB S.nx (fun r T => ∃ ds', ds'.length = ds.length ∧ r = .bool (Ss.put block pos ds l).isSome ∧ (∀ d, Ss.put block pos ds l = some d → ds' = d) ∧ T = S.upd od (3, flatC encDef ds')) r (St S [(od, some (3, flatC encDef d))] []) := by
    intro X d k1 k2 k3 r k4
    refine done_turned (X := .bool X) (S' := S.upd od (3, flatC encDef d)) hwf k4 rfl (by simp [gcOkU, gcOkE, flatC_ids encDef_closed]) ?_ ⟨d, k1, by rw [k2], k3, rfl⟩
    simp only [gcU, gcE, Option.map_some, flatC_ren encDef_closed]
    exact St_upd1 hwf hdn
  rw [St_touch hd]
  repeat (first|refine QG ?_|refine QX (r:=by conv=>lhs;simp[-List.map_set,QV]) (k:=?_))
  repeat refine QS ?_
  refine vw_loopAt [1, 2, 3, 10, 11, 12] rfl (fun c σ S' => ∃ (k : Nat) (d : List Ss.Def), k ≤ l.length ∧ c = l.length - k ∧ d.length = ds.length ∧ Ss.put block pos d (l.drop k) = Ss.put block pos ds l ∧ σ = [(1, vint block), (2, vint pos), (3, .ptr pc 0), (10, vl vint l), (11, vnat l.length), (12, vnat k)] ∧ S' = St S [(od, some (3, flatC encDef d))] []) l.length ?_ ?_
  · exact ⟨0, ds, by omega, rfl, rfl, rfl, by simp [Fr.only], rfl⟩
  · rintro c σ T ⟨k, d, hk, rfl, hdl, hpd, rfl, rfl⟩
    by_cases hkt : k < l.length
    · have hw := wrapNat hkt hl
      have hst : Ss.put block pos d (l.drop k) = if l[k] < 0 ∨ (d.length : Int) ≤ l[k] ∨ (d.getD l[k].toNat default).made = true then none else Ss.put block pos (d.set l[k].toNat ⟨true, block, pos⟩) (l.drop (k + 1)) := by rw [List.drop_eq_getElem_cons hkt, Ss.put]
      obtain ⟨v, hx⟩ : ∃ v, l[k] = v := ⟨_, rfl⟩
      rw [hx] at hst
      have bad : (v < 0 ∨ (d.length : Int) ≤ v ∨ (d.getD v.toNat default).made = true) → Ss.put block pos ds l = none := fun hb => by rw [← hpd, hst, if_pos hb]
      by_cases q1 : v < 0
      · repeat (first|refine QG ?_|refine QX (r:=by conv=>lhs;simp[-List.map_set,QV,hkt,hx,q1]) (k:=?_))
        have hb := bad (.inl q1)
        exact fin false d hdl (by rw [hb]; rfl) (by rw [hb]; simp) _ (by simp)
      obtain ⟨n, rfl⟩ : ∃ n : Nat, v = n := ⟨v.toNat, by omega⟩
      by_cases q2 : n < d.length
      case neg =>
        have q2' : (ds.length : Int) ≤ (n : Int) := by omega
        have hb := bad (.inr (.inl (by omega)))
        repeat (first|refine QG ?_|refine QX (r:=by conv=>lhs;simp[-List.map_set,QV,hkt,hx,q1,q2,q2',op,oc,od',hp,hc,h1,h2]) (k:=?_))
        exact fin false d hdl (by rw [hb]; rfl) (by rw [hb]; simp) _ (by simp)
      have q2' : ¬ (ds.length : Int) ≤ (n : Int) := by omega
      obtain ⟨⟨dm, db, dp⟩, hdx⟩ : ∃ x, d[n] = x := ⟨_, rfl⟩
      have hdg : d.getD (n : Int).toNat default = ⟨dm, db, dp⟩ := by simp [q2, hdx]
      have hcell : (flatC encDef d)[n * 3]? = some (.bool dm) := flatC_get (enc := encDef) (s := 3) (fun _ => rfl) d n 0 ⟨dm, db, dp⟩ (.bool dm) (by rw [← hdx]; exact List.getElem?_eq_getElem q2) rfl
      have hfl : (flatC encDef d).length = d.length * 3 := flatC_len (enc := encDef) (s := 3) (fun _ => rfl) d
      have hn2 : n < ds.length := by omega
      by_cases q3 : dm = true
      · have hb := bad (.inr (.inr (by rw [hdg]; exact q3)))
        repeat (first|refine QG ?_|refine QX (r:=by conv=>lhs;simp[-List.map_set,QV,hkt,hx,q1,q2,q2',op,oc,od',hp,hc,h1,h2,hcell,hn2,q3]) (k:=?_))
        exact fin false d hdl (by rw [hb]; rfl) (by rw [hb]; simp) _ (by simp)
      · have q3' : dm = false := by simpa using q3
        have hfit : n * 3 + 3 ≤ (flatC encDef d).length := by omega
        rw [if_neg (by rw [hdg]; rintro (h | h | h) <;> first | exact q1 h | exact q3 h | omega)] at hst
        have hfs := flatC_set (enc := encDef) (s := 3) (fun _ => rfl) ⟨true, block, pos⟩ d n q2
        repeat (first|refine QG ?_|refine QX (r:=by conv=>lhs;simp[-List.map_set,QV,hkt,hx,q1,q2,q2',op,oc,od',hp,hc,h1,h2,hcell,hn2,q3',hfit,hupd]) (k:=?_))
        show Again _ _ _ _ _ _ _
        exact again ⟨Nat.sub_lt_sub_left hkt (Nat.lt_succ_self k), k + 1, d.set n ⟨true, block, pos⟩, hkt, rfl, by simp [hdl], by rw [← hpd, hst]; rfl, by simp [Fr.only, hw], by rw [hfs]; simp [encDef_cells]⟩
    · have e1 : l.drop k = [] := by rw [List.drop_eq_nil_iff]; omega
      rw [e1] at hpd
      have hpe : Ss.put block pos ds l = some d := by rw [← hpd]; rfl
      repeat (first|refine QG ?_|refine QX (r:=by conv=>lhs;simp[-List.map_set,QV,hkt]) (k:=?_))
      exact fin true d hdl (by rw [hpe]; rfl) (by rw [hpe]; simp) _ (by simp)
end Go.Vw

namespace Go.Vw
open Go.Proofs Go.RowKit
set_option maxRecDepth 10000
set_option maxHeartbeats 4000000

theorem putBlocks_one {i : Nat} {ds : List Ss.Def} {bs : List Ss.Block} (h : i < bs.length) : Ss.putBlocks i ds (bs.drop i) = ((Ss.put i (-1) ds bs[i].params).bind fun d => Ss.putCode i 0 d bs[i].code).bind fun d => Ss.putBlocks (i + 1) d (bs.drop (i + 1)) := by
  rw [List.drop_eq_getElem_cons h, Ss.putBlocks]
theorem putCode_one {i : Int} {k : Nat} {ds : List Ss.Def} {l : List Ss.Ins} (h : k < l.length) : Ss.putCode i k ds (l.drop k) = (Ss.put i k ds l[k].outs).bind fun d => Ss.putCode i (k + 1) d (l.drop (k + 1)) := by
  rw [List.drop_eq_getElem_cons h, Ss.putCode]
theorem flatC_rep0 (n : Nat) : (List.replicate n [V.bool false, .int .i64 0, .int .i64 0]).flatten = flatC encDef (List.replicate n ⟨false, 0, 0⟩) := by
  induction n with
  | zero => rfl
  | succ n ih => rw [List.replicate_succ, List.replicate_succ, List.flatten_cons, ih]; rfl

theorem renL_defs (f : Nat → Nat) (l : List Ss.Def) : V.renL f (flatC encDef l) = flatC encDef l := flatC_ren encDef_closed f l
theorem idsL_defs (p : Nat → Bool) (l : List Ss.Def) : V.idsL p (flatC encDef l) = true := flatC_ids encDef_closed p l

theorem define_v (S : Store) (e : Ss.Env) (f : Ss.Fn) (ck : Nat) (hf : f.Fits) (hts : f.types.length ≤ 1048576) (hc : S.get ck = some (11, ckC e f .nils .nils)) :
    VCalls Tryz.prog 18 [.ptr ck 0] S (fun r T => ∃ ds', ds'.length = f.types.length ∧ r = .bool (Ss.defsOf f).isSome ∧ (∀ d, Ss.defsOf f = some d → ds' = d) ∧ T = St S [(ck, some (11, ckC e f (.slice (lid S.nx 0) 0 f.types.length) .nils))] [some (3, flatC encDef ds')]) := by
  obtain ⟨_, _, ⟨hbl0, hbf⟩⟩ := hf
  obtain ⟨⟨fi, fo⟩, ts, bs⟩ := f
  obtain ⟨sg, im, gl, mu, me⟩ := e
  simp only at hts hbl0 hbf hc ⊢
  have hbl : bs.length < 2^63 := by omega
  generalize hD : Ss.defsOf ⟨⟨fi, fo⟩, ts, bs⟩ = D
  refine vcalls_start (c := bodyOf Tryz.f18) Tryz.func18 rfl rfl (by simp [Tryz.ntmps18]) ?_
  rw [Tryz.ntmps18]
  intro hwf
  have hcn := old_lt hwf hc
  have oc := fun u l => @St_old S u l ck hcn
  have hupd := fun u l c => @St_updOld S u l c ck hcn
  have gp := fun ks => gcP_old (n := S.nx) ks hcn
  have gt := fun ks => gcTo_old (n := S.nx) ks hcn
  have hb24 : ts.length * 24 ≤ 140737488355328 := by omega
  have hb0 : ts.length ≤ 140737488355328 := by omega
  rw [St_touch hc]
  repeat refine QS ?_
  refine QR (r:=by conv=>lhs;simp[-List.map_set,QV]) (k:=?_)
  refine QN ?_
  repeat refine QS ?_
  refine vw_drawW (St S [(ck, none)] [some (1, [.ptr ck 0])]) (St S [(ck, some (11, ckC ⟨sg, im, gl, mu, me⟩ ⟨⟨fi, fo⟩, ts, bs⟩ .nils .nils))] [some (1, [.ptr ck 0])]) [13] rfl (by kernel_rfl) (by conv => lhs; reduce) (by conv => lhs; reduce) (by kernel_rfl) (by kernel_rfl) (ok_St (by simp [subU, shpU, subL, shpL])) (by conv => lhs; simp [-List.map_set,QV, oc, hc]) ?_
  refine vseg_write rfl (by conv=>lhs;simp[-List.map_set,QV,hb24,hb0]) (ok_St (by simp [subU, shpU, subL, shpL])) ?_
  refine QM (by conv=>lhs;simp[-List.map_set,QV,oc,hc]) ?_
  refine vseg_write rfl (by conv=>lhs;simp[-List.map_set,QV,oc,hc,hupd]) (ok_St (by simp [subU, shpU, subL, shpL])) ?_
  refine QN ?_
  have hr0 : rep0 [V.bool false, .int .i64 0, .int .i64 0] ts.length = flatC encDef (List.replicate ts.length ⟨false, 0, 0⟩) := flatC_rep0 _
  repeat (first|refine QG ?_|refine QX (r:=by conv=>lhs;simp[-List.map_set,QV,oc,hupd]) (k:=?_))
  repeat refine QS ?_
  refine vw_loopAt [3, 23, 24, 25] rfl (fun c σ S' => ∃ (k : Nat) (d : List Ss.Def), k ≤ bs.length ∧ c = bs.length - k ∧ d.length = ts.length ∧ Ss.putBlocks k d (bs.drop k) = D ∧ σ = [(3, .func 47 [.ptr (lid S.nx 0) 0]), (23, vl encBlock bs), (24, vnat bs.length), (25, vnat k)] ∧ S' = St S [(ck, some (11, ckC ⟨sg, im, gl, mu, me⟩ ⟨⟨fi, fo⟩, ts, bs⟩ (.slice (lid S.nx 1) 0 ts.length) .nils))] [some (1, [.ptr ck 0]), some (3, flatC encDef d)]) bs.length ?_ ?_
  · exact ⟨0, List.replicate ts.length ⟨false, 0, 0⟩, by omega, rfl, by simp, by rw [← hD]; rfl, by simp [Fr.only], by simp [hr0]⟩
  · rintro c σ T ⟨k, d, hk, rfl, hdl, hpd, rfl, rfl⟩
    by_cases hkt : k < bs.length
    · have hw := wrapNat hkt hbl
      have hst := putBlocks_one (ds := d) hkt
      have hbk := hbf _ (List.getElem_mem hkt)
      obtain ⟨⟨ps, code, ⟨tk, ta, to, az⟩⟩, hx⟩ : ∃ b, bs[k] = b := ⟨_, rfl⟩
      rw [hx] at hst hbk
      obtain ⟨⟨hpl, _⟩, ⟨hcl, hcf⟩, _⟩ := hbk
      simp only at hst hpl hcl hcf
      repeat (first|refine QG ?_|refine QX (r:=by conv=>lhs;simp[-List.map_set,QV,hkt,hx]) (k:=?_))
      repeat refine QS ?_
      refine QR (r:=by conv=>lhs;simp[-List.map_set,QV,hkt,hx]) (k:=?_)
      refine vcallv_any rfl rfl rfl (define1_v _ ⟨sg, im, gl, mu, me⟩ ⟨⟨fi, fo⟩, ts, bs⟩ .nils (lid S.nx 0) ck (lid S.nx 1) d ps k (-1) (by omega) (by omega) (by simp) (by rw [oc]; simp [uGet, hdl]) (by simp) (by simp [lid]) (by simp [lid]; omega)) ?_
      rintro X S2 ⟨d1, hd1, rfl, hp1, rfl⟩
      rw [St_upd (by simp)]
      simp only [List.set_cons_succ, List.set_cons_zero]
      obtain ⟨z, hz⟩ : ∃ z, (Ss.put k (-1) d ps).isSome = z := ⟨_, rfl⟩
      rw [hz]
      by_cases hz1 : z = true
      case neg =>
        have hz2 : z = false := by simpa using hz1
        have hD2 : D = none := by
          rw [← hpd, hst]
          have : Ss.put k (-1) d ps = none := by rw [hz2] at hz; simpa using hz
          rw [this]; rfl
        refine QM (by conv=>lhs;simp[-List.map_set,QV,hz2]) ?_
        refine QN ?_
        refine vw_only' [35] (by conv => lhs; simp [Fr.only, Fr.look]) ?_
        refine vw_gc [1] hwf (by decide) (by simp [-List.map_set, idsL_defs, gp]) (by conv => lhs; simp [-List.map_set]) (by conv => lhs; simp [-List.map_set, renL_defs, gt]) (by conv => lhs; simp [-List.map_set]) ?_
        repeat (first|refine QG ?_|refine QX (r:=by conv=>lhs;simp[-List.map_set,QV]) (k:=?_))
        exact done_as ⟨d1, by omega, by simp [hD2], by simp [hD2], by simp⟩
      obtain ⟨d2, hq1⟩ : ∃ d2, Ss.put k (-1) d ps = some d2 := by rw [hz1] at hz; exact Option.isSome_iff_exists.1 hz
      obtain rfl := hp1 _ hq1
      rw [hq1] at hst
      have hst1 : Ss.putBlocks k d (bs.drop k) = (Ss.putCode k 0 d1 code).bind fun d => Ss.putBlocks (k + 1) d (bs.drop (k + 1)) := hst
      refine QM (by conv=>lhs;simp[-List.map_set,QV,hz1]) ?_
      refine QN ?_
      repeat (first|refine QG ?_|refine QX (r:=by conv=>lhs;simp[-List.map_set,QV]) (k:=?_))
      refine vw_only' [3, 4, 23, 24, 25, 37, 38, 39] (by conv => lhs; simp [Fr.only, Fr.look]) ?_
      refine vw_gc [0, 1] hwf (by decide) (by simp [-List.map_set, idsL_defs, gp]) (by conv => lhs; simp [-List.map_set]) (by conv => lhs; simp [-List.map_set, renL_defs, gt]) (by conv => lhs; simp [-List.map_set]) ?_
      repeat refine QS ?_
      refine vw_loopAt [3, 4, 23, 24, 25, 37, 38, 39] rfl (fun c σ S' => ∃ (j : Nat) (d : List Ss.Def), j ≤ code.length ∧ c = code.length - j ∧ d.length = ts.length ∧ Ss.putCode k j d (code.drop j) = Ss.putCode k 0 d1 code ∧ σ = [(3, .func 47 [.ptr (lid S.nx 0) 0]), (4, vnat k), (23, vl encBlock bs), (24, vnat bs.length), (25, vnat k), (37, vl encIns code), (38, vnat code.length), (39, vnat j)] ∧ S' = St S [(ck, some (11, ckC ⟨sg, im, gl, mu, me⟩ ⟨⟨fi, fo⟩, ts, bs⟩ (.slice (lid S.nx 1) 0 ts.length) .nils))] [some (1, [.ptr ck 0]), some (3, flatC encDef d)]) code.length ?_ ?_
      · exact ⟨0, d1, by omega, rfl, by omega, rfl, by simp [Fr.only], by simp⟩
      · rintro c σ T ⟨j, d3, hj, rfl, hdl3, hpc, rfl, rfl⟩
        by_cases hjt : j < code.length
        · have hwj := wrapNat hjt (by omega)
          have hsc := putCode_one (i := k) (ds := d3) hjt
          have hif := hcf _ (List.getElem_mem hjt)
          obtain ⟨⟨xo, xn, xa, xu⟩, hx2⟩ : ∃ b, code[j] = b := ⟨_, rfl⟩
          rw [hx2] at hsc hif
          obtain ⟨_, _, _, ⟨hul, _⟩⟩ := hif
          simp only at hsc hul
          repeat (first|refine QG ?_|refine QX (r:=by conv=>lhs;simp[-List.map_set,QV,hjt,hx2]) (k:=?_))
          repeat refine QS ?_
          refine QR (r:=by conv=>lhs;simp[-List.map_set,QV,hjt,hx2]) (k:=?_)
          refine vcallv_any rfl rfl rfl (define1_v _ ⟨sg, im, gl, mu, me⟩ ⟨⟨fi, fo⟩, ts, bs⟩ .nils (lid S.nx 0) ck (lid S.nx 1) d3 xu k j (by omega) (by omega) (by simp) (by rw [oc]; simp [uGet, hdl3]) (by simp) (by simp [lid]) (by simp [lid]; omega)) ?_
          rintro X S2 ⟨d4, hd4, rfl, hp4, rfl⟩
          rw [St_upd (by simp)]
          simp only [List.set_cons_succ, List.set_cons_zero]
          obtain ⟨z2, hz2⟩ : ∃ z, (Ss.put k j d3 xu).isSome = z := ⟨_, rfl⟩
          rw [hz2]
          by_cases hz3 : z2 = true
          case neg =>
            have hz4 : z2 = false := by simpa using hz3
            have hD2 : D = none := by
              have : Ss.put k j d3 xu = none := by rw [hz4] at hz2; simpa using hz2
              rw [← hpd, hst1, ← hpc, hsc, this]; rfl
            refine QM (by conv=>lhs;simp[-List.map_set,QV,hz4]) ?_
            refine QN ?_
            refine vw_only' [50] (by conv => lhs; simp [Fr.only, Fr.look]) ?_
            refine vw_gc [1] hwf (by decide) (by simp [-List.map_set, idsL_defs, gp]) (by conv => lhs; simp [-List.map_set]) (by conv => lhs; simp [-List.map_set, renL_defs, gt]) (by conv => lhs; simp [-List.map_set]) ?_
            repeat (first|refine QG ?_|refine QX (r:=by conv=>lhs;simp[-List.map_set,QV]) (k:=?_))
            exact done_as ⟨d4, by omega, by simp [hD2], by simp [hD2], by simp⟩
          obtain ⟨d5, hq5⟩ : ∃ d5, Ss.put k j d3 xu = some d5 := by rw [hz3] at hz2; exact Option.isSome_iff_exists.1 hz2
          obtain rfl := hp4 _ hq5
          rw [hq5] at hsc
          have hsc1 : Ss.putCode k j d3 (code.drop j) = Ss.putCode k (j + 1) d4 (code.drop (j + 1)) := hsc
          refine QM (by conv=>lhs;simp[-List.map_set,QV,hz3]) ?_
          refine QN ?_
          repeat (first|refine QG ?_|refine QX (r:=by conv=>lhs;simp[-List.map_set,QV]) (k:=?_))
          refine again_gc [0, 1] (by conv => lhs; simp [Fr.only]) hwf (by decide) (by simp [-List.map_set, renL_defs, idsL_defs, gp, gt]) (by conv => lhs; simp [-List.map_set, renL_defs, idsL_defs, gp, gt]) (by conv => lhs; simp [-List.map_set, renL_defs, idsL_defs, gp, gt]) (by conv => lhs; simp [-List.map_set, renL_defs, idsL_defs, gp, gt]) ⟨?_, j + 1, d4, hjt, rfl, by omega, by rw [← hpc, hsc1], by simp [hwj], by simp⟩
          omega
        · have e1 : code.drop j = [] := by rw [List.drop_eq_nil_iff]; omega
          rw [e1] at hpc
          have hpc1 : Ss.putCode k 0 d1 code = some d3 := by rw [← hpc]; rfl
          rw [hpc1] at hst1
          repeat (first|refine QG ?_|refine QX (r:=by conv=>lhs;simp[-List.map_set,QV,hjt]) (k:=?_))
          refine again_gc [0, 1] (by conv => lhs; simp [Fr.only]) hwf (by decide) (by simp [-List.map_set, renL_defs, idsL_defs, gp, gt]) (by conv => lhs; simp [-List.map_set, renL_defs, idsL_defs, gp, gt]) (by conv => lhs; simp [-List.map_set, renL_defs, idsL_defs, gp, gt]) (by conv => lhs; simp [-List.map_set, renL_defs, idsL_defs, gp, gt]) ⟨?_, k + 1, d3, hkt, rfl, by omega, by rw [← hpd, hst1]; rfl, by simp [hw], by simp⟩
          omega
    · have e1 : bs.drop k = [] := by rw [List.drop_eq_nil_iff]; omega
      rw [e1] at hpd
      have hD2 : D = some d := by rw [← hpd]; rfl
      repeat refine QS ?_
      refine QR (r:=by conv=>lhs;simp[-List.map_set,QV,hkt]) (k:=?_)
      refine QN ?_
      repeat refine QS ?_
      refine vw_condF rfl rfl rfl ?_
      repeat refine QS ?_
      refine vw_exitAt 0 rfl rfl ?_
      refine vw_only' [25] (by conv => lhs; simp [Fr.only, Fr.look]) ?_
      refine vw_gc [1] hwf (by decide) (by simp [-List.map_set, idsL_defs, gp]) (by conv => lhs; simp [-List.map_set]) (by conv => lhs; simp [-List.map_set, renL_defs, gt]) (by conv => lhs; simp [-List.map_set]) ?_
      repeat (first|refine QG ?_|refine QX (r:=by conv=>lhs;simp[-List.map_set,QV]) (k:=?_))
      exact done_as ⟨d, hdl, by simp [hD2], by simp [hD2], by simp⟩
end Go.Vw

namespace Ss
/-- A run of operators. -/
structure Grp where
  first : Int
  many : Int
  kind : Int
  ty : Int
deriving DecidableEq, Inhabited
def groups : List Grp := [⟨69, 1, 0, 127⟩, ⟨70, 10, 1, 127⟩, ⟨80, 1, 0, 126⟩, ⟨81, 10, 1, 126⟩, ⟨103, 3, 2, 127⟩, ⟨106, 15, 3, 127⟩, ⟨121, 3, 2, 126⟩, ⟨124, 15, 3, 126⟩, ⟨167, 1, 4, 126⟩, ⟨172, 2, 5, 127⟩, ⟨192, 2, 6, 127⟩, ⟨194, 3, 6, 126⟩]
def Grp.has (op : Int) (g : Grp) : Bool := decide (g.first ≤ op) && decide (op - g.first < g.many)
def findIn (op : Int) : List Grp → Option Grp
  | [] => none
  | g :: gs => if g.has op then some g else findIn op gs
def find (op : Int) : Option Grp := findIn op groups
theorem findIn_mem {op : Int} {g : Grp} : ∀ {gs : List Grp}, findIn op gs = some g → g ∈ gs ∧ g.has op = true
  | [], h => by simp [findIn] at h
  | x :: xs, h => by
    simp only [findIn] at h
    split at h
    · rename_i hx; cases h; exact ⟨by simp, hx⟩
    · obtain ⟨h1, h2⟩ := findIn_mem h; exact ⟨by simp [h1], h2⟩
def division (k : Int) : Bool := decide (3 ≤ k) && decide (k ≤ 6)
def total (op : Int) : Bool := match find op with
  | some g => !(decide (g.kind = 3) && division (op - g.first))
  | none => false
def pure (op : Int) : Bool := decide (op = 256) || decide (op = 27) || total op
/-- What a number's operator takes and answers. -/
def Grp.ins (g : Grp) : List Int := if g.kind = 1 ∨ g.kind = 3 then [g.ty, g.ty] else [g.ty]
def Grp.out (g : Grp) : Int := if g.kind = 0 ∨ g.kind = 1 ∨ g.kind = 4 then 127 else if g.kind = 5 then 126 else g.ty
def numSig (op : Int) : List Int × Int × Bool := match find op with
  | some g => (g.ins, g.out, true)
  | none => ([], 0, false)
end Ss
namespace Go.Vw
open Go.Proofs Go.RowKit
set_option maxRecDepth 10000
set_option maxHeartbeats 2000000

def encGrp (g : Ss.Grp) : V := .agg [vint g.first, vint g.many, vint g.kind, vint g.ty]
theorem encGrp_eq (g : Ss.Grp) : encGrp g = .agg [vint g.first, vint g.many, vint g.kind, vint g.ty] := nr rfl
theorem encGrp_nc (g : Ss.Grp) : (encGrp g).ncells = 4 := nr rfl
theorem encGrp_closed (g : Ss.Grp) : (encGrp g).closed = true := rfl
attribute [simp] encGrp_eq encGrp_nc

theorem groups_v : VPure Tryz.prog 101 [] (vl encGrp Ss.groups) := by
  intro S
  refine vcalls_start (c := bodyOf Tryz.f101) Tryz.func101 rfl rfl (by simp [Tryz.ntmps101]) ?_
  rw [Tryz.ntmps101]
  intro hwf
  have hr : rep0 [V.int .i64 0, .int .i64 0, .int .i64 0, .int .i64 0] 12 = [.int .i64 0, .int .i64 0, .int .i64 0, .int .i64 0, .int .i64 0, .int .i64 0, .int .i64 0, .int .i64 0, .int .i64 0, .int .i64 0, .int .i64 0, .int .i64 0, .int .i64 0, .int .i64 0, .int .i64 0, .int .i64 0, .int .i64 0, .int .i64 0, .int .i64 0, .int .i64 0, .int .i64 0, .int .i64 0, .int .i64 0, .int .i64 0, .int .i64 0, .int .i64 0, .int .i64 0, .int .i64 0, .int .i64 0, .int .i64 0, .int .i64 0, .int .i64 0, .int .i64 0, .int .i64 0, .int .i64 0, .int .i64 0, .int .i64 0, .int .i64 0, .int .i64 0, .int .i64 0, .int .i64 0, .int .i64 0, .int .i64 0, .int .i64 0, .int .i64 0, .int .i64 0, .int .i64 0, .int .i64 0] := rfl
  repeat (first|refine QG ?_|refine QX (r:=by conv=>lhs;simp[-List.map_set,QV,hr]) (k:=?_))
  exact done_via (l := [none]) hwf (Ghost.toB (frzSt (k := 0) (enc := encGrp) (s := 4) (fun _ => rfl) encGrp_closed Ss.groups (by simp) (by rfl)) _) rfl

def findV (op : Int) : Option Ss.Grp → V
  | some g => .tuple [encGrp g, vint (op - g.first), .bool true]
  | none => .tuple [encGrp ⟨0, 0, 0, 0⟩, vint 0, .bool false]

theorem find_v (op : Int) (ho : Ss.I64 op) : VPure Tryz.prog 85 [vint op] (findV op (Ss.find op)) := by
  intro S
  have hgs : ∀ g ∈ Ss.groups, 0 ≤ g.first ∧ g.first ≤ 1000 ∧ 0 ≤ g.many ∧ g.many ≤ 1000 := by decide
  have hlen : Ss.groups.length = 12 := rfl
  have cg := groups_v
  unfold Ss.find
  generalize Ss.groups = gs at *
  obtain ⟨ho1, ho2⟩ := ho
  refine vcalls_startC (c := bodyOf Tryz.f85) Tryz.func85 rfl (by conv => lhs; reduce) (by simp [Tryz.ntmps85]) ?_
  rw [Tryz.ntmps85]
  intro hwf
  repeat (first|refine QG ?_|refine QX (r:=by conv=>lhs;simp[-List.map_set,QV]) (k:=?_))
  repeat refine QS ?_
  refine QR (r:=by conv=>lhs;simp[-List.map_set,QV]) (k:=?_)
  refine vcall_useH (cg) (by rfl) ?_
  refine QM (by conv=>lhs;simp[-List.map_set,QV]) ?_
  refine QN ?_
  repeat (first|refine QG ?_|refine QX (r:=by conv=>lhs;simp[-List.map_set,QV]) (k:=?_))
  repeat refine QS ?_
  refine vw_loopAt [0, 2, 7, 8, 9] rfl (fun c σ S' => ∃ (k : Nat), k ≤ gs.length ∧ c = gs.length - k ∧ Ss.findIn op (gs.drop k) = Ss.findIn op gs ∧ σ = [(0, vint op), (2, .ptr (lid S.nx 0) 0), (7, vl encGrp gs), (8, vnat gs.length), (9, vnat k)] ∧ S' = St S [] [some (4, [.int .i64 0, .int .i64 0, .int .i64 0, .int .i64 0])]) gs.length ?_ ?_
  · exact ⟨0, by omega, rfl, rfl, by simp [Fr.only], rfl⟩
  · rintro c σ T ⟨k, hk, rfl, hd, rfl, rfl⟩
    by_cases hkt : k < gs.length
    · have hw := wrapNat hkt (by omega)
      have hst : Ss.findIn op (gs.drop k) = if gs[k].has op then some gs[k] else Ss.findIn op (gs.drop (k + 1)) := by rw [List.drop_eq_getElem_cons hkt, Ss.findIn]
      have hgk := hgs _ (List.getElem_mem hkt)
      obtain ⟨⟨g1, g2, g3, g4⟩, hx⟩ : ∃ g, gs[k] = g := ⟨_, rfl⟩
      rw [hx] at hst hgk
      simp only at hgk
      by_cases h1 : g1 ≤ op
      · have hws : IntKind.i64.wrap (op - g1) = op - g1 := wrap_i64 (by omega) (by omega)
        by_cases h2 : op - g1 < g2
        · have hst' : Ss.findIn op gs = some ⟨g1, g2, g3, g4⟩ := by rw [← hd, hst]; simp [Ss.Grp.has, h1, h2]
          rw [hst']
          repeat (first|refine QG ?_|refine QX (r:=by conv=>lhs;simp[-List.map_set,QV,hkt,hx,h1,h2,hws]) (k:=?_))
          repeat refine QS ?_
          refine vw_drawW (St S [] [none, some (4, [.int .i64 g1, .int .i64 g2, .int .i64 g3, .int .i64 g4])]) (St S [] [none, some (4, [.int .i64 g1, .int .i64 g2, .int .i64 g3, .int .i64 g4])]) [] rfl (by kernel_rfl) (by conv => lhs; reduce) (by conv => lhs; reduce) (by kernel_rfl) (by kernel_rfl) (ok_St (by simp [subU, shpU, subL, shpL])) (by conv => lhs; simp [-List.map_set,QV, hws]) ?_
          refine vseg_write rfl (by conv=>lhs;simp[-List.map_set,QV]) (ok_St (by simp [subU, shpU, subL, shpL])) ?_
          refine QM (by conv=>lhs;simp[-List.map_set,QV,hws]) ?_
          refine QN ?_
          repeat (first|refine QG ?_|refine QX (r:=by conv=>lhs;simp[-List.map_set,QV]) (k:=?_))
          exact doneC (by simp; rfl) (done_pure hwf (by simp [findV]) rfl)
        · rw [show Ss.Grp.has op ⟨g1, g2, g3, g4⟩ = false by simp [Ss.Grp.has, h1, h2]] at hst
          repeat (first|refine QG ?_|refine QX (r:=by conv=>lhs;simp[-List.map_set,QV,hkt,hx,h1,h2,hws]) (k:=?_))
          refine QA [0] (h:=⟨?_, k + 1, hkt, rfl, by rw [← hd, hst]; rfl, by simp [hw], rfl⟩)
          omega
      · rw [show Ss.Grp.has op ⟨g1, g2, g3, g4⟩ = false by simp [Ss.Grp.has, h1]] at hst
        repeat (first|refine QG ?_|refine QX (r:=by conv=>lhs;simp[-List.map_set,QV,hkt,hx,h1]) (k:=?_))
        refine QA [0] (h:=⟨?_, k + 1, hkt, rfl, by rw [← hd, hst]; rfl, by simp [hw], rfl⟩)
        omega
    · have e : gs.drop k = [] := by rw [List.drop_eq_nil_iff]; omega
      rw [e] at hd
      have hd' : Ss.findIn op gs = none := by rw [← hd]; rfl
      rw [hd']
      repeat (first|refine QG ?_|refine QX (r:=by conv=>lhs;simp[-List.map_set,QV,hkt]) (k:=?_))
      exact doneC (by simp; rfl) (done_pure hwf (by simp [findV]) rfl)
end Go.Vw
