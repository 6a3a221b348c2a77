import Derived.Test.YtmfpoangempgaaaC17
import Derived.Test.YtmfpoangempgaaaC21
import Derived.Test.YtmfpoangempgaaaC22
import Derived.Test.YtmfpoangempgaaaC20
/-
  Part of the proof (texts SShape, SNum, SNum2).
-/
set_option linter.unusedVariables false
set_option linter.unusedSimpArgs false
namespace Ss
open Go.Vw in
/-- Are a function's blocks all reached, and is there no circle without a tick? -/
def shapeOk (f : Fn) : Bool :=
  G.right (succs f.blocks) && decide ((G.ordI (succs f.blocks)).length = f.blocks.length) && !rings f.blocks (G.nats (succs f.blocks)) && decide (typesOf f.types (f.blocks.getD 0 default).params = f.sig.inn) &&
    match (f.blocks.getD 0 default).code with
    | x :: _ => decide (x.op = 258)
    | [] => false
end Ss
namespace Go.Vw
open Go.Proofs Go.RowKit
set_option maxRecDepth 10000
set_option maxHeartbeats 4000000

theorem typesO_v (S : Store) (e : Ss.Env) (f : Ss.Fn) (dv nv : V) (ck : Nat) (l : List Int) (hc : S.get ck = some (11, ckC e f dv nv)) (hl : l.length ≤ 1048576) (hv : Ss.InTs f.types.length l) :
    VCalls Try.prog 61 [.ptr ck 0, vl vint l] S (fun r T => r = vl vint (Ss.typesOf f.types l) ∧ T = S) := by
  obtain ⟨⟨fi, fo⟩, ts, bs⟩ := f
  simp only at hv ⊢
  generalize hg : (fun v : Int => ts.getD v.toNat 0) = g
  have hX : Ss.typesOf ts l = l.map g := by rw [Ss.typesOf, hg]
  rw [hX]
  refine vcalls_start (c := bodyOf Try.f61) Try.func61 rfl rfl (by simp [Try.ntmps61]) ?_
  rw [Try.ntmps61]
  intro hwf
  have hcn := old_lt hwf hc
  have oc := fun u l => @St_old S u l ck hcn
  have gp := fun ks => gcP_old (n := S.nx) ks hcn
  have gt := fun ks => gcTo_old (n := S.nx) ks hcn
  repeat refine QS ?_
  refine QR (r:=by conv=>lhs;simp[-List.map_set,QV]) (k:=?_)
  refine QN ?_
  repeat refine QS ?_
  refine QR (r:=by conv=>lhs;simp[-List.map_set,QV]) (k:=?_)
  refine QN ?_
  refine vw_void 5 1 rfl (by conv => lhs; simp [Fr.set]) ?_
  repeat (first|refine QG ?_|refine QX (r:=by conv=>lhs;simp[-List.map_set,QV]) (k:=?_))
  repeat refine QS ?_
  refine vw_loopAt [0, 5, 8, 9, 10] rfl (fun c σ S' => ∃ (k : Nat) (out : List Int), k ≤ l.length ∧ c = l.length - k ∧ out = (l.take k).map g ∧ out.length = k ∧ σ = [(0, .ptr ck 0), (5, .slice (lid S.nx 0) 0 k), (8, vl vint l), (9, vnat l.length), (10, vnat k)] ∧ S' = St S [] [some (1, out.map vint)]) l.length ?_ ?_
  · exact ⟨0, [], by omega, rfl, by simp, rfl, by simp [Fr.only], by simp⟩
  · rintro c σ T ⟨k, out, hk, rfl, ho, hlen, rfl, rfl⟩
    by_cases hkt : k < l.length
    · have hw := wrapNat hkt (by omega)
      obtain ⟨h0, h1⟩ := hv _ (List.getElem_mem hkt)
      obtain ⟨v, hx⟩ : ∃ v, l[k] = v := ⟨_, rfl⟩
      rw [hx] at h0 h1
      obtain ⟨n, rfl⟩ : ∃ n : Nat, v = n := ⟨v.toNat, by omega⟩
      have hn : n < ts.length := by omega
      have hgn : g (n : Int) = ts[n] := by rw [← hg]; simp [hn]
      have htk : l.take (k + 1) = l.take k ++ [(n : Int)] := by rw [List.take_add_one, List.getElem?_eq_getElem hkt, hx]; rfl
      have hb : (k + 1) * 8 ≤ 140737488355328 := by omega
      have hb' : k + 1 ≤ 140737488355328 := by omega
      repeat (first|refine QG ?_|refine QX (r:=by conv=>lhs;simp[-List.map_set,QV,hkt,hx,hn,hlen,hb,hb',oc,hc]) (k:=?_))
      refine again_gc [2] (by conv => lhs; simp [Fr.only]) hwf (by decide) (by simp [-List.map_set, gp, gt]) (by conv => lhs; simp [-List.map_set, gp, gt]) (by conv => lhs; simp [-List.map_set, gp, gt]) (by conv => lhs; simp [-List.map_set, gp, gt]) ⟨?_, k + 1, out ++ [ts[n]], hkt, rfl, by rw [htk, List.map_append, ho]; simp [hgn], by simp [hlen], by simp [hw], by simp⟩
      omega
    · have hke : k = l.length := by omega
      subst hke
      rw [List.take_length] at ho
      repeat (first|refine QG ?_|refine QX (r:=by conv=>lhs;simp[-List.map_set,QV,hkt]) (k:=?_))
      rw [← ho]
      exact done_via hwf ((frz1 (by simp) (by rfl) (all_closed1 vint (fun _ => rfl) _) (by simpa using hlen)).toB _) rfl

theorem vcall_useZ {P : Program} {Z : Store} {σ : Fr} {S : Store} {K : Fr → Store → Prop} {d : Option Nat} {f : FuncId} {args : List Arg} {xs : List V} {r : List CO} {X : V} (h : VPureZ P Z f xs X) (ha : args.map (ev σ) = xs) (H : vsegG P (some (ZZ.plain Z)) r K (σ.put d X) S) : vsegG P (some (ZZ.plain Z)) (⟨d, none, .call f args⟩ :: r) K σ S := by
  rw [vs_call, ha]
  have hw : ¬ wrcL (ZZ.plain Z).es d = true := by cases d <;> simp [wrcL, ZZ.plain]
  show vcallK P (some (ZZ.plain Z)) d f xs S _
  simp only [vcallK]
  rw [if_neg hw]
  refine ⟨X, ?_, H⟩
  have e : (ZZ.plain Z).early d = false := by cases d <;> simp [ZZ.early, ZZ.plain]
  rw [e]
  exact h

theorem shape_v (S : Store) (e : Ss.Env) (f : Ss.Fn) (ck od : Nat) (hf : f.Fits) (hsm : f.small = true) (hc : S.get ck = some (11, ckC e f (.slice od 0 f.types.length) .nils)) (hod : od < S.nx)
    (hps : ∀ b ∈ f.blocks, Ss.InTs f.types.length b.params) :
    VCalls Try.prog 35 [.ptr ck 0] S (fun r T => ∃ nv : V, nv.closed1 = true ∧ r = .bool (Ss.shapeOk f) ∧ (Ss.shapeOk f = true → nv = vl vint (G.nearI (Ss.succs f.blocks))) ∧ T = S.upd ck (11, ckC e f (.slice od 0 f.types.length) nv)) := by
  have csu := Succ_v f hf
  rw [if_pos hsm] at csu
  obtain ⟨hst, hsb, hsf, _⟩ := small_blocks hsm
  have hcode : ∀ b ∈ f.blocks, b.code.length < 2^63 := fun b hb => by have := (hsf b hb).2.2.2; omega
  have hgf : Fits (Ss.succs f.blocks) := by
    refine ⟨by simp [Ss.succs]; omega, fun l hl => ?_⟩
    obtain ⟨b, hb, rfl⟩ := List.mem_map.1 hl
    have := (hsf b hb).2.1
    simp [Ss.rowOf]; omega
  have hgl : (Ss.succs f.blocks).length = f.blocks.length := by simp [Ss.succs]
  have co := OrderAll_v _ hgf
  have cn := NearestAll_v _ hgf
  have hol := ordI_len (Ss.succs f.blocks)
  have cr : G.right (Ss.succs f.blocks) = true → VPure Try.prog 59 [encFn f, vl (vl vint) (Ss.succs f.blocks)] (.bool (Ss.rings f.blocks (G.nats (Ss.succs f.blocks)))) := by
    intro hr
    have hok := G.right_ok hr
    rw [G.right_enc hr]
    have hnl : (G.nats (Ss.succs f.blocks)).length = f.blocks.length := by rw [← hgl]; simp [G.nats]
    exact rings_v f _ hnl (by have := hok.max; omega) (fun r hr' => ⟨by have := hok.row r hr'; omega, fun k hk => hok.elt r hr' k hk⟩) hcode
  generalize hsu : Ss.succs f.blocks = g at *
  have hX : Ss.shapeOk f = (G.right g && decide ((G.ordI g).length = f.blocks.length) && !Ss.rings f.blocks (G.nats g) && decide (Ss.typesOf f.types (f.blocks.getD 0 default).params = f.sig.inn) &&
    match (f.blocks.getD 0 default).code with
    | x :: _ => decide (x.op = 258)
    | [] => false) := by rw [Ss.shapeOk, hsu]
  generalize Ss.shapeOk f = X at *
  generalize hrg : Ss.rings f.blocks (G.nats g) = rg at *
  have hil : f.sig.inn.length < 2^63 := by have := hf.1.1.1; omega
  obtain ⟨⟨fi, fo⟩, ts, bs⟩ := f
  simp only at *
  have csu' : VPure Try.prog 28 [.agg [vl vint fi, vl vint fo, vl vint ts, vl encBlock bs]] (vl (vl vint) g) := csu
  obtain ⟨sg, im, gl, mu, me⟩ := e
  refine vcalls_start (c := bodyOf Try.f35) Try.func35 rfl rfl (by simp [Try.ntmps35]) ?_
  rw [Try.ntmps35]
  intro hwf
  have hcn := old_lt hwf hc
  have oc := fun u l => @St_old S u l ck hcn
  have hupd := fun u l c => @St_updOld S u l c ck hcn
  have gp := fun ks => gcP_old (n := S.nx) ks hod
  have gt := fun ks => gcTo_old (n := S.nx) ks hod
  rw [St_touch hc]
  have fin : ∀ (nv : V) (l : List (Option (Nat × List V))) (r : V), nv.closed1 = true → r = .bool X → (X = true → nv = vl vint (G.nearI g)) →
      PostB S.nx (fun r T => ∃ nv : V, nv.closed1 = true ∧ r = .bool X ∧ (X = true → nv = vl vint (G.nearI g)) ∧ T = S.upd ck (11, ckC ⟨sg, im, gl, mu, me⟩ ⟨⟨fi, fo⟩, ts, bs⟩ (.slice od 0 ts.length) nv)) r (St S [(ck, some (11, ckC ⟨sg, im, gl, mu, me⟩ ⟨⟨fi, fo⟩, ts, bs⟩ (.slice od 0 ts.length) nv))] l) := by
    rintro nv l r k1 rfl k2
    have e1 : ∀ p, nv.ids p = true := fun p => by cases nv <;> first | rfl | (simp [V.closed1] at k1; done) | (simp [V.ids]; done)
    have e2 : ∀ q, nv.ren q = nv := fun q => by cases nv <;> first | rfl | (simp [V.closed1] at k1; done) | (simp [V.ren]; done)
    refine done_turned (X := .bool X) (S' := S.upd ck (11, ckC ⟨sg, im, gl, mu, me⟩ ⟨⟨fi, fo⟩, ts, bs⟩ (.slice od 0 ts.length) nv)) hwf rfl rfl (by simp [gcOkU, gcOkE, e1, gp]) ?_ ⟨nv, k1, rfl, k2, rfl⟩
    simp only [gcU, gcE, Option.map_some]
    rw [St_upd1 hwf hcn]
    simp [e2, gt]
  repeat refine QS ?_
  refine QR (r:=by conv=>lhs;simp[-List.map_set,QV]) (k:=?_)
  refine QN ?_
  repeat refine QS ?_
  refine QR (r:=by conv=>lhs;simp[-List.map_set,QV,oc,hc]) (k:=?_)
  refine vcall_useH (csu') (by rfl) ?_
  refine QM (by conv=>lhs;simp[-List.map_set,QV]) ?_
  refine QN ?_
  repeat refine QS ?_
  refine QR (r:=by conv=>lhs;simp[-List.map_set,QV]) (k:=?_)
  refine vcall_useH (co) (by rfl) ?_
  by_cases hr : G.right g = true
  case neg =>
    have he : G.err g = 1 := by simp [G.err, hr]
    have hX0 : X = false := by rw [hX]; simp [hr]
    refine QM (by conv=>lhs;simp[-List.map_set,QV,he]) ?_
    refine QN ?_
    repeat (first|refine QG ?_|refine QX (r:=by conv=>lhs;simp[-List.map_set,QV,he]) (k:=?_))
    exact fin .nils _ _ rfl (by simp [hX0]) (by simp [hX0])
  have he : G.err g = 0 := by simp [G.err, hr]
  have cr1 := cr hr
  have cr' : VPure Try.prog 59 [.agg [vl vint fi, vl vint fo, vl vint ts, vl encBlock bs], vl (vl vint) g] (.bool rg) := cr1
  by_cases hl : (G.ordI g).length = g.length
  case neg =>
    have hl' : ¬ ((G.ordI g).length : Int) = (g.length : Int) := by omega
    have hX0 : X = false := by
      rw [hX, show decide ((G.ordI g).length = bs.length) = false by simp; omega]; simp
    refine QM (by conv=>lhs;simp[-List.map_set,QV,he]) ?_
    refine QN ?_
    repeat (first|refine QG ?_|refine QX (r:=by conv=>lhs;simp[-List.map_set,QV,he,hl,hl']) (k:=?_))
    exact fin .nils _ _ rfl (by simp [hX0]) (by simp [hX0])
  have hl' : ((G.ordI g).length : Int) = (g.length : Int) := by omega
  refine QM (by conv=>lhs;simp[-List.map_set,QV,he]) ?_
  refine QN ?_
  repeat (first|refine QG ?_|refine QX (r:=by conv=>lhs;simp[-List.map_set,QV,he,hl,hl',oc]) (k:=?_))
  repeat refine QS ?_
  refine QR (r:=by conv=>lhs;simp[-List.map_set,QV,he,hl,hl',oc]) (k:=?_)
  refine vcall_useH (cr') (by rfl) ?_
  by_cases hrt : rg = true
  · have hX0 : X = false := by rw [hX, hrt]; simp
    refine QM (by conv=>lhs;simp[-List.map_set,QV,hrt]) ?_
    refine QN ?_
    repeat (first|refine QG ?_|refine QX (r:=by conv=>lhs;simp[-List.map_set,QV]) (k:=?_))
    exact fin .nils _ _ rfl (by simp [hX0]) (by simp [hX0])
  have hrt' : rg = false := by simpa using hrt
  rw [hr, hrt', show decide ((G.ordI g).length = bs.length) = true by simp; omega] at hX
  simp only [Bool.true_and, Bool.not_false] at hX
  refine QM (by conv=>lhs;simp[-List.map_set,QV,hrt']) ?_
  refine QN ?_
  repeat (first|refine QG ?_|refine QX (r:=by conv=>lhs;simp[-List.map_set,QV]) (k:=?_))
  repeat refine QS ?_
  refine QR (r:=by conv=>lhs;simp[-List.map_set,QV]) (k:=?_)
  refine vcall_useH (cn) (by rfl) ?_
  refine QM (by conv=>lhs;simp[-List.map_set,QV,oc,hupd]) ?_
  refine QN ?_
  have hbp : 0 < bs.length := by
    have h1 := (G.right_ok hr).pos
    simp only [G.nats_length] at h1
    omega
  obtain ⟨⟨ps, code, ⟨tk, ta, to, az⟩⟩, hb0⟩ : ∃ b, bs[0]? = some b := ⟨bs[0], List.getElem?_eq_getElem hbp⟩
  have hbm := List.mem_of_getElem? hb0
  have hbd : bs.getD 0 default = ⟨ps, code, ⟨tk, ta, to, az⟩⟩ := by rw [List.getD_eq_getElem?_getD, hb0]; rfl
  have hpl := (hsf _ hbm).1
  have hpi := hps _ hbm
  rw [hbd] at hX
  simp only at hX hpl hpi
  repeat (first|refine QG ?_|refine QX (r:=by conv=>lhs;simp[-List.map_set,QV,oc,hb0]) (k:=?_))
  have hcl := (hsf _ hbm).2.2.2
  simp only at hcl
  have hZ : (St S [(ck, some (11, ckC ⟨sg, im, gl, mu, me⟩ ⟨⟨fi, fo⟩, ts, bs⟩ (.slice od 0 ts.length) (vl vint (G.nearI g))))] [some (6, [vl vint ps, vl encIns code, .int .i64 tk, .int .i64 ta, vl encEdge to, vl vint az])]).get ck = some (11, ckC ⟨sg, im, gl, mu, me⟩ ⟨⟨fi, fo⟩, ts, bs⟩ (.slice od 0 ts.length) (vl vint (G.nearI g))) := by rw [oc]; simp [uGet]
  have ctz : VPureZ Try.prog (St S [(ck, some (11, ckC ⟨sg, im, gl, mu, me⟩ ⟨⟨fi, fo⟩, ts, bs⟩ (.slice od 0 ts.length) (vl vint (G.nearI g))))] [some (6, [vl vint ps, vl encIns code, .int .i64 tk, .int .i64 ta, vl encEdge to, vl vint az])]) 61 [.ptr ck 0, vl vint ps] (vl vint (Ss.typesOf ts ps)) := fun T hT => typesO_v T ⟨sg, im, gl, mu, me⟩ ⟨⟨fi, fo⟩, ts, bs⟩ _ _ ck ps (hT _ _ hZ) (by omega) hpi
  have ceq := Equal_v (Ss.typesOf ts ps) fi (by simp [Ss.typesOf]; omega)
  repeat refine QS ?_
  refine QD (r:=by conv=>lhs;simp[-List.map_set,QV,oc]) (k:=?_)
  refine vcall_useZ ctz (by rfl) ?_
  refine QM (by conv=>lhs;simp[-List.map_set,QV,oc]) ?_
  refine vcall_useH (ceq) (by rfl) ?_
  by_cases ht : Ss.typesOf ts ps = fi
  case neg =>
    have hX0 : X = false := by rw [hX]; simp [ht]
    refine QM (by conv=>lhs;simp[-List.map_set,QV,ht]) ?_
    refine QN ?_
    repeat (first|refine QG ?_|refine QX (r:=by conv=>lhs;simp[-List.map_set,QV]) (k:=?_))
    exact fin _ _ _ rfl (by simp [hX0]) (by simp [hX0])
  rw [decide_eq_true ht, Bool.true_and] at hX
  cases code with
  | nil =>
    have hX0 : X = false := by rw [hX]
    refine QM (by conv=>lhs;simp[-List.map_set,QV,ht]) ?_
    refine QN ?_
    repeat (first|refine QG ?_|refine QX (r:=by conv=>lhs;simp[-List.map_set,QV]) (k:=?_))
    exact fin _ _ _ rfl (by simp [hX0]) (by simp [hX0])
  | cons x r =>
    obtain ⟨xo, xn, xa, xu⟩ := x
    have hpos : (0 : Int) < (r.length : Int) + 1 := by omega
    by_cases h8 : xo = 258
    · have hX0 : X = true := by rw [hX]; simp [h8]
      refine QM (by conv=>lhs;simp[-List.map_set,QV,ht,hpos,h8]) ?_
      refine QN ?_
      repeat (first|refine QG ?_|refine QX (r:=by conv=>lhs;simp[-List.map_set,QV]) (k:=?_))
      exact fin _ _ _ rfl (by simp [hX0]) (by simp)
    · have hX0 : X = false := by rw [hX]; simp [h8]
      refine QM (by conv=>lhs;simp[-List.map_set,QV,ht,hpos,h8]) ?_
      refine QN ?_
      repeat (first|refine QG ?_|refine QX (r:=by conv=>lhs;simp[-List.map_set,QV]) (k:=?_))
      exact fin _ _ _ rfl (by simp [hX0]) (by simp [hX0])
end Go.Vw

namespace Ss
/-- A run of operators. -/
structure Grp where
  first : Int
  many : Int
  kind : Int
  ty : Int
deriving DecidableEq, Inhabited
def groups : List Grp := [⟨69, 1, 0, 127⟩, ⟨70, 10, 1, 127⟩, ⟨80, 1, 0, 126⟩, ⟨81, 10, 1, 126⟩, ⟨103, 3, 2, 127⟩, ⟨106, 15, 3, 127⟩, ⟨121, 3, 2, 126⟩, ⟨124, 15, 3, 126⟩, ⟨167, 1, 4, 126⟩, ⟨172, 2, 5, 127⟩, ⟨192, 2, 6, 127⟩, ⟨194, 3, 6, 126⟩]
def Grp.has (op : Int) (g : Grp) : Bool := decide (g.first ≤ op) && decide (op - g.first < g.many)
def findIn (op : Int) : List Grp → Option Grp
  | [] => none
  | g :: gs => if g.has op then some g else findIn op gs
def find (op : Int) : Option Grp := findIn op groups
theorem findIn_mem {op : Int} {g : Grp} : ∀ {gs : List Grp}, findIn op gs = some g → g ∈ gs ∧ g.has op = true
  | [], h => by simp [findIn] at h
  | x :: xs, h => by
    simp only [findIn] at h
    split at h
    · rename_i hx; cases h; exact ⟨by simp, hx⟩
    · obtain ⟨h1, h2⟩ := findIn_mem h; exact ⟨by simp [h1], h2⟩
def division (k : Int) : Bool := decide (3 ≤ k) && decide (k ≤ 6)
def total (op : Int) : Bool := match find op with
  | some g => !(decide (g.kind = 3) && division (op - g.first))
  | none => false
def pure (op : Int) : Bool := decide (op = 256) || decide (op = 27) || total op
/-- What a number's operator takes and answers. -/
def Grp.ins (g : Grp) : List Int := if g.kind = 1 ∨ g.kind = 3 then [g.ty, g.ty] else [g.ty]
def Grp.out (g : Grp) : Int := if g.kind = 0 ∨ g.kind = 1 ∨ g.kind = 4 then 127 else if g.kind = 5 then 126 else g.ty
def numSig (op : Int) : List Int × Int × Bool := match find op with
  | some g => (g.ins, g.out, true)
  | none => ([], 0, false)
end Ss
namespace Go.Vw
open Go.Proofs Go.RowKit
set_option maxRecDepth 10000
set_option maxHeartbeats 2000000

def encGrp (g : Ss.Grp) : V := .agg [vint g.first, vint g.many, vint g.kind, vint g.ty]
theorem encGrp_eq (g : Ss.Grp) : encGrp g = .agg [vint g.first, vint g.many, vint g.kind, vint g.ty] := nr rfl
theorem encGrp_nc (g : Ss.Grp) : (encGrp g).ncells = 4 := nr rfl
theorem encGrp_closed (g : Ss.Grp) : (encGrp g).closed = true := rfl
attribute [simp] encGrp_eq encGrp_nc

theorem groups_v : VPure Try.prog 86 [] (vl encGrp Ss.groups) := by
  intro S
  refine vcalls_start (c := bodyOf Try.f86) Try.func86 rfl rfl (by simp [Try.ntmps86]) ?_
  rw [Try.ntmps86]
  intro hwf
  have hr : rep0 [V.int .i64 0, .int .i64 0, .int .i64 0, .int .i64 0] 12 = [.int .i64 0, .int .i64 0, .int .i64 0, .int .i64 0, .int .i64 0, .int .i64 0, .int .i64 0, .int .i64 0, .int .i64 0, .int .i64 0, .int .i64 0, .int .i64 0, .int .i64 0, .int .i64 0, .int .i64 0, .int .i64 0, .int .i64 0, .int .i64 0, .int .i64 0, .int .i64 0, .int .i64 0, .int .i64 0, .int .i64 0, .int .i64 0, .int .i64 0, .int .i64 0, .int .i64 0, .int .i64 0, .int .i64 0, .int .i64 0, .int .i64 0, .int .i64 0, .int .i64 0, .int .i64 0, .int .i64 0, .int .i64 0, .int .i64 0, .int .i64 0, .int .i64 0, .int .i64 0, .int .i64 0, .int .i64 0, .int .i64 0, .int .i64 0, .int .i64 0, .int .i64 0, .int .i64 0, .int .i64 0] := rfl
  repeat (first|refine QG ?_|refine QX (r:=by conv=>lhs;simp[-List.map_set,QV,hr]) (k:=?_))
  exact done_via (l := [none]) hwf (Ghost.toB (frzSt (k := 0) (enc := encGrp) (s := 4) (fun _ => rfl) encGrp_closed Ss.groups (by simp) (by rfl)) _) rfl

def findV (op : Int) : Option Ss.Grp → V
  | some g => .tuple [encGrp g, vint (op - g.first), .bool true]
  | none => .tuple [encGrp ⟨0, 0, 0, 0⟩, vint 0, .bool false]

theorem find_v (op : Int) (ho : Ss.I64 op) : VPure Try.prog 68 [vint op] (findV op (Ss.find op)) := by
  intro S
  have hgs : ∀ g ∈ Ss.groups, 0 ≤ g.first ∧ g.first ≤ 1000 ∧ 0 ≤ g.many ∧ g.many ≤ 1000 := by decide
  have hlen : Ss.groups.length = 12 := rfl
  have cg := groups_v
  unfold Ss.find
  generalize Ss.groups = gs at *
  obtain ⟨ho1, ho2⟩ := ho
  refine vcalls_startC (c := bodyOf Try.f68) Try.func68 rfl (by conv => lhs; reduce) (by simp [Try.ntmps68]) ?_
  rw [Try.ntmps68]
  intro hwf
  repeat (first|refine QG ?_|refine QX (r:=by conv=>lhs;simp[-List.map_set,QV]) (k:=?_))
  repeat refine QS ?_
  refine QR (r:=by conv=>lhs;simp[-List.map_set,QV]) (k:=?_)
  refine vcall_useH (cg) (by rfl) ?_
  refine QM (by conv=>lhs;simp[-List.map_set,QV]) ?_
  refine QN ?_
  repeat (first|refine QG ?_|refine QX (r:=by conv=>lhs;simp[-List.map_set,QV]) (k:=?_))
  repeat refine QS ?_
  refine vw_loopAt [0, 2, 7, 8, 9] rfl (fun c σ S' => ∃ (k : Nat), k ≤ gs.length ∧ c = gs.length - k ∧ Ss.findIn op (gs.drop k) = Ss.findIn op gs ∧ σ = [(0, vint op), (2, .ptr (lid S.nx 0) 0), (7, vl encGrp gs), (8, vnat gs.length), (9, vnat k)] ∧ S' = St S [] [some (4, [.int .i64 0, .int .i64 0, .int .i64 0, .int .i64 0])]) gs.length ?_ ?_
  · exact ⟨0, by omega, rfl, rfl, by simp [Fr.only], rfl⟩
  · rintro c σ T ⟨k, hk, rfl, hd, rfl, rfl⟩
    by_cases hkt : k < gs.length
    · have hw := wrapNat hkt (by omega)
      have hst : Ss.findIn op (gs.drop k) = if gs[k].has op then some gs[k] else Ss.findIn op (gs.drop (k + 1)) := by rw [List.drop_eq_getElem_cons hkt, Ss.findIn]
      have hgk := hgs _ (List.getElem_mem hkt)
      obtain ⟨⟨g1, g2, g3, g4⟩, hx⟩ : ∃ g, gs[k] = g := ⟨_, rfl⟩
      rw [hx] at hst hgk
      simp only at hgk
      by_cases h1 : g1 ≤ op
      · have hws : IntKind.i64.wrap (op - g1) = op - g1 := wrap_i64 (by omega) (by omega)
        by_cases h2 : op - g1 < g2
        · have hst' : Ss.findIn op gs = some ⟨g1, g2, g3, g4⟩ := by rw [← hd, hst]; simp [Ss.Grp.has, h1, h2]
          rw [hst']
          repeat (first|refine QG ?_|refine QX (r:=by conv=>lhs;simp[-List.map_set,QV,hkt,hx,h1,h2,hws]) (k:=?_))
          repeat refine QS ?_
          refine vw_drawW (St S [] [none, some (4, [.int .i64 g1, .int .i64 g2, .int .i64 g3, .int .i64 g4])]) (St S [] [none, some (4, [.int .i64 g1, .int .i64 g2, .int .i64 g3, .int .i64 g4])]) [] rfl (by kernel_rfl) (by conv => lhs; reduce) (by conv => lhs; reduce) (by kernel_rfl) (by kernel_rfl) (ok_St (by simp [subU, shpU, subL, shpL])) (by conv => lhs; simp [-List.map_set,QV, hws]) ?_
          refine vseg_write rfl (by conv=>lhs;simp[-List.map_set,QV]) (ok_St (by simp [subU, shpU, subL, shpL])) ?_
          refine QM (by conv=>lhs;simp[-List.map_set,QV,hws]) ?_
          refine QN ?_
          repeat (first|refine QG ?_|refine QX (r:=by conv=>lhs;simp[-List.map_set,QV]) (k:=?_))
          exact doneC (by simp; rfl) (done_pure hwf (by simp [findV]) rfl)
        · rw [show Ss.Grp.has op ⟨g1, g2, g3, g4⟩ = false by simp [Ss.Grp.has, h1, h2]] at hst
          repeat (first|refine QG ?_|refine QX (r:=by conv=>lhs;simp[-List.map_set,QV,hkt,hx,h1,h2,hws]) (k:=?_))
          refine QA [0] (h:=⟨?_, k + 1, hkt, rfl, by rw [← hd, hst]; rfl, by simp [hw], rfl⟩)
          omega
      · rw [show Ss.Grp.has op ⟨g1, g2, g3, g4⟩ = false by simp [Ss.Grp.has, h1]] at hst
        repeat (first|refine QG ?_|refine QX (r:=by conv=>lhs;simp[-List.map_set,QV,hkt,hx,h1]) (k:=?_))
        refine QA [0] (h:=⟨?_, k + 1, hkt, rfl, by rw [← hd, hst]; rfl, by simp [hw], rfl⟩)
        omega
    · have e : gs.drop k = [] := by rw [List.drop_eq_nil_iff]; omega
      rw [e] at hd
      have hd' : Ss.findIn op gs = none := by rw [← hd]; rfl
      rw [hd']
      repeat (first|refine QG ?_|refine QX (r:=by conv=>lhs;simp[-List.map_set,QV,hkt]) (k:=?_))
      exact doneC (by simp; rfl) (done_pure hwf (by simp [findV]) rfl)
end Go.Vw

namespace Go.Vw
open Go.Proofs Go.RowKit
set_option maxRecDepth 10000
set_option maxHeartbeats 2000000

theorem division_v (k : Int) : VPure Try.prog 69 [vint k] (.bool (Ss.division k)) := by
  intro S
  refine vcalls_start (c := bodyOf Try.f69) Try.func69 rfl rfl (by simp [Try.ntmps69]) ?_
  rw [Try.ntmps69]
  intro hwf
  by_cases h : 3 ≤ k
  · by_cases h2 : k ≤ 6
    · repeat (first|refine QG ?_|refine QX (r:=by conv=>lhs;simp[-List.map_set,QV,h,h2]) (k:=?_))
      exact done_pure hwf (by simp [Ss.division, h, h2]) rfl
    · repeat (first|refine QG ?_|refine QX (r:=by conv=>lhs;simp[-List.map_set,QV,h,h2]) (k:=?_))
      exact done_pure hwf (by simp [Ss.division, h2]) rfl
  · repeat (first|refine QG ?_|refine QX (r:=by conv=>lhs;simp[-List.map_set,QV,h]) (k:=?_))
    exact done_pure hwf (by simp [Ss.division, h]) rfl

theorem Total_v (op : Int) (ho : Ss.I64 op) : VPure Try.prog 50 [vint op] (.bool (Ss.total op)) := by
  intro S
  have cf := find_v op ho
  unfold Ss.total
  cases hf : Ss.find op with
  | none =>
    rw [hf] at cf
    have cf' : VPure Try.prog 68 [vint op] (.tuple [.agg [.int .i64 0, .int .i64 0, .int .i64 0, .int .i64 0], .int .i64 0, .bool false]) := cf
    refine vcalls_start (c := bodyOf Try.f50) Try.func50 rfl rfl (by simp [Try.ntmps50]) ?_
    rw [Try.ntmps50]
    intro hwf
    repeat (first|refine QG ?_|refine QX (r:=by conv=>lhs;simp[-List.map_set,QV]) (k:=?_))
    repeat refine QS ?_
    refine QR (r:=by conv=>lhs;simp[-List.map_set,QV]) (k:=?_)
    refine vcall_useH (cf') (by rfl) ?_
    refine QM (by conv=>lhs;simp[-List.map_set,QV]) ?_
    refine QN ?_
    repeat (first|refine QG ?_|refine QX (r:=by conv=>lhs;simp[-List.map_set,QV]) (k:=?_))
    exact done_pure hwf (by simp) rfl
  | some g =>
    rw [hf] at cf
    obtain ⟨g1, g2, g3, g4⟩ := g
    have cf' : VPure Try.prog 68 [vint op] (.tuple [.agg [.int .i64 g1, .int .i64 g2, .int .i64 g3, .int .i64 g4], .int .i64 (op - g1), .bool true]) := cf
    have cd := division_v (op - g1)
    simp only
    generalize Ss.division (op - g1) = dv at *
    refine vcalls_start (c := bodyOf Try.f50) Try.func50 rfl rfl (by simp [Try.ntmps50]) ?_
    rw [Try.ntmps50]
    intro hwf
    repeat (first|refine QG ?_|refine QX (r:=by conv=>lhs;simp[-List.map_set,QV]) (k:=?_))
    repeat refine QS ?_
    refine QR (r:=by conv=>lhs;simp[-List.map_set,QV]) (k:=?_)
    refine vcall_useH (cf') (by rfl) ?_
    refine QM (by conv=>lhs;simp[-List.map_set,QV]) ?_
    refine QN ?_
    by_cases h3 : g3 = 3
    · repeat (first|refine QG ?_|refine QX (r:=by conv=>lhs;simp[-List.map_set,QV,h3]) (k:=?_))
      repeat refine QS ?_
      refine QR (r:=by conv=>lhs;simp[-List.map_set,QV,h3]) (k:=?_)
      refine vcall_useH (cd) (by rfl) ?_
      refine QM (by conv=>lhs;simp[-List.map_set,QV]) ?_
      refine QN ?_
      repeat (first|refine QG ?_|refine QX (r:=by conv=>lhs;simp[-List.map_set,QV]) (k:=?_))
      exact done_pure hwf (by simp [h3]) rfl
    · repeat (first|refine QG ?_|refine QX (r:=by conv=>lhs;simp[-List.map_set,QV,h3]) (k:=?_))
      exact done_pure hwf (by simp [h3]) rfl

theorem Pure_v (op : Int) (ho : Ss.I64 op) : VPure Try.prog 27 [vint op] (.bool (Ss.pure op)) := by
  intro S
  have ct := Total_v op ho
  unfold Ss.pure
  generalize Ss.total op = x at *
  refine vcalls_start (c := bodyOf Try.f27) Try.func27 rfl rfl (by simp [Try.ntmps27]) ?_
  rw [Try.ntmps27]
  intro hwf
  by_cases h1 : op = 256
  · repeat (first|refine QG ?_|refine QX (r:=by conv=>lhs;simp[-List.map_set,QV,h1]) (k:=?_))
    exact done_pure hwf (by simp [h1]) rfl
  by_cases h2 : op = 27
  · repeat (first|refine QG ?_|refine QX (r:=by conv=>lhs;simp[-List.map_set,QV,h1,h2]) (k:=?_))
    exact done_pure hwf (by simp [h2]) rfl
  repeat (first|refine QG ?_|refine QX (r:=by conv=>lhs;simp[-List.map_set,QV,h1,h2]) (k:=?_))
  repeat refine QS ?_
  refine QR (r:=by conv=>lhs;simp[-List.map_set,QV,h1,h2]) (k:=?_)
  refine vcall_useH (ct) (by rfl) ?_
  refine QM (by conv=>lhs;simp[-List.map_set,QV]) ?_
  refine QN ?_
  repeat (first|refine QG ?_|refine QX (r:=by conv=>lhs;simp[-List.map_set,QV]) (k:=?_))
  exact done_pure hwf (by simp [h1, h2]) rfl

theorem NumSig_v (op : Int) (ho : Ss.I64 op) : VPure Try.prog 80 [vint op] (.tuple [vl vint (Ss.numSig op).1, vint (Ss.numSig op).2.1, .bool (Ss.numSig op).2.2]) := by
  intro S
  have cf := find_v op ho
  unfold Ss.numSig
  cases hf : Ss.find op with
  | none =>
    rw [hf] at cf
    have cf' : VPure Try.prog 68 [vint op] (.tuple [.agg [.int .i64 0, .int .i64 0, .int .i64 0, .int .i64 0], .int .i64 0, .bool false]) := cf
    refine vcalls_start (c := bodyOf Try.f80) Try.func80 rfl rfl (by simp [Try.ntmps80]) ?_
    rw [Try.ntmps80]
    intro hwf
    repeat (first|refine QG ?_|refine QX (r:=by conv=>lhs;simp[-List.map_set,QV]) (k:=?_))
    repeat refine QS ?_
    refine QR (r:=by conv=>lhs;simp[-List.map_set,QV]) (k:=?_)
    refine vcall_useH (cf') (by rfl) ?_
    refine QM (by conv=>lhs;simp[-List.map_set,QV]) ?_
    refine QN ?_
    repeat (first|refine QG ?_|refine QX (r:=by conv=>lhs;simp[-List.map_set,QV]) (k:=?_))
    exact done_via (l := [_]) hwf (Ghost.toB (Ghost.tuple [] [_, _] (Ghost.nils_list _)) _) rfl
  | some g =>
    rw [hf] at cf
    obtain ⟨g1, g2, g3, g4⟩ := g
    have cf' : VPure Try.prog 68 [vint op] (.tuple [.agg [.int .i64 g1, .int .i64 g2, .int .i64 g3, .int .i64 g4], .int .i64 (op - g1), .bool true]) := cf
    simp only
    by_cases h1 : g3 = 1
    · subst h1
      have hX : Ss.Grp.ins ⟨g1, g2, 1, g4⟩ = [g4, g4] ∧ Ss.Grp.out ⟨g1, g2, 1, g4⟩ = 127 := by simp [Ss.Grp.ins, Ss.Grp.out]
      rw [hX.1, hX.2]
      refine vcalls_start (c := bodyOf Try.f80) Try.func80 rfl rfl (by simp [Try.ntmps80]) ?_
      rw [Try.ntmps80]
      intro hwf
      repeat (first|refine QG ?_|refine QX (r:=by conv=>lhs;simp[-List.map_set,QV]) (k:=?_))
      repeat refine QS ?_
      refine QR (r:=by conv=>lhs;simp[-List.map_set,QV]) (k:=?_)
      refine vcall_useH (cf') (by rfl) ?_
      refine QM (by conv=>lhs;simp[-List.map_set,QV]) ?_
      refine QN ?_
      repeat (first|refine QG ?_|refine QX (r:=by conv=>lhs;simp[-List.map_set,QV]) (k:=?_))
      repeat refine QS ?_
      refine vw_drawW (St S [] [some (4, [.int .i64 g1, .int .i64 g2, .int .i64 1, .int .i64 g4])]) (St S [] [some (4, [.int .i64 g1, .int .i64 g2, .int .i64 1, .int .i64 g4])]) [] rfl (by kernel_rfl) (by conv => lhs; reduce) (by conv => lhs; reduce) (by kernel_rfl) (by kernel_rfl) (ok_St (by simp [subU, shpU, subL, shpL])) (by conv => lhs; simp [-List.map_set,QV]) ?_
      refine vseg_write rfl (by conv=>lhs;simp[-List.map_set,QV]) (ok_St (by simp [subU, shpU, subL, shpL])) ?_
      refine QM (by conv=>lhs;simp[-List.map_set,QV]) ?_
      refine QN ?_
      repeat (first|refine QG ?_|refine QX (r:=by conv=>lhs;simp[-List.map_set,QV]) (k:=?_))
      exact done_via hwf ((Ghost.tuple [] [_, _] (frz1 (k := 3) (by simp) (by rfl) (by rfl) (by rfl))).toB _) rfl
    by_cases h3 : g3 = 3
    · subst h3
      have hX : Ss.Grp.ins ⟨g1, g2, 3, g4⟩ = [g4, g4] ∧ Ss.Grp.out ⟨g1, g2, 3, g4⟩ = g4 := by simp [Ss.Grp.ins, Ss.Grp.out]
      rw [hX.1, hX.2]
      refine vcalls_start (c := bodyOf Try.f80) Try.func80 rfl rfl (by simp [Try.ntmps80]) ?_
      rw [Try.ntmps80]
      intro hwf
      repeat (first|refine QG ?_|refine QX (r:=by conv=>lhs;simp[-List.map_set,QV]) (k:=?_))
      repeat refine QS ?_
      refine QR (r:=by conv=>lhs;simp[-List.map_set,QV]) (k:=?_)
      refine vcall_useH (cf') (by rfl) ?_
      refine QM (by conv=>lhs;simp[-List.map_set,QV]) ?_
      refine QN ?_
      repeat (first|refine QG ?_|refine QX (r:=by conv=>lhs;simp[-List.map_set,QV]) (k:=?_))
      repeat refine QS ?_
      refine vw_drawW (St S [] [some (4, [.int .i64 g1, .int .i64 g2, .int .i64 3, .int .i64 g4])]) (St S [] [some (4, [.int .i64 g1, .int .i64 g2, .int .i64 3, .int .i64 g4])]) [] rfl (by kernel_rfl) (by conv => lhs; reduce) (by conv => lhs; reduce) (by kernel_rfl) (by kernel_rfl) (ok_St (by simp [subU, shpU, subL, shpL])) (by conv => lhs; simp [-List.map_set,QV]) ?_
      refine vseg_write rfl (by conv=>lhs;simp[-List.map_set,QV]) (ok_St (by simp [subU, shpU, subL, shpL])) ?_
      refine QM (by conv=>lhs;simp[-List.map_set,QV]) ?_
      refine QN ?_
      repeat (first|refine QG ?_|refine QX (r:=by conv=>lhs;simp[-List.map_set,QV]) (k:=?_))
      exact done_via hwf ((Ghost.tuple [] [_, _] (frz1 (k := 3) (by simp) (by rfl) (by rfl) (by rfl))).toB _) rfl
    by_cases h0 : g3 = 0
    · subst h0
      have hX : Ss.Grp.ins ⟨g1, g2, 0, g4⟩ = [g4] ∧ Ss.Grp.out ⟨g1, g2, 0, g4⟩ = 127 := by simp [Ss.Grp.ins, Ss.Grp.out]
      rw [hX.1, hX.2]
      refine vcalls_start (c := bodyOf Try.f80) Try.func80 rfl rfl (by simp [Try.ntmps80]) ?_
      rw [Try.ntmps80]
      intro hwf
      repeat (first|refine QG ?_|refine QX (r:=by conv=>lhs;simp[-List.map_set,QV]) (k:=?_))
      repeat refine QS ?_
      refine QR (r:=by conv=>lhs;simp[-List.map_set,QV]) (k:=?_)
      refine vcall_useH (cf') (by rfl) ?_
      refine QM (by conv=>lhs;simp[-List.map_set,QV]) ?_
      refine QN ?_
      repeat (first|refine QG ?_|refine QX (r:=by conv=>lhs;simp[-List.map_set,QV]) (k:=?_))
      repeat refine QS ?_
      refine vw_drawW (St S [] [some (4, [.int .i64 g1, .int .i64 g2, .int .i64 0, .int .i64 g4])]) (St S [] [some (4, [.int .i64 g1, .int .i64 g2, .int .i64 0, .int .i64 g4])]) [] rfl (by kernel_rfl) (by conv => lhs; reduce) (by conv => lhs; reduce) (by kernel_rfl) (by kernel_rfl) (ok_St (by simp [subU, shpU, subL, shpL])) (by conv => lhs; simp [-List.map_set,QV]) ?_
      refine vseg_write rfl (by conv=>lhs;simp[-List.map_set,QV]) (ok_St (by simp [subU, shpU, subL, shpL])) ?_
      refine QM (by conv=>lhs;simp[-List.map_set,QV]) ?_
      refine QN ?_
      repeat (first|refine QG ?_|refine QX (r:=by conv=>lhs;simp[-List.map_set,QV]) (k:=?_))
      exact done_via hwf ((Ghost.tuple [] [_, _] (frz1 (k := 1) (by simp) (by rfl) (by rfl) (by rfl))).toB _) rfl
    by_cases h4 : g3 = 4
    · subst h4
      have hX : Ss.Grp.ins ⟨g1, g2, 4, g4⟩ = [g4] ∧ Ss.Grp.out ⟨g1, g2, 4, g4⟩ = 127 := by simp [Ss.Grp.ins, Ss.Grp.out]
      rw [hX.1, hX.2]
      refine vcalls_start (c := bodyOf Try.f80) Try.func80 rfl rfl (by simp [Try.ntmps80]) ?_
      rw [Try.ntmps80]
      intro hwf
      repeat (first|refine QG ?_|refine QX (r:=by conv=>lhs;simp[-List.map_set,QV]) (k:=?_))
      repeat refine QS ?_
      refine QR (r:=by conv=>lhs;simp[-List.map_set,QV]) (k:=?_)
      refine vcall_useH (cf') (by rfl) ?_
      refine QM (by conv=>lhs;simp[-List.map_set,QV]) ?_
      refine QN ?_
      repeat (first|refine QG ?_|refine QX (r:=by conv=>lhs;simp[-List.map_set,QV]) (k:=?_))
      repeat refine QS ?_
      refine vw_drawW (St S [] [some (4, [.int .i64 g1, .int .i64 g2, .int .i64 4, .int .i64 g4])]) (St S [] [some (4, [.int .i64 g1, .int .i64 g2, .int .i64 4, .int .i64 g4])]) [] rfl (by kernel_rfl) (by conv => lhs; reduce) (by conv => lhs; reduce) (by kernel_rfl) (by kernel_rfl) (ok_St (by simp [subU, shpU, subL, shpL])) (by conv => lhs; simp [-List.map_set,QV]) ?_
      refine vseg_write rfl (by conv=>lhs;simp[-List.map_set,QV]) (ok_St (by simp [subU, shpU, subL, shpL])) ?_
      refine QM (by conv=>lhs;simp[-List.map_set,QV]) ?_
      refine QN ?_
      repeat (first|refine QG ?_|refine QX (r:=by conv=>lhs;simp[-List.map_set,QV]) (k:=?_))
      exact done_via hwf ((Ghost.tuple [] [_, _] (frz1 (k := 1) (by simp) (by rfl) (by rfl) (by rfl))).toB _) rfl
    by_cases h5 : g3 = 5
    · subst h5
      have hX : Ss.Grp.ins ⟨g1, g2, 5, g4⟩ = [g4] ∧ Ss.Grp.out ⟨g1, g2, 5, g4⟩ = 126 := by simp [Ss.Grp.ins, Ss.Grp.out]
      rw [hX.1, hX.2]
      refine vcalls_start (c := bodyOf Try.f80) Try.func80 rfl rfl (by simp [Try.ntmps80]) ?_
      rw [Try.ntmps80]
      intro hwf
      repeat (first|refine QG ?_|refine QX (r:=by conv=>lhs;simp[-List.map_set,QV]) (k:=?_))
      repeat refine QS ?_
      refine QR (r:=by conv=>lhs;simp[-List.map_set,QV]) (k:=?_)
      refine vcall_useH (cf') (by rfl) ?_
      refine QM (by conv=>lhs;simp[-List.map_set,QV]) ?_
      refine QN ?_
      repeat (first|refine QG ?_|refine QX (r:=by conv=>lhs;simp[-List.map_set,QV]) (k:=?_))
      repeat refine QS ?_
      refine vw_drawW (St S [] [some (4, [.int .i64 g1, .int .i64 g2, .int .i64 5, .int .i64 g4])]) (St S [] [some (4, [.int .i64 g1, .int .i64 g2, .int .i64 5, .int .i64 g4])]) [] rfl (by kernel_rfl) (by conv => lhs; reduce) (by conv => lhs; reduce) (by kernel_rfl) (by kernel_rfl) (ok_St (by simp [subU, shpU, subL, shpL])) (by conv => lhs; simp [-List.map_set,QV]) ?_
      refine vseg_write rfl (by conv=>lhs;simp[-List.map_set,QV]) (ok_St (by simp [subU, shpU, subL, shpL])) ?_
      refine QM (by conv=>lhs;simp[-List.map_set,QV]) ?_
      refine QN ?_
      repeat (first|refine QG ?_|refine QX (r:=by conv=>lhs;simp[-List.map_set,QV]) (k:=?_))
      exact done_via hwf ((Ghost.tuple [] [_, _] (frz1 (k := 1) (by simp) (by rfl) (by rfl) (by rfl))).toB _) rfl
    have hX : Ss.Grp.ins ⟨g1, g2, g3, g4⟩ = [g4] ∧ Ss.Grp.out ⟨g1, g2, g3, g4⟩ = g4 := by simp [Ss.Grp.ins, Ss.Grp.out, h1, h3, h0, h4, h5]
    rw [hX.1, hX.2]
    refine vcalls_start (c := bodyOf Try.f80) Try.func80 rfl rfl (by simp [Try.ntmps80]) ?_
    rw [Try.ntmps80]
    intro hwf
    repeat (first|refine QG ?_|refine QX (r:=by conv=>lhs;simp[-List.map_set,QV]) (k:=?_))
    repeat refine QS ?_
    refine QR (r:=by conv=>lhs;simp[-List.map_set,QV]) (k:=?_)
    refine vcall_useH (cf') (by rfl) ?_
    refine QM (by conv=>lhs;simp[-List.map_set,QV]) ?_
    refine QN ?_
    repeat (first|refine QG ?_|refine QX (r:=by conv=>lhs;simp[-List.map_set,QV,h1,h3,h0,h4,h5]) (k:=?_))
    repeat refine QS ?_
    refine vw_drawW (St S [] [some (4, [.int .i64 g1, .int .i64 g2, .int .i64 g3, .int .i64 g4])]) (St S [] [some (4, [.int .i64 g1, .int .i64 g2, .int .i64 g3, .int .i64 g4])]) [] rfl (by kernel_rfl) (by conv => lhs; reduce) (by conv => lhs; reduce) (by kernel_rfl) (by kernel_rfl) (ok_St (by simp [subU, shpU, subL, shpL])) (by conv => lhs; simp [-List.map_set,QV, h1, h3, h0, h4, h5]) ?_
    refine vseg_write rfl (by conv=>lhs;simp[-List.map_set,QV]) (ok_St (by simp [subU, shpU, subL, shpL])) ?_
    refine QM (by conv=>lhs;simp[-List.map_set,QV]) ?_
    refine QN ?_
    repeat (first|refine QG ?_|refine QX (r:=by conv=>lhs;simp[-List.map_set,QV,h1,h3,h0,h4,h5]) (k:=?_))
    exact done_via hwf ((Ghost.tuple [] [_, _] (frz1 (k := 1) (by simp) (by rfl) (by rfl) (by rfl))).toB _) rfl
end Go.Vw
