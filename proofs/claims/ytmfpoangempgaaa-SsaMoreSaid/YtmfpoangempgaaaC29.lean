import Derived.Test.YtmfpoangempgaaaC22
import Derived.Test.YtmfpoangempgaaaC28
import Derived.Test.YtmfpoangempgaaaC26
import Derived.Test.YtmfpoangempgaaaC25
import Derived.Test.YtmfpoangempgaaaC19
/-
  Part of the proof (texts SRUsed, SChk2, SBlk).
-/
set_option linter.unusedVariables false
set_option linter.unusedSimpArgs false
namespace Ss
/-- The values that an end asks for. -/
def asksT (t : Term) : List Int := (if t.kind = 2 ∨ t.kind = 3 then [t.arg] else []) ++ t.to.flatMap (fun x => x.args) ++ t.args
def asksB (b : Block) : List Int := asksT b.term ++ b.code.flatMap (fun x => x.args)
def rusedOf (f : Fn) : List Bool := f.blocks.foldl (fun o b => mark o (asksB b)) (List.replicate f.types.length false)
end Ss
namespace Go.Vw
open Go.Proofs Go.RowKit
set_option maxRecDepth 10000
set_option maxHeartbeats 2000000

theorem flatC_vint (l : List Int) : flatC vint l = l.map vint := by
  induction l with
  | nil => rfl
  | cons x l ih =>
    simp only [flatC, List.flatMap_cons, List.map_cons] at ih ⊢
    rw [ih]; rfl
theorem Asks_v (S : Store) (t : Ss.Term) (ht : t.to.length ≤ 4096) (hz : t.args.length ≤ 4096) (hx : ∀ x ∈ t.to, x.args.length ≤ 4096) :
    VCalls Try.prog 39 [encTerm t] S (fun r T => (Ss.asksT t).length ≤ 16785409 ∧ r = .slice (lid S.nx 0) 0 (Ss.asksT t).length ∧ T = St S [] [some (1, (Ss.asksT t).map vint)]) := by
  obtain ⟨tk, ta, tt, az⟩ := t
  simp only at ht hz hx
  have hX : Ss.asksT ⟨tk, ta, tt, az⟩ = ((if tk = 2 ∨ tk = 3 then [ta] else []) ++ tt.flatMap fun x => x.args) ++ az := rfl
  refine vcalls_start (c := bodyOf Try.f39) Try.func39 rfl rfl (by simp [Try.ntmps39]) ?_
  rw [Try.ntmps39]
  intro hwf
  repeat refine QS ?_
  refine QR (r:=by conv=>lhs;simp[-List.map_set,QV]) (k:=?_)
  refine QN ?_
  repeat refine QS ?_
  refine QR (r:=by conv=>lhs;simp[-List.map_set,QV]) (k:=?_)
  refine QN ?_
  refine vw_ghost' 1 rfl ((refSt (k := 0) (by simp) (by rfl) (by rfl) (by simp))) (by conv => lhs; simp [Fr.set]) ?_
  simp only [List.set_cons_succ, List.set_cons_zero]
  refine vw_void 3 1 rfl (by conv => lhs; simp [Fr.set]) ?_
  refine vw_only' [1, 3] (by conv => lhs; simp [Fr.only, Fr.look]) ?_
  refine vw_gc [1] hwf (by decide) (by simp [-List.map_set]) (by conv => lhs; simp [-List.map_set]) (by conv => lhs; simp [-List.map_set]) (by conv => lhs; simp [-List.map_set]) ?_
  refine vw_seqAt rfl ?_
  refine vw_joinR (fun σ S' => σ = [(1, .ref (.agg [.int .i64 tk, .int .i64 ta, vl encEdge tt, vl vint az])), (3, .slice (lid S.nx 0) 0 (if tk = 2 ∨ tk = 3 then [ta] else []).length)] ∧ S' = St S [] [some (1, (if tk = 2 ∨ tk = 3 then [ta] else []).map vint)]) [1, 3] ?_ ?_
  · by_cases h2 : tk = 2
    · repeat (first|refine QG ?_|refine QX (r:=by conv=>lhs;simp[-List.map_set,QV,h2,rep0]) (k:=?_))
      refine mid_gc [1, 3] [2] (by conv => lhs; simp [Fr.only]) hwf (by decide) (by simp [-List.map_set]) (by conv => lhs; simp [-List.map_set]) (by conv => lhs; simp [-List.map_set]) (by conv => lhs; simp [-List.map_set]) (⟨by simp [h2], by simp [h2]⟩)
    by_cases h3 : tk = 3
    · repeat (first|refine QG ?_|refine QX (r:=by conv=>lhs;simp[-List.map_set,QV,h2,h3,rep0]) (k:=?_))
      refine mid_gc [1, 3] [2] (by conv => lhs; simp [Fr.only]) hwf (by decide) (by simp [-List.map_set]) (by conv => lhs; simp [-List.map_set]) (by conv => lhs; simp [-List.map_set]) (by conv => lhs; simp [-List.map_set]) (⟨by simp [h3], by simp [h3]⟩)
    · repeat (first|refine QG ?_|refine QX (r:=by conv=>lhs;simp[-List.map_set,QV,h2,h3]) (k:=?_))
      refine mid_gc [1, 3] [0] (by conv => lhs; simp [Fr.only]) hwf (by decide) (by simp [-List.map_set]) (by conv => lhs; simp [-List.map_set]) (by conv => lhs; simp [-List.map_set]) (by conv => lhs; simp [-List.map_set]) (⟨by simp [h2, h3], by simp [h2, h3]⟩)
  rintro σ S' ⟨rfl, rfl⟩
  have hal : (if tk = 2 ∨ tk = 3 then [ta] else []).length ≤ 1 := by split <;> simp
  generalize (if tk = 2 ∨ tk = 3 then [ta] else []) = al at *
  rw [hX]
  repeat (first|refine QG ?_|refine QX (r:=by conv=>lhs;simp[-List.map_set,QV]) (k:=?_))
  repeat refine QS ?_
  refine vw_loopAt [1, 3, 4] rfl (fun c σ S' => ∃ (k : Nat) (out : List Int), k ≤ tt.length ∧ c = tt.length - k ∧ out = al ++ (tt.take k).flatMap (fun x => x.args) ∧ out.length ≤ 1 + k * 4096 ∧ σ = [(1, .ref (.agg [.int .i64 tk, .int .i64 ta, vl encEdge tt, vl vint az])), (3, .slice (lid S.nx 0) 0 out.length), (4, vnat k)] ∧ S' = St S [] [some (1, out.map vint)]) tt.length ?_ ?_
  · exact ⟨0, al, by omega, rfl, by simp, by omega, by simp [Fr.only], rfl⟩
  · rintro c σ T ⟨k, out, hk, rfl, ho, hol, rfl, rfl⟩
    by_cases hkt : k < tt.length
    case neg =>
      have hke : k = tt.length := by omega
      subst hke
      rw [List.take_length] at ho
      have hb : (out.length + az.length) * 8 ≤ 140737488355328 := by omega
      have hb' : out.length + az.length ≤ 140737488355328 := by omega
      rw [← ho]
      repeat (first|refine QG ?_|refine QX (r:=by conv=>lhs;simp[-List.map_set,QV,hkt,hb,hb',opAppend_vl,nc_vint,flatC_vint]) (k:=?_))
      exact done_gc [1] hwf (by decide) (by simp) (by simp; rfl) (by simp; rfl) ⟨by simp; omega, by simp, by simp⟩
    have hw := wrapNat hkt (by omega)
    have hxk := hx _ (List.getElem_mem hkt)
    obtain ⟨⟨xt, xa⟩, hx2⟩ : ∃ x, tt[k] = x := ⟨_, rfl⟩
    have htk : (tt.take (k + 1)).flatMap (fun x => x.args) = (tt.take k).flatMap (fun x => x.args) ++ xa := by rw [List.take_add_one, List.getElem?_eq_getElem hkt, List.flatMap_append, hx2]; simp
    rw [hx2] at hxk
    simp only at hxk
    have hb : (out.length + xa.length) * 8 ≤ 140737488355328 := by omega
    have hb' : out.length + xa.length ≤ 140737488355328 := by omega
    repeat (first|refine QG ?_|refine QX (r:=by conv=>lhs;simp[-List.map_set,QV,hkt,hx2,hb,hb',opAppend_vl,nc_vint,flatC_vint,hw]) (k:=?_))
    refine QA [1] (h:=⟨?_, k + 1, out ++ xa, hkt, rfl, by rw [htk, ho, List.append_assoc], by simp; omega, by simp, by simp⟩)
    omega
theorem renL_repb (f : Nat → Nat) (n : Nat) (b : Bool) : V.renL f (List.replicate n (V.bool b)) = List.replicate n (V.bool b) := by rw [rep_bool, renL_bool]
theorem idsL_repb (p : Nat → Bool) (n : Nat) (b : Bool) : V.idsL p (List.replicate n (V.bool b)) = true := by rw [rep_bool, idsL_bool]
theorem mark_one {o : List Bool} {l : List Int} {k : Nat} (h : k < l.length) : Ss.mark o (l.drop k) = Ss.mark (Ss.mark1 o l[k]) (l.drop (k + 1)) := Ss.foldl_one Ss.mark1 h o
theorem RUsed_v (f : Ss.Fn) (hf : f.Fits) (hs : f.small = true) : VPure Try.prog 14 [encFn f] (vl V.bool (Ss.rusedOf f)) := by
  intro S
  have csm := RSmall_v f hf
  rw [hs] at csm
  obtain ⟨hh, hbk, hcnt⟩ := (Ss.small_iff f).1 hs
  simp only [Ss.Fn.heads, Bool.and_eq_true, decide_eq_true_eq] at hh
  obtain ⟨sm, hsm⟩ : ∃ sm, sm = true := ⟨_, rfl⟩
  rw [← hsm] at csm
  have hX : Ss.rusedOf f = f.blocks.foldl (fun o b => Ss.mark o (Ss.asksB b)) (List.replicate f.types.length false) := rfl
  rw [hX]
  obtain ⟨⟨fi, fo⟩, ts, bs⟩ := f
  simp only at hh hbk hcnt ⊢
  have csm' : VPure Try.prog 9 [.agg [vl vint fi, vl vint fo, vl vint ts, vl encBlock bs]] (.bool sm) := csm
  generalize hU : (fun (o : List Bool) (b : Ss.Block) => Ss.mark o (Ss.asksB b)) = U
  refine vcalls_start (c := bodyOf Try.f14) Try.func14 rfl rfl (by simp [Try.ntmps14]) ?_
  rw [Try.ntmps14]
  intro hwf
  repeat refine QS ?_
  refine QR (r:=by conv=>lhs;simp[-List.map_set,QV]) (k:=?_)
  refine QN ?_
  refine vw_ghost' 1 rfl ((refSt (k := 0) (by simp) (by rfl) (by rfl) (by simp))) (by conv => lhs; simp [Fr.set]) ?_
  simp only [List.set_cons_succ, List.set_cons_zero]
  repeat (first|refine QG ?_|refine QX (r:=by conv=>lhs;simp[-List.map_set,QV]) (k:=?_))
  repeat refine QS ?_
  refine QR (r:=by conv=>lhs;simp[-List.map_set,QV]) (k:=?_)
  refine vcall_useH (csm') (by rfl) ?_
  refine QM (by conv=>lhs;simp[-List.map_set,QV,hsm]) ?_
  refine QN ?_
  have htb : ts.length * 1 ≤ 140737488355328 := by omega
  have htb' : ts.length ≤ 140737488355328 := by omega
  repeat (first|refine QG ?_|refine QX (r:=by conv=>lhs;simp[-List.map_set,QV,hsm,htb,htb']) (k:=?_))
  refine vw_only' [1, 3, 4] (by conv => lhs; simp [Fr.only, Fr.look]) ?_
  refine vw_gc [1] hwf (by decide) (by simp [-List.map_set, renL_repb, idsL_repb]) (by conv => lhs; simp [-List.map_set, renL_repb, idsL_repb]) (by conv => lhs; simp [-List.map_set, renL_repb, idsL_repb]) (by conv => lhs; simp [-List.map_set, renL_repb, idsL_repb]) ?_
  repeat refine QS ?_
  refine vw_loopAt [1, 3, 4] rfl (fun c σ S' => ∃ (k : Nat) (o : List Bool), k ≤ bs.length ∧ c = bs.length - k ∧ (bs.drop k).foldl U o = bs.foldl U (List.replicate ts.length false) ∧ o.length = ts.length ∧ σ = [(1, .ref (.agg [vl vint fi, vl vint fo, vl vint ts, vl encBlock bs])), (3, .slice (lid S.nx 0) 0 ts.length), (4, vnat k)] ∧ S' = St S [] [some (1, o.map V.bool)]) bs.length ?_ ?_
  · exact ⟨0, List.replicate ts.length false, by omega, rfl, rfl, by simp, by simp [Fr.only], by simp⟩
  · rintro c σ T ⟨k, o, hk, rfl, hd, hol, rfl, rfl⟩
    by_cases hkt : k < bs.length
    case neg =>
      rw [Ss.foldl_end _ hkt] at hd
      repeat (first|refine QG ?_|refine QX (r:=by conv=>lhs;simp[-List.map_set,QV,hkt]) (k:=?_))
      rw [← hd]
      exact done_via hwf ((frz1 (by simp) (by rfl) (all_closed1 V.bool (fun _ => rfl) _) (by simpa using hol)).toB _) rfl
    have hw := wrapNat hkt (by omega)
    have hst := Ss.foldl_one U hkt o
    have hbk' := hbk _ (List.getElem_mem hkt)
    have hcb := count_mem (List.getElem_mem hkt)
    have hUk : U o bs[k] = Ss.mark o (Ss.asksB bs[k]) := by rw [← hU]
    obtain ⟨⟨ps, code, ⟨tk, ta, tt, az⟩⟩, hx⟩ : ∃ b, bs[k] = b := ⟨_, rfl⟩
    rw [hx] at hst hbk' hcb hUk
    simp only [Ss.Block.small, Bool.and_eq_true, List.all_eq_true, Ss.Ins.small, Ss.Edge.small, decide_eq_true_eq] at hbk'
    obtain ⟨⟨⟨⟨hps, htt⟩, haz⟩, hcode⟩, hto2⟩ := hbk'
    simp only at hcb
    have hcl : code.length ≤ 4096 := by omega
    have hAB : Ss.asksB ⟨ps, code, ⟨tk, ta, tt, az⟩⟩ = Ss.asksT ⟨tk, ta, tt, az⟩ ++ code.flatMap (fun x => x.args) := rfl
    rw [hUk, hAB] at hst
    have cas := fun S => Asks_v S ⟨tk, ta, tt, az⟩ htt haz hto2
    generalize Ss.asksT ⟨tk, ta, tt, az⟩ = al at *
    have cas' : ∀ S : Store, VCalls Try.prog 39 [.agg [.int .i64 tk, .int .i64 ta, vl encEdge tt, vl vint az]] S (fun r T => al.length ≤ 16785409 ∧ r = .slice (lid S.nx 0) 0 al.length ∧ T = St S [] [some (1, al.map vint)]) := cas
    repeat (first|refine QG ?_|refine QX (r:=by conv=>lhs;simp[-List.map_set,QV,hkt,hx]) (k:=?_))
    repeat refine QS ?_
    refine QR (r:=by conv=>lhs;simp[-List.map_set,QV,hkt,hx]) (k:=?_)
    refine vcall_any rfl (cas' _) ?_
    rintro X T' ⟨hal, rfl, rfl⟩
    rw [St_nx, lid_lid', ← St_sink]
    simp only [List.cons_append, List.nil_append, List.length_cons, List.length_nil, Nat.zero_add, Nat.add_zero]
    refine QM (by conv=>lhs;simp[-List.map_set,QV]) ?_
    refine QN ?_
    repeat (first|refine QG ?_|refine QX (r:=by conv=>lhs;simp[-List.map_set,QV]) (k:=?_))
    repeat refine QS ?_
    refine vw_loopAt [1, 3, 4, 5, 6] rfl (fun c σ S' => ∃ (j : Nat) (l : List Int), j ≤ code.length ∧ c = code.length - j ∧ l = al ++ (code.take j).flatMap (fun x => x.args) ∧ l.length ≤ 16785409 + j * 4096 ∧ σ = [(1, .ref (.agg [vl vint fi, vl vint fo, vl vint ts, vl encBlock bs])), (3, .slice (lid S.nx 0) 0 ts.length), (4, vnat k), (5, .slice (lid S.nx 1) 0 l.length), (6, vnat j)] ∧ S' = St S [] [some (1, o.map V.bool), some (1, l.map vint)]) code.length ?_ ?_
    · exact ⟨0, al, by omega, rfl, by simp, by omega, by simp [Fr.only], rfl⟩
    · rintro c σ T ⟨j, l, hj, rfl, hl, hll, rfl, rfl⟩
      by_cases hjt : j < code.length
      case pos =>
        have hwj := wrapNat hjt (by omega)
        have hcj := (hcode _ (List.getElem_mem hjt)).1
        obtain ⟨⟨xo, xn, xa, xu⟩, hx2⟩ : ∃ x, code[j] = x := ⟨_, rfl⟩
        have htj : (code.take (j + 1)).flatMap (fun x => x.args) = (code.take j).flatMap (fun x => x.args) ++ xa := by rw [List.take_add_one, List.getElem?_eq_getElem hjt, List.flatMap_append, hx2]; simp
        rw [hx2] at hcj
        simp only at hcj
        have hb : (l.length + xa.length) * 8 ≤ 140737488355328 := by omega
        have hb' : l.length + xa.length ≤ 140737488355328 := by omega
        repeat (first|refine QG ?_|refine QX (r:=by conv=>lhs;simp[-List.map_set,QV,hkt,hx,hjt,hx2,hb,hb',opAppend_vl,nc_vint,flatC_vint,hwj]) (k:=?_))
        refine QA [0, 2] (h:=⟨?_, j + 1, l ++ xa, hjt, rfl, by rw [htj, hl, List.append_assoc], by simp; omega, by simp, by simp⟩)
        omega
      have hje : j = code.length := by omega
      subst hje
      rw [List.take_length] at hl
      rw [← hl] at hst
      have hl63 : l.length < 2^63 := by omega
      repeat (first|refine QG ?_|refine QX (r:=by conv=>lhs;simp[-List.map_set,QV,hkt,hx,hjt]) (k:=?_))
      repeat refine QS ?_
      refine vw_loopAt [1, 3, 4, 5, 7] rfl (fun c σ S' => ∃ (j : Nat) (p : List Bool), j ≤ l.length ∧ c = l.length - j ∧ Ss.mark p (l.drop j) = Ss.mark o l ∧ p.length = ts.length ∧ σ = [(1, .ref (.agg [vl vint fi, vl vint fo, vl vint ts, vl encBlock bs])), (3, .slice (lid S.nx 0) 0 ts.length), (4, vnat k), (5, .slice (lid S.nx 1) 0 l.length), (7, vnat j)] ∧ S' = St S [] [some (1, p.map V.bool), some (1, l.map vint)]) l.length ?_ ?_
      · exact ⟨0, o, by omega, rfl, rfl, hol, by simp [Fr.only], rfl⟩
      · rintro c σ T ⟨j, p, hj, rfl, hp, hpl, rfl, rfl⟩
        by_cases hjt2 : j < l.length
        case neg =>
          rw [show l.drop j = [] by rw [List.drop_eq_nil_iff]; omega] at hp
          have hp' : p = Ss.mark o l := hp
          repeat (first|refine QG ?_|refine QX (r:=by conv=>lhs;simp[-List.map_set,QV,hjt2,hw]) (k:=?_))
          refine QA [0] (h:=⟨?_, k + 1, p, hkt, rfl, by rw [hp', ← hst]; exact hd, hpl, by simp, by simp⟩)
          omega
        have hwj := wrapNat hjt2 hl63
        rw [mark_one hjt2] at hp
        obtain ⟨v, hv⟩ : ∃ v, l[j] = v := ⟨_, rfl⟩
        rw [hv] at hp
        by_cases h1 : 0 ≤ v
        case neg =>
          have hm : Ss.mark1 p v = p := by unfold Ss.mark1; rw [if_neg (by omega)]
          rw [hm] at hp
          repeat (first|refine QG ?_|refine QX (r:=by conv=>lhs;simp[-List.map_set,QV,hjt2,hv,h1,hwj]) (k:=?_))
          refine QA [0, 1] (h:=⟨?_, j + 1, p, hjt2, rfl, hp, hpl, by simp, by simp⟩)
          omega
        obtain ⟨n, rfl⟩ : ∃ n : Nat, v = n := ⟨v.toNat, by omega⟩
        by_cases h2 : (n : Int) < (ts.length : Int)
        case neg =>
          have hm : Ss.mark1 p n = p := by unfold Ss.mark1; rw [if_neg (by omega)]
          rw [hm] at hp
          have h2' : ¬ n < ts.length := by omega
          repeat (first|refine QG ?_|refine QX (r:=by conv=>lhs;simp[-List.map_set,QV,hjt2,hv,h2,h2',hwj]) (k:=?_))
          refine QA [0, 1] (h:=⟨?_, j + 1, p, hjt2, rfl, hp, hpl, by simp, by simp⟩)
          omega
        have h2' : n < ts.length := by omega
        have hm : Ss.mark1 p n = p.set n true := by unfold Ss.mark1; rw [if_pos ⟨by omega, by omega⟩]; rfl
        rw [hm] at hp
        have h3 : n < p.length := by omega
        repeat (first|refine QG ?_|refine QX (r:=by conv=>lhs;simp[-List.map_set,QV,hjt2,hv,h2,h2',h3,hpl,hwj]) (k:=?_))
        refine QA [0, 1] (h:=⟨?_, j + 1, p.set n true, hjt2, rfl, hp, by simp [hpl], by simp, by simp⟩)
        omega
end Go.Vw

namespace Go.Vw
open Go.Proofs Go.RowKit
set_option maxRecDepth 10000
set_option maxHeartbeats 8000000

theorem Check_v (e : Ss.Env) (f : Ss.Fn) (he : e.Fits) (hf : f.Fits) : VPure Try.prog 11 [encEnv e, encFn f] (.bool (Ss.check e f)) := by
  intro S
  have cer := EnvRight_v e he
  have csm := small_v f hf
  have hsb := @small_blocks f
  have ckt : VPure Try.prog 30 [.int .i64 2048, vl vint f.types] (.bool (Ss.kinds 2048 f.types)) := kinds_v 2048 f.types (by have := hf.2.1.1; omega)
  have csr := sigRight_v f.sig hf.1
  have cpa := AnyB_v f.blocks (fun b => decide (256 < b.params.length)) 33 [] rfl (by have := hf.2.2.1; omega) (fun b _ => check1_v b)
  have hpa : (f.blocks.all fun b => decide (b.params.length ≤ 256)) = !(f.blocks.any fun b => decide (256 < b.params.length)) := by
    rw [List.not_any_eq_all_not]; congr 1; funext b; by_cases h : b.params.length ≤ 256 <;> simp [h] <;> omega
  have hH : Ss.checkHead e f = (e.right && f.small && decide (f.blocks.length ≤ 256) && Ss.kinds 2048 f.types && f.sig.right && !(f.blocks.any fun b => decide (256 < b.params.length))) := by rw [← hpa]; rfl
  have hX : Ss.check e f = (Ss.checkHead e f && match Ss.defsOf f with
    | none => false
    | some ds => Ss.shapeOk f && Ss.checkBlocks e f ds (G.nearI (Ss.succs f.blocks)) 0 f.blocks) := rfl
  have hks : Ss.kinds 2048 f.types = true → f.types.length ≤ 2048 := by
    intro h; simp only [Ss.kinds, Bool.and_eq_true, decide_eq_true_eq] at h; exact h.1
  have her : e.right = true → e.muts.length = e.globals.length := by
    intro h; simp only [Ss.Env.right, Bool.and_eq_true, decide_eq_true_eq] at h; exact h.1.1.2
  rw [hX, hH]
  generalize (f.blocks.any fun b => decide (256 < b.params.length)) = pa at *
  generalize e.right = er at *
  generalize hsm : f.small = sm at *
  generalize Ss.kinds 2048 f.types = kt at *
  generalize f.sig.right = sr at *
  have hsl := he.1.1
  have hgl := he.2.2.1.1
  obtain ⟨sg, im, gl, mu, me⟩ := e
  obtain ⟨⟨fi, fo⟩, ts, bs⟩ := f
  simp only at *
  have cer' : VPure Try.prog 29 [.agg [vl encSig sg, .int .i64 im, vl vint gl, vl V.bool mu, .bool me]] (.bool er) := cer
  have csm' : VPure Try.prog 16 [.agg [vl vint fi, vl vint fo, vl vint ts, vl encBlock bs]] (.bool sm) := csm
  have csr' : VPure Try.prog 31 [.agg [vl vint fi, vl vint fo]] (.bool sr) := csr
  generalize hZ : (match Ss.defsOf ⟨⟨fi, fo⟩, ts, bs⟩ with
    | none => false
    | some ds => Ss.shapeOk ⟨⟨fi, fo⟩, ts, bs⟩ && Ss.checkBlocks ⟨sg, im, gl, mu, me⟩ ⟨⟨fi, fo⟩, ts, bs⟩ ds (G.nearI (Ss.succs bs)) 0 bs) = Z
  refine vcalls_start (c := bodyOf Try.f11) Try.func11 rfl rfl (by simp [Try.ntmps11]) ?_
  rw [Try.ntmps11]
  intro hwf
  repeat (first|refine QG ?_|refine QX (r:=by conv=>lhs;simp[-List.map_set,QV]) (k:=?_))
  repeat refine QS ?_
  refine QR (r:=by conv=>lhs;simp[-List.map_set,QV]) (k:=?_)
  refine vcall_useH (cer') (by rfl) ?_
  by_cases h1 : er = true
  case neg =>
    have h1' : er = false := by simpa using h1
    refine QM (by conv=>lhs;simp[-List.map_set,QV,h1']) ?_
    refine QN ?_
    repeat (first|refine QG ?_|refine QX (r:=by conv=>lhs;simp[-List.map_set,QV]) (k:=?_))
    exact done_pure hwf (by simp [h1']) rfl
  refine QM (by conv=>lhs;simp[-List.map_set,QV,h1]) ?_
  refine vcall_useH (csm') (by rfl) ?_
  by_cases h2 : sm = true
  case neg =>
    have h2' : sm = false := by simpa using h2
    refine QM (by conv=>lhs;simp[-List.map_set,QV,h2']) ?_
    refine QN ?_
    repeat (first|refine QG ?_|refine QX (r:=by conv=>lhs;simp[-List.map_set,QV]) (k:=?_))
    exact done_pure hwf (by simp [h2']) rfl
  by_cases h3 : (256 : Int) < (bs.length : Int)
  · refine QM (by conv=>lhs;simp[-List.map_set,QV,h2,h3]) ?_
    refine QN ?_
    repeat (first|refine QG ?_|refine QX (r:=by conv=>lhs;simp[-List.map_set,QV]) (k:=?_))
    exact done_pure hwf (by rw [show decide (bs.length ≤ 256) = false by simp; omega]; simp) rfl
  have h3' : bs.length ≤ 256 := by omega
  refine QM (by conv=>lhs;simp[-List.map_set,QV,h2,h3]) ?_
  refine vcall_useH (ckt) (by rfl) ?_
  by_cases h4 : kt = true
  case neg =>
    have h4' : kt = false := by simpa using h4
    refine QM (by conv=>lhs;simp[-List.map_set,QV,h4']) ?_
    refine QN ?_
    repeat (first|refine QG ?_|refine QX (r:=by conv=>lhs;simp[-List.map_set,QV]) (k:=?_))
    exact done_pure hwf (by simp [h4']) rfl
  refine QM (by conv=>lhs;simp[-List.map_set,QV,h4]) ?_
  refine vcall_useH (csr') (by rfl) ?_
  by_cases h5 : sr = true
  case neg =>
    have h5' : sr = false := by simpa using h5
    refine QM (by conv=>lhs;simp[-List.map_set,QV,h5']) ?_
    refine QN ?_
    repeat (first|refine QG ?_|refine QX (r:=by conv=>lhs;simp[-List.map_set,QV]) (k:=?_))
    exact done_pure hwf (by simp [h5']) rfl
  rw [h1, h2, h4, h5, decide_eq_true h3']
  simp only [Bool.true_and]
  have htl := hks h4
  obtain ⟨_, _, hsf, _⟩ := hsb h2
  refine QM (by conv=>lhs;simp[-List.map_set,QV,h5]) ?_
  refine QN ?_
  repeat (first|refine QG ?_|refine QX (r:=by conv=>lhs;simp[-List.map_set,QV]) (k:=?_))
  repeat refine QS ?_
  refine QR (r:=by conv=>lhs;simp[-List.map_set,QV]) (k:=?_)
  refine vcall_useH (cpa) (by rfl) ?_
  by_cases h6 : pa = true
  · refine QM (by conv=>lhs;simp[-List.map_set,QV,h6]) ?_
    refine QN ?_
    repeat (first|refine QG ?_|refine QX (r:=by conv=>lhs;simp[-List.map_set,QV]) (k:=?_))
    exact done_pure hwf (by simp [h6]) rfl
  have h6' : pa = false := by simpa using h6
  rw [h6']
  simp only [Bool.not_false, Bool.true_and]
  refine QM (by conv=>lhs;simp[-List.map_set,QV,h6']) ?_
  refine vcall_any rfl (define_v _ ⟨sg, im, gl, mu, me⟩ ⟨⟨fi, fo⟩, ts, bs⟩ (lid S.nx 2) hf (by simp only; omega) (by simp)) ?_
  rintro X S' ⟨ds, hdl, rfl, hdd, rfl⟩
  rw [St_St (by rw [St_nx]; simp [lid]), St_upd (by simp), St_add, St_nx, lid_lid]
  simp only [List.set_cons_succ, List.set_cons_zero, List.cons_append, List.nil_append, List.length_cons, List.length_nil, Nat.zero_add, Nat.add_zero]
  cases hdf : Ss.defsOf ⟨⟨fi, fo⟩, ts, bs⟩ with
  | none =>
    rw [hdf] at hZ
    simp only at hZ
    obtain ⟨z, hz⟩ : ∃ z, (none : Option (List Ss.Def)).isSome = z := ⟨_, rfl⟩
    have hz' : z = false := by rw [← hz]; rfl
    rw [hz]
    refine QM (by conv=>lhs;simp[-List.map_set,QV,hz']) ?_
    refine QN ?_
    repeat (first|refine QG ?_|refine QX (r:=by conv=>lhs;simp[-List.map_set,QV]) (k:=?_))
    exact done_pure hwf (by simp [← hZ]) rfl
  | some ds2 =>
    obtain rfl := hdd _ hdf
    rw [hdf] at hZ
    simp only at hZ
    obtain ⟨hdl2, hdin⟩ := Ss.defs_in hdf
    simp only at hdin
    obtain ⟨z, hz⟩ : ∃ z, (some ds : Option (List Ss.Def)).isSome = z := ⟨_, rfl⟩
    have hz' : z = true := by rw [← hz]; rfl
    rw [hz]
    refine QM (by conv=>lhs;simp[-List.map_set,QV,hz']) ?_
    refine vcall_any rfl (shape_v _ ⟨sg, im, gl, mu, me⟩ ⟨⟨fi, fo⟩, ts, bs⟩ (lid S.nx 2) (lid S.nx 3) hf (hsm.trans h2) (by simp [hdl]) (by simp [lid]) (fun b hb => (hdin b hb).1)) ?_
    rintro X S' ⟨nv, hnv, rfl, hnvv, rfl⟩
    rw [St_upd (by simp)]
    simp only [List.set_cons_succ, List.set_cons_zero]
    generalize hso : Ss.shapeOk ⟨⟨fi, fo⟩, ts, bs⟩ = so at *
    by_cases h7 : so = true
    case neg =>
      have h7' : so = false := by simpa using h7
      refine QM (by conv=>lhs;simp[-List.map_set,QV,h7']) ?_
      refine QN ?_
      repeat (first|refine QG ?_|refine QX (r:=by conv=>lhs;simp[-List.map_set,QV]) (k:=?_))
      exact done_pure hwf (by simp [← hZ, h7']) rfl
    have hnv2 := hnvv h7
    subst hnv2
    rw [h7, Bool.true_and] at hZ
    have hright : G.right (Ss.succs bs) = true := by
      have := hso.trans h7
      simp only [Ss.shapeOk, Bool.and_eq_true] at this
      exact this.1.1.1.1
    have hto := Ss.right_to (f := ⟨⟨fi, fo⟩, ts, bs⟩) hright
    simp only at hto
    have hnl := G.nearI_len (Ss.succs bs)
    generalize hnr : G.nearI (Ss.succs bs) = near at *
    refine QM (by conv=>lhs;simp[-List.map_set,QV,h7]) ?_
    refine QN ?_
    apply vw_reach
    · exact Reach.frzCellS (enc := encDef) (s := 3) (fun _ => rfl) encDef_closed (k := 2) (j := 3) (i := 9) ds (by decide) (by simp) (by simp) (by rfl) (by rw [hdl]; rfl) (by rfl)
    simp only [List.set_cons_succ, List.set_cons_zero]
    refine vw_ghost' 5 rfl ((refSt (k := 2) (by simp) (by rfl) (by rfl) (by simp))) (by conv => lhs; simp [Fr.set]) ?_
    simp only [List.set_cons_succ, List.set_cons_zero]
    repeat (first|refine QG ?_|refine QX (r:=by conv=>lhs;simp[-List.map_set,QV]) (k:=?_))
    refine vw_only' [5, 54, 55, 56] (by conv => lhs; simp [Fr.only, Fr.look]) ?_
    refine vw_gc [] hwf (by decide) (by simp [-List.map_set]) (by conv => lhs; simp [-List.map_set]) (by conv => lhs; simp [-List.map_set]) (by conv => lhs; simp [-List.map_set]) ?_
    have ci : ∀ (i k : Nat) (b : Ss.Block) (x : Ss.Ins), b ∈ bs → x ∈ b.code → VPure Try.prog 36 [ckV ⟨sg, im, gl, mu, me⟩ ⟨⟨fi, fo⟩, ts, bs⟩ ds near, vnat i, vnat k, encIns x] (.bool (Ss.insOk ⟨sg, im, gl, mu, me⟩ ⟨⟨fi, fo⟩, ts, bs⟩ ds near i k x)) := by
      intro i k b x hb hx
      have hbF := hf.2.2.2 b hb
      have hxF := hbF.2.1.2 x hx
      have hsmb := ((Ss.small_iff _).1 (hsm.trans h2)).2.1 b hb
      simp only [Ss.Block.small, Bool.and_eq_true, List.all_eq_true, Ss.Ins.small, decide_eq_true_eq] at hsmb
      have hxl := (hsmb.1.2 x hx).2
      exact ins_v ⟨sg, im, gl, mu, me⟩ ⟨⟨fi, fo⟩, ts, bs⟩ ds near i k x hsl hgl (her h1) hdl (by simp only; omega) (by omega) hxF (by omega) ((hdin b hb).2 x hx)
    have ctm : ∀ (i : Nat) (b : Ss.Block), b ∈ bs → VPure Try.prog 37 [ckV ⟨sg, im, gl, mu, me⟩ ⟨⟨fi, fo⟩, ts, bs⟩ ds near, vnat i, encBlock b] (.bool (Ss.termOk ⟨⟨fi, fo⟩, ts, bs⟩ ds near i b)) := fun i b hb =>
      term_v ⟨sg, im, gl, mu, me⟩ ⟨⟨fi, fo⟩, ts, bs⟩ ds near i b hdl (by simp only; omega) (by omega) (by simp only; omega) (by have := hf.1.2.1; simp only at this ⊢; omega) (hf.2.2.2 b hb) (hto b hb) (fun b hb => ⟨by have := (hsf b hb).1; omega, (hdin b hb).1⟩)
    repeat refine QS ?_
    refine vw_loopAt [5, 54, 55, 56] rfl (fun c σ S' => ∃ (k : Nat), k ≤ bs.length ∧ c = bs.length - k ∧ Ss.checkBlocks ⟨sg, im, gl, mu, me⟩ ⟨⟨fi, fo⟩, ts, bs⟩ ds near k (bs.drop k) = Z ∧ σ = [(5, ckV ⟨sg, im, gl, mu, me⟩ ⟨⟨fi, fo⟩, ts, bs⟩ ds near), (54, vl encBlock bs), (55, vnat bs.length), (56, vnat k)] ∧ S' = St S [] []) bs.length ?_ ?_
    · exact ⟨0, by omega, rfl, hZ, by simp [Fr.only], rfl⟩
    · rintro c σ T ⟨k, hk, rfl, hcb, rfl, rfl⟩
      by_cases hkt : k < bs.length
      · have hw := wrapNat hkt (by omega)
        have hst := checkBlocks_one (e := ⟨sg, im, gl, mu, me⟩) (f := ⟨⟨fi, fo⟩, ts, bs⟩) (ds := ds) (near := near) hkt
        have hmem := List.getElem_mem hkt
        have hcl := (hsf _ hmem).2.2.2
        have cti := ctm k _ hmem
        have cii := fun j x => ci k j _ x hmem
        obtain ⟨⟨ps, code, ⟨tk, ta, to, az⟩⟩, hx⟩ : ∃ b, bs[k] = b := ⟨_, rfl⟩
        rw [hx] at hst hcl cti cii
        simp only at hst hcl cii
        rw [hst] at hcb
        generalize Ss.termOk ⟨⟨fi, fo⟩, ts, bs⟩ ds near k ⟨ps, code, ⟨tk, ta, to, az⟩⟩ = tm at *
        repeat (first|refine QG ?_|refine QX (r:=by conv=>lhs;simp[-List.map_set,QV,hkt,hx]) (k:=?_))
        repeat refine QS ?_
        refine vw_loopAt [5, 6, 7, 54, 55, 56, 62, 63, 64] rfl (fun c σ S' => ∃ (j : Nat), j ≤ code.length ∧ c = code.length - j ∧ Ss.checkCode ⟨sg, im, gl, mu, me⟩ ⟨⟨fi, fo⟩, ts, bs⟩ ds near k j (code.drop j) = Ss.checkCode ⟨sg, im, gl, mu, me⟩ ⟨⟨fi, fo⟩, ts, bs⟩ ds near k 0 code ∧ σ = [(5, ckV ⟨sg, im, gl, mu, me⟩ ⟨⟨fi, fo⟩, ts, bs⟩ ds near), (6, vnat k), (7, .ptr (lid S.nx 0) 0), (54, vl encBlock bs), (55, vnat bs.length), (56, vnat k), (62, vl encIns code), (63, vnat code.length), (64, vnat j)] ∧ S' = St S [] [some (6, [vl vint ps, vl encIns code, .int .i64 tk, .int .i64 ta, vl encEdge to, vl vint az])]) code.length ?_ ?_
        · exact ⟨0, by omega, rfl, rfl, by simp [Fr.only], rfl⟩
        · rintro c σ T ⟨j, hj, rfl, hcc, rfl, rfl⟩
          by_cases hjt : j < code.length
          · have hwj := wrapNat hjt (by omega)
            have hsc := checkCode_one (e := ⟨sg, im, gl, mu, me⟩) (f := ⟨⟨fi, fo⟩, ts, bs⟩) (ds := ds) (near := near) (i := k) hjt
            have cij := cii j _ (List.getElem_mem hjt)
            obtain ⟨⟨xo, xn, xa, xu⟩, hx2⟩ : ∃ x, code[j] = x := ⟨_, rfl⟩
            rw [hx2] at hsc cij
            generalize Ss.insOk ⟨sg, im, gl, mu, me⟩ ⟨⟨fi, fo⟩, ts, bs⟩ ds near k j ⟨xo, xn, xa, xu⟩ = io at *
            have cij' : VPure Try.prog 36 [ckV ⟨sg, im, gl, mu, me⟩ ⟨⟨fi, fo⟩, ts, bs⟩ ds near, vnat k, vnat j, .agg [.int .i64 xo, .int .u64 xn, vl vint xa, vl vint xu]] (.bool io) := cij
            repeat (first|refine QG ?_|refine QX (r:=by conv=>lhs;simp[-List.map_set,QV,hjt,hx2]) (k:=?_))
            repeat refine QS ?_
            refine QR (r:=by conv=>lhs;simp[-List.map_set,QV,hjt,hx2]) (k:=?_)
            refine vcall_useH (cij') (by rfl) ?_
            by_cases hio : io = true
            · refine QM (by conv=>lhs;simp[-List.map_set,QV,hio]) ?_
              refine QN ?_
              repeat (first|refine QG ?_|refine QX (r:=by conv=>lhs;simp[-List.map_set,QV]) (k:=?_))
              refine QA [0] (h:=⟨?_, j + 1, hjt, rfl, by rw [← hcc, hsc, hio, Bool.true_and], by simp [hwj], rfl⟩)
              omega
            · have hio' : io = false := by simpa using hio
              refine QM (by conv=>lhs;simp[-List.map_set,QV,hio']) ?_
              refine QN ?_
              repeat (first|refine QG ?_|refine QX (r:=by conv=>lhs;simp[-List.map_set,QV]) (k:=?_))
              exact done_pure hwf (by rw [← hcb, ← hcc, hsc, hio']; simp) rfl
          · have e1 : code.drop j = [] := by rw [List.drop_eq_nil_iff]; omega
            rw [e1, Ss.checkCode] at hcc
            rw [← hcc, Bool.true_and] at hcb
            have cti' : VPure Try.prog 37 [ckV ⟨sg, im, gl, mu, me⟩ ⟨⟨fi, fo⟩, ts, bs⟩ ds near, vnat k, .agg [vl vint ps, vl encIns code, .int .i64 tk, .int .i64 ta, vl encEdge to, vl vint az]] (.bool tm) := cti
            repeat (first|refine QG ?_|refine QX (r:=by conv=>lhs;simp[-List.map_set,QV,hjt]) (k:=?_))
            repeat refine QS ?_
            refine QR (r:=by conv=>lhs;simp[-List.map_set,QV,hjt]) (k:=?_)
            refine vcall_useH (cti') (by rfl) ?_
            by_cases htm : tm = true
            · refine QM (by conv=>lhs;simp[-List.map_set,QV,htm]) ?_
              refine QN ?_
              repeat (first|refine QG ?_|refine QX (r:=by conv=>lhs;simp[-List.map_set,QV]) (k:=?_))
              refine QA [] (h:=⟨?_, k + 1, hkt, rfl, by rw [← hcb, htm, Bool.true_and], by simp [hw], rfl⟩)
              omega
            · have htm' : tm = false := by simpa using htm
              refine QM (by conv=>lhs;simp[-List.map_set,QV,htm']) ?_
              refine QN ?_
              repeat (first|refine QG ?_|refine QX (r:=by conv=>lhs;simp[-List.map_set,QV]) (k:=?_))
              exact done_pure hwf (by rw [← hcb, htm']; simp) rfl
      · have e1 : bs.drop k = [] := by rw [List.drop_eq_nil_iff]; omega
        rw [e1, Ss.checkBlocks] at hcb
        repeat (first|refine QG ?_|refine QX (r:=by conv=>lhs;simp[-List.map_set,QV,hkt]) (k:=?_))
        exact done_pure hwf (by simp [← hcb]) rfl
end Go.Vw

namespace Go.Vw
open Go.Proofs Go.RowKit
set_option maxRecDepth 10000
set_option maxHeartbeats 8000000

theorem EqIns_v (l m : List Ss.Ins) (hl : l.length < 2^63) (hm : ∀ x ∈ l, x.Fits) : VPure Try.prog 45 [vl encIns l, vl encIns m, .func 46 []] (.bool (decide (l = m))) := by
  rw [← eqF_dec]
  exact EqFN_v l m _ _ rfl hl fun _ k h1 h2 => sameIns_v _ _ (by have := (hm _ (List.getElem_mem h1)).2.2.1.1; omega) (by have := (hm _ (List.getElem_mem h1)).2.2.2.1; omega)
theorem EqEdge_v (l m : List Ss.Edge) (hl : l.length < 2^63) (hm : ∀ x ∈ l, x.Fits) : VPure Try.prog 47 [vl encEdge l, vl encEdge m, .func 48 []] (.bool (decide (l = m))) := by
  rw [← eqF_dec]
  exact EqFE_v l m _ _ rfl hl fun _ k h1 h2 => sameEdge_v _ _ (by have := (hm _ (List.getElem_mem h1)).2.1; omega)

theorem sameBlock_v (x y : Ss.Block) (hx : x.Fits) : VPure Try.prog 19 [encBlock x, encBlock y] (.bool (decide (x = y))) := by
  intro S
  obtain ⟨a1, a2, ⟨a3, a4, a5, a6⟩⟩ := x
  obtain ⟨b1, b2, ⟨b3, b4, b5, b6⟩⟩ := y
  obtain ⟨⟨f1, _⟩, ⟨f2, f3⟩, _, _, ⟨f4, f5⟩, ⟨f6, _⟩⟩ := hx
  simp only at f1 f2 f3 f4 f5 f6
  simp only [Ss.Block.mk.injEq, Ss.Term.mk.injEq] at *
  have g1 : a1.length < 2^63 := by omega
  have g2 : a2.length < 2^63 := by omega
  have g5 : a5.length < 2^63 := by omega
  have g6 : a6.length < 2^63 := by omega
  refine vcalls_start (c := bodyOf Try.f19) Try.func19 rfl rfl (by simp [Try.ntmps19]) ?_
  rw [Try.ntmps19]
  intro hwf
  repeat (first|refine QG ?_|refine QX (r:=by conv=>lhs;simp[-List.map_set,QV]) (k:=?_))
  repeat refine QS ?_
  refine vw_drawTwo (σm := ?sm) (Sm := ?Sm) (ZZ.mk _ (St S [] [some (6, [vl vint a1, vl encIns a2, vint a3, vint a4, vl encEdge a5, vl vint a6]), some (6, [vl vint b1, vl encIns b2, vint b3, vint b4, vl encEdge b5, vl vint b6])]) (St S [] [some (6, [vl vint a1, vl encIns a2, vint a3, vint a4, vl encEdge a5, vl vint a6]), some (6, [vl vint b1, vl encIns b2, vint b3, vint b4, vl encEdge b5, vl vint b6])]) []) 4 5 [0, 1, 2, 3, 4, 5, 6, 7] [0, 1, 2, 3, 5, 4, 6, 7] rfl (by kernel_rfl) (by conv => lhs; reduce) (by kernel_rfl) (by decide) (by kernel_rfl) (by kernel_rfl) (by kernel_rfl) (by kernel_rfl) (by kernel_rfl) (by kernel_rfl) rfl (ok_St (by simp [subU, shpU, subL, shpL])) (Store.sub_refl _) (by conv => lhs; reduce) (by conv => lhs; reduce) ?H1 ?H2 ?H3
  case H1 =>
    refine QM (by conv=>lhs;simp[-List.map_set,QV]) ?_
    refine vseg_write rfl (by conv=>lhs;simp[-List.map_set,QV]) (ok_St (by simp [subU, shpU, subL, shpL])) ?_
    refine vseg_write rfl (by conv=>lhs;simp[-List.map_set,QV]) (ok_St (by simp [subU, shpU, subL, shpL])) ?_
    refine vseg_write rfl (by conv=>lhs;simp[-List.map_set,QV]) (ok_St (by simp [subU, shpU, subL, shpL])) ?_
    refine vseg_write rfl (by conv=>lhs;simp[-List.map_set,QV]) (ok_St (by simp [subU, shpU, subL, shpL])) ?_
    refine QN ?_
    refine reach_only [2, 3, 5, 6] (Eq.trans (b := ?_) ?_ rfl)
    rotate_left
    conv => lhs; simp [Fr.only, Fr.look]
  case H2 =>
    refine QM (by conv=>lhs;simp[-List.map_set,QV]) ?_
    refine vseg_write rfl (by conv=>lhs;simp[-List.map_set,QV]) (ok_St (by simp [subU, shpU, subL, shpL])) ?_
    refine vseg_write rfl (by conv=>lhs;simp[-List.map_set,QV]) (ok_St (by simp [subU, shpU, subL, shpL])) ?_
    refine vseg_write rfl (by conv=>lhs;simp[-List.map_set,QV]) (ok_St (by simp [subU, shpU, subL, shpL])) ?_
    refine vseg_write rfl (by conv=>lhs;simp[-List.map_set,QV]) (ok_St (by simp [subU, shpU, subL, shpL])) ?_
    refine QN ?_
    exact reach_swap [2, 3, 5, 6] [0, 1, 3, 2] (by conv => lhs; simp [Fr.only, Fr.look]) hwf (by decide) (by simp [-List.map_set]) (by conv => lhs; simp [-List.map_set]) (by conv => lhs; simp [-List.map_set]) (by conv => lhs; simp [-List.map_set])
  repeat (first|refine QG ?_|refine QX (r:=by conv=>lhs;simp[-List.map_set,QV]) (k:=?_))
  repeat refine QS ?_
  refine QR (r:=by conv=>lhs;simp[-List.map_set,QV]) (k:=?_)
  refine vcall_use rfl (Equal_v a1 b1 g1) ?_
  by_cases h1 : a1 = b1
  · refine QM (by conv=>lhs;simp[-List.map_set,QV,h1]) ?_
    refine vcall_use rfl (EqIns_v a2 b2 g2 f3) ?_
    by_cases h2 : a2 = b2
    · by_cases h3 : a3 = b3
      · by_cases h4 : a4 = b4
        · refine QM (by conv=>lhs;simp[-List.map_set,QV,h2,h3,h4]) ?_
          refine vcall_use rfl (Equal_v a6 b6 g6) ?_
          by_cases h6 : a6 = b6
          · refine QM (by conv=>lhs;simp[-List.map_set,QV,h6]) ?_
            refine vcall_use rfl (EqEdge_v a5 b5 g5 f5) ?_
            refine QM (by conv=>lhs;simp[-List.map_set,QV]) ?_
            refine QN ?_
            repeat (first|refine QG ?_|refine QX (r:=by conv=>lhs;simp[-List.map_set,QV]) (k:=?_))
            exact done_pure hwf (by simp [h1, h2, h3, h4, h6]) rfl
          · refine QM (by conv=>lhs;simp[-List.map_set,QV,h6]) ?_
            refine QN ?_
            repeat (first|refine QG ?_|refine QX (r:=by conv=>lhs;simp[-List.map_set,QV]) (k:=?_))
            exact done_pure hwf (by simp [h6]) rfl
        · refine QM (by conv=>lhs;simp[-List.map_set,QV,h2,h3,h4]) ?_
          refine QN ?_
          repeat (first|refine QG ?_|refine QX (r:=by conv=>lhs;simp[-List.map_set,QV]) (k:=?_))
          exact done_pure hwf (by simp [h4]) rfl
      · refine QM (by conv=>lhs;simp[-List.map_set,QV,h2,h3]) ?_
        refine QN ?_
        repeat (first|refine QG ?_|refine QX (r:=by conv=>lhs;simp[-List.map_set,QV]) (k:=?_))
        exact done_pure hwf (by simp [h3]) rfl
    · refine QM (by conv=>lhs;simp[-List.map_set,QV,h2]) ?_
      refine QN ?_
      repeat (first|refine QG ?_|refine QX (r:=by conv=>lhs;simp[-List.map_set,QV]) (k:=?_))
      exact done_pure hwf (by simp [h2]) rfl
  · refine QM (by conv=>lhs;simp[-List.map_set,QV,h1]) ?_
    refine QN ?_
    repeat (first|refine QG ?_|refine QX (r:=by conv=>lhs;simp[-List.map_set,QV]) (k:=?_))
    exact done_pure hwf (by simp [h1]) rfl

end Go.Vw
