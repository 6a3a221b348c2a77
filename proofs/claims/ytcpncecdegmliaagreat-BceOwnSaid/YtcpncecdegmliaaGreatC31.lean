import Derived.Test.YtcpncecdegmliaaGreatC26
import Derived.Test.YtcpncecdegmliaaGreatC22
import Derived.Test.YtcpncecdegmliaaGreatC17
import Derived.Test.YtcpncecdegmliaaGreatC27
import Derived.Test.YtcpncecdegmliaaGreatC20
import Derived.Test.YtcpncecdegmliaaGreatC30
import Derived.Test.YtcpncecdegmliaaGreatC24
/-
  Part of the proof (texts SChk2, SBlk, SSame2, SAlive, SAlive2, SLLess, SLessP, BChk).
-/
set_option linter.unusedVariables false
set_option linter.unusedSimpArgs false
namespace Go.Vw
open Go.Proofs Go.RowKit
set_option maxRecDepth 10000
set_option maxHeartbeats 8000000
theorem Check_v (e : Ss.Env) (f : Ss.Fn) (he : e.Fits) (hf : f.Fits) : VPure Tryz.prog 16 [encEnv e, encFn f] (.bool (Ss.check e f)) := by
 intro S
 have cer := EnvRight_v e he
 have csm := small_v f hf
 have hsb := @small_blocks f
 have ckt : VPure Tryz.prog 52 [.int .i64 2048, vl vint f.types] (.bool (Ss.kinds 2048 f.types)) := kinds_v 2048 f.types (by have := hf.2.1.1; omega)
 have csr := sigRight_v f.sig hf.1
 have cpa := AnyB_v f.blocks (fun b => decide (256 < b.params.length)) 55 [] rfl (by have := hf.2.2.1; omega) (fun b _ => check1_v b)
 have hpa : (f.blocks.all fun b => decide (b.params.length ≤ 256)) = !(f.blocks.any fun b => decide (256 < b.params.length)) := by
  rw [List.not_any_eq_all_not]; congr 1; funext b; by_cases h : b.params.length ≤ 256 <;> simp [h] <;> omega
 have hH : Ss.checkHead e f = (e.right && f.small && decide (f.blocks.length ≤ 256) && Ss.kinds 2048 f.types && f.sig.right && !(f.blocks.any fun b => decide (256 < b.params.length))) := by rw [← hpa]; rfl
 have hX : Ss.check e f = (Ss.checkHead e f && match Ss.defsOf f with
  | none => false
  | some ds => Ss.shapeOk f && Ss.checkBlocks e f ds (G.nearI (Ss.succs f.blocks)) 0 f.blocks) := rfl
 have hks : Ss.kinds 2048 f.types = true → f.types.length ≤ 2048 := by
  intro h; simp only [Ss.kinds, Bool.and_eq_true, decide_eq_true_eq] at h; exact h.1
 have her : e.right = true → e.muts.length = e.globals.length := by
  intro h; simp only [Ss.Env.right, Bool.and_eq_true, decide_eq_true_eq] at h; exact h.1.1.2
 rw [hX, hH]
 generalize (f.blocks.any fun b => decide (256 < b.params.length)) = pa at *
 generalize e.right = er at *
 generalize hsm : f.small = sm at *
 generalize Ss.kinds 2048 f.types = kt at *
 generalize f.sig.right = sr at *
 have hsl := he.1.1
 have hgl := he.2.2.1.1
 obtain ⟨sg, im, gl, mu, me⟩ := e
 obtain ⟨⟨fi, fo⟩, ts, bs⟩ := f
 simp only at *
 have cer' : VPure Tryz.prog 50 [.agg [vl encSig sg, .int .i64 im, vl vint gl, vl V.bool mu, .bool me]] (.bool er) := cer
 have csm' : VPure Tryz.prog 51 [.agg [vl vint fi, vl vint fo, vl vint ts, vl encBlock bs]] (.bool sm) := csm
 have csr' : VPure Tryz.prog 53 [.agg [vl vint fi, vl vint fo]] (.bool sr) := csr
 generalize hZ : (match Ss.defsOf ⟨⟨fi, fo⟩, ts, bs⟩ with
  | none => false
  | some ds => Ss.shapeOk ⟨⟨fi, fo⟩, ts, bs⟩ && Ss.checkBlocks ⟨sg, im, gl, mu, me⟩ ⟨⟨fi, fo⟩, ts, bs⟩ ds (G.nearI (Ss.succs bs)) 0 bs) = Z
 refine vcalls_start (c := bodyOf Tryz.f16) Tryz.func16 rfl rfl (by simp [Tryz.ntmps16]) ?_
 rw [Tryz.ntmps16]
 intro hwf
 repeat (first|refine QG ?_|refine QX (r:=by conv=>lhs;simp[-List.map_set,QV]) (k:=?_))
 repeat refine QS ?_
 refine QR (r:=by conv=>lhs;simp[-List.map_set,QV]) (k:=?_)
 refine vcall_useH (cer') (by rfl) ?_
 by_cases h1 : er = true
 case neg =>
  have h1' : er = false := by simpa using h1
  refine QM (by conv=>lhs;simp[-List.map_set,QV,h1']) ?_
  refine QN ?_
  repeat (first|refine QG ?_|refine QX (r:=by conv=>lhs;simp[-List.map_set,QV]) (k:=?_))
  exact done_pure hwf (by simp [h1']) rfl
 refine QM (by conv=>lhs;simp[-List.map_set,QV,h1]) ?_
 refine vcall_useH (csm') (by rfl) ?_
 by_cases h2 : sm = true
 case neg =>
  have h2' : sm = false := by simpa using h2
  refine QM (by conv=>lhs;simp[-List.map_set,QV,h2']) ?_
  refine QN ?_
  repeat (first|refine QG ?_|refine QX (r:=by conv=>lhs;simp[-List.map_set,QV]) (k:=?_))
  exact done_pure hwf (by simp [h2']) rfl
 by_cases h3 : (256 : Int) < (bs.length : Int)
 ·refine QM (by conv=>lhs;simp[-List.map_set,QV,h2,h3]) ?_
  refine QN ?_
  repeat (first|refine QG ?_|refine QX (r:=by conv=>lhs;simp[-List.map_set,QV]) (k:=?_))
  exact done_pure hwf (by rw [show decide (bs.length ≤ 256) = false by simp; omega]; simp) rfl
 have h3' : bs.length ≤ 256 := by omega
 refine QM (by conv=>lhs;simp[-List.map_set,QV,h2,h3]) ?_
 refine vcall_useH (ckt) (by rfl) ?_
 by_cases h4 : kt = true
 case neg =>
  have h4' : kt = false := by simpa using h4
  refine QM (by conv=>lhs;simp[-List.map_set,QV,h4']) ?_
  refine QN ?_
  repeat (first|refine QG ?_|refine QX (r:=by conv=>lhs;simp[-List.map_set,QV]) (k:=?_))
  exact done_pure hwf (by simp [h4']) rfl
 refine QM (by conv=>lhs;simp[-List.map_set,QV,h4]) ?_
 refine vcall_useH (csr') (by rfl) ?_
 by_cases h5 : sr = true
 case neg =>
  have h5' : sr = false := by simpa using h5
  refine QM (by conv=>lhs;simp[-List.map_set,QV,h5']) ?_
  refine QN ?_
  repeat (first|refine QG ?_|refine QX (r:=by conv=>lhs;simp[-List.map_set,QV]) (k:=?_))
  exact done_pure hwf (by simp [h5']) rfl
 rw [h1, h2, h4, h5, decide_eq_true h3']
 simp only [Bool.true_and]
 have htl := hks h4
 obtain ⟨_, _, hsf, _⟩ := hsb h2
 refine QM (by conv=>lhs;simp[-List.map_set,QV,h5]) ?_
 refine QN ?_
 repeat (first|refine QG ?_|refine QX (r:=by conv=>lhs;simp[-List.map_set,QV]) (k:=?_))
 repeat refine QS ?_
 refine QR (r:=by conv=>lhs;simp[-List.map_set,QV]) (k:=?_)
 refine vcall_useH (cpa) (by rfl) ?_
 by_cases h6 : pa = true
 ·refine QM (by conv=>lhs;simp[-List.map_set,QV,h6]) ?_
  refine QN ?_
  repeat (first|refine QG ?_|refine QX (r:=by conv=>lhs;simp[-List.map_set,QV]) (k:=?_))
  exact done_pure hwf (by simp [h6]) rfl
 have h6' : pa = false := by simpa using h6
 rw [h6']
 simp only [Bool.not_false, Bool.true_and]
 refine QM (by conv=>lhs;simp[-List.map_set,QV,h6']) ?_
 refine vcall_any rfl (define_v _ ⟨sg, im, gl, mu, me⟩ ⟨⟨fi, fo⟩, ts, bs⟩ (lid S.nx 2) hf (by simp only; omega) (by simp)) ?_
 rintro X S' ⟨ds, hdl, rfl, hdd, rfl⟩
 rw [St_St (by rw [St_nx]; simp [lid]), St_upd (by simp), St_add, St_nx, lid_lid]
 simp only [List.set_cons_succ, List.set_cons_zero, List.cons_append, List.nil_append, List.length_cons, List.length_nil, Nat.zero_add, Nat.add_zero]
 cases hdf : Ss.defsOf ⟨⟨fi, fo⟩, ts, bs⟩ with
 | none =>
  rw [hdf] at hZ
  simp only at hZ
  obtain ⟨z, hz⟩ : ∃ z, (none : Option (List Ss.Def)).isSome = z := ⟨_, rfl⟩
  have hz' : z = false := by rw [← hz]; rfl
  rw [hz]
  refine QM (by conv=>lhs;simp[-List.map_set,QV,hz']) ?_
  refine QN ?_
  repeat (first|refine QG ?_|refine QX (r:=by conv=>lhs;simp[-List.map_set,QV]) (k:=?_))
  exact done_pure hwf (by simp [← hZ]) rfl
 | some ds2 =>
  obtain rfl := hdd _ hdf
  rw [hdf] at hZ
  simp only at hZ
  obtain ⟨hdl2, hdin⟩ := Ss.defs_in hdf
  simp only at hdin
  obtain ⟨z, hz⟩ : ∃ z, (some ds : Option (List Ss.Def)).isSome = z := ⟨_, rfl⟩
  have hz' : z = true := by rw [← hz]; rfl
  rw [hz]
  refine QM (by conv=>lhs;simp[-List.map_set,QV,hz']) ?_
  refine vcall_any rfl (shape_v _ ⟨sg, im, gl, mu, me⟩ ⟨⟨fi, fo⟩, ts, bs⟩ (lid S.nx 2) (lid S.nx 3) hf (hsm.trans h2) (by simp [hdl]) (by simp [lid]) (fun b hb => (hdin b hb).1)) ?_
  rintro X S' ⟨nv, hnv, rfl, hnvv, rfl⟩
  rw [St_upd (by simp)]
  simp only [List.set_cons_succ, List.set_cons_zero]
  generalize hso : Ss.shapeOk ⟨⟨fi, fo⟩, ts, bs⟩ = so at *
  by_cases h7 : so = true
  case neg =>
   have h7' : so = false := by simpa using h7
   refine QM (by conv=>lhs;simp[-List.map_set,QV,h7']) ?_
   refine QN ?_
   repeat (first|refine QG ?_|refine QX (r:=by conv=>lhs;simp[-List.map_set,QV]) (k:=?_))
   exact done_pure hwf (by simp [← hZ, h7']) rfl
  have hnv2 := hnvv h7
  subst hnv2
  rw [h7, Bool.true_and] at hZ
  have hright : G.right (Ss.succs bs) = true := by
   have := hso.trans h7
   simp only [Ss.shapeOk, Bool.and_eq_true] at this
   exact this.1.1.1.1
  have hto := Ss.right_to (f := ⟨⟨fi, fo⟩, ts, bs⟩) hright
  simp only at hto
  have hnl := G.nearI_len (Ss.succs bs)
  generalize hnr : G.nearI (Ss.succs bs) = near at *
  refine QM (by conv=>lhs;simp[-List.map_set,QV,h7]) ?_
  refine QN ?_
  apply vw_reach
  ·exact Reach.frzCellS (enc := encDef) (s := 3) (fun _ => rfl) encDef_closed (k := 2) (j := 3) (i := 9) ds (by decide) (by simp) (by simp) (by rfl) (by rw [hdl]; rfl) (by rfl)
  simp only [List.set_cons_succ, List.set_cons_zero]
  refine vw_ghost' 5 rfl ((refSt (k := 2) (by simp) (by rfl) (by rfl) (by simp))) (by conv => lhs; simp [Fr.set]) ?_
  simp only [List.set_cons_succ, List.set_cons_zero]
  repeat (first|refine QG ?_|refine QX (r:=by conv=>lhs;simp[-List.map_set,QV]) (k:=?_))
  refine vw_only' [5, 54, 55, 56] (by conv => lhs; simp [Fr.only, Fr.look]) ?_
  refine vw_gc [] hwf (by decide) (by simp [-List.map_set]) (by conv => lhs; simp [-List.map_set]) (by conv => lhs; simp [-List.map_set]) (by conv => lhs; simp [-List.map_set]) ?_
  have ci : ∀ (i k : Nat) (b : Ss.Block) (x : Ss.Ins), b ∈ bs → x ∈ b.code → VPure Tryz.prog 58 [ckV ⟨sg, im, gl, mu, me⟩ ⟨⟨fi, fo⟩, ts, bs⟩ ds near, vnat i, vnat k, encIns x] (.bool (Ss.insOk ⟨sg, im, gl, mu, me⟩ ⟨⟨fi, fo⟩, ts, bs⟩ ds near i k x)) := by
   intro i k b x hb hx
   have hbF := hf.2.2.2 b hb
   have hxF := hbF.2.1.2 x hx
   have hsmb := ((Ss.small_iff _).1 (hsm.trans h2)).2.1 b hb
   simp only [Ss.Block.small, Bool.and_eq_true, List.all_eq_true, Ss.Ins.small, decide_eq_true_eq] at hsmb
   have hxl := (hsmb.1.2 x hx).2
   exact ins_v ⟨sg, im, gl, mu, me⟩ ⟨⟨fi, fo⟩, ts, bs⟩ ds near i k x hsl hgl (her h1) hdl (by simp only; omega) (by omega) hxF (by omega) ((hdin b hb).2 x hx)
  have ctm : ∀ (i : Nat) (b : Ss.Block), b ∈ bs → VPure Tryz.prog 59 [ckV ⟨sg, im, gl, mu, me⟩ ⟨⟨fi, fo⟩, ts, bs⟩ ds near, vnat i, encBlock b] (.bool (Ss.termOk ⟨⟨fi, fo⟩, ts, bs⟩ ds near i b)) := fun i b hb =>
   term_v ⟨sg, im, gl, mu, me⟩ ⟨⟨fi, fo⟩, ts, bs⟩ ds near i b hdl (by simp only; omega) (by omega) (by simp only; omega) (by have := hf.1.2.1; simp only at this ⊢; omega) (hf.2.2.2 b hb) (hto b hb) (fun b hb => ⟨by have := (hsf b hb).1; omega, (hdin b hb).1⟩)
  repeat refine QS ?_
  refine vw_loopAt [5, 54, 55, 56] rfl (fun c σ S' => ∃ (k : Nat), k ≤ bs.length ∧ c = bs.length - k ∧ Ss.checkBlocks ⟨sg, im, gl, mu, me⟩ ⟨⟨fi, fo⟩, ts, bs⟩ ds near k (bs.drop k) = Z ∧ σ = [(5, ckV ⟨sg, im, gl, mu, me⟩ ⟨⟨fi, fo⟩, ts, bs⟩ ds near), (54, vl encBlock bs), (55, vnat bs.length), (56, vnat k)] ∧ S' = St S [] []) bs.length ?_ ?_
  ·exact ⟨0, by omega, rfl, hZ, by simp [Fr.only], rfl⟩
  ·rintro c σ T ⟨k, hk, rfl, hcb, rfl, rfl⟩
   by_cases hkt : k < bs.length
   ·have hw := wrapNat hkt (by omega)
    have hst := checkBlocks_one (e := ⟨sg, im, gl, mu, me⟩) (f := ⟨⟨fi, fo⟩, ts, bs⟩) (ds := ds) (near := near) hkt
    have hmem := List.getElem_mem hkt
    have hcl := (hsf _ hmem).2.2.2
    have cti := ctm k _ hmem
    have cii := fun j x => ci k j _ x hmem
    obtain ⟨⟨ps, code, ⟨tk, ta, to, az⟩⟩, hx⟩ : ∃ b, bs[k] = b := ⟨_, rfl⟩
    rw [hx] at hst hcl cti cii
    simp only at hst hcl cii
    rw [hst] at hcb
    generalize Ss.termOk ⟨⟨fi, fo⟩, ts, bs⟩ ds near k ⟨ps, code, ⟨tk, ta, to, az⟩⟩ = tm at *
    repeat (first|refine QG ?_|refine QX (r:=by conv=>lhs;simp[-List.map_set,QV,hkt,hx]) (k:=?_))
    repeat refine QS ?_
    refine vw_loopAt [5, 6, 7, 54, 55, 56, 62, 63, 64] rfl (fun c σ S' => ∃ (j : Nat), j ≤ code.length ∧ c = code.length - j ∧ Ss.checkCode ⟨sg, im, gl, mu, me⟩ ⟨⟨fi, fo⟩, ts, bs⟩ ds near k j (code.drop j) = Ss.checkCode ⟨sg, im, gl, mu, me⟩ ⟨⟨fi, fo⟩, ts, bs⟩ ds near k 0 code ∧ σ = [(5, ckV ⟨sg, im, gl, mu, me⟩ ⟨⟨fi, fo⟩, ts, bs⟩ ds near), (6, vnat k), (7, .ptr (lid S.nx 0) 0), (54, vl encBlock bs), (55, vnat bs.length), (56, vnat k), (62, vl encIns code), (63, vnat code.length), (64, vnat j)] ∧ S' = St S [] [some (6, [vl vint ps, vl encIns code, .int .i64 tk, .int .i64 ta, vl encEdge to, vl vint az])]) code.length ?_ ?_
    ·exact ⟨0, by omega, rfl, rfl, by simp [Fr.only], rfl⟩
    ·rintro c σ T ⟨j, hj, rfl, hcc, rfl, rfl⟩
     by_cases hjt : j < code.length
     ·have hwj := wrapNat hjt (by omega)
      have hsc := checkCode_one (e := ⟨sg, im, gl, mu, me⟩) (f := ⟨⟨fi, fo⟩, ts, bs⟩) (ds := ds) (near := near) (i := k) hjt
      have cij := cii j _ (List.getElem_mem hjt)
      obtain ⟨⟨xo, xn, xa, xu⟩, hx2⟩ : ∃ x, code[j] = x := ⟨_, rfl⟩
      rw [hx2] at hsc cij
      generalize Ss.insOk ⟨sg, im, gl, mu, me⟩ ⟨⟨fi, fo⟩, ts, bs⟩ ds near k j ⟨xo, xn, xa, xu⟩ = io at *
      have cij' : VPure Tryz.prog 58 [ckV ⟨sg, im, gl, mu, me⟩ ⟨⟨fi, fo⟩, ts, bs⟩ ds near, vnat k, vnat j, .agg [.int .i64 xo, .int .u64 xn, vl vint xa, vl vint xu]] (.bool io) := cij
      repeat (first|refine QG ?_|refine QX (r:=by conv=>lhs;simp[-List.map_set,QV,hjt,hx2]) (k:=?_))
      repeat refine QS ?_
      refine QR (r:=by conv=>lhs;simp[-List.map_set,QV,hjt,hx2]) (k:=?_)
      refine vcall_useH (cij') (by rfl) ?_
      by_cases hio : io = true
      ·refine QM (by conv=>lhs;simp[-List.map_set,QV,hio]) ?_
       refine QN ?_
       repeat (first|refine QG ?_|refine QX (r:=by conv=>lhs;simp[-List.map_set,QV]) (k:=?_))
       refine QA [0] (h:=⟨?_, j + 1, hjt, rfl, by rw [← hcc, hsc, hio, Bool.true_and], by simp [hwj], rfl⟩)
       omega
      ·have hio' : io = false := by simpa using hio
       refine QM (by conv=>lhs;simp[-List.map_set,QV,hio']) ?_
       refine QN ?_
       repeat (first|refine QG ?_|refine QX (r:=by conv=>lhs;simp[-List.map_set,QV]) (k:=?_))
       exact done_pure hwf (by rw [← hcb, ← hcc, hsc, hio']; simp) rfl
     ·have e1 : code.drop j = [] := by rw [List.drop_eq_nil_iff]; omega
      rw [e1, Ss.checkCode] at hcc
      rw [← hcc, Bool.true_and] at hcb
      have cti' : VPure Tryz.prog 59 [ckV ⟨sg, im, gl, mu, me⟩ ⟨⟨fi, fo⟩, ts, bs⟩ ds near, vnat k, .agg [vl vint ps, vl encIns code, .int .i64 tk, .int .i64 ta, vl encEdge to, vl vint az]] (.bool tm) := cti
      repeat (first|refine QG ?_|refine QX (r:=by conv=>lhs;simp[-List.map_set,QV,hjt]) (k:=?_))
      repeat refine QS ?_
      refine QR (r:=by conv=>lhs;simp[-List.map_set,QV,hjt]) (k:=?_)
      refine vcall_useH (cti') (by rfl) ?_
      by_cases htm : tm = true
      ·refine QM (by conv=>lhs;simp[-List.map_set,QV,htm]) ?_
       refine QN ?_
       repeat (first|refine QG ?_|refine QX (r:=by conv=>lhs;simp[-List.map_set,QV]) (k:=?_))
       refine QA [] (h:=⟨?_, k + 1, hkt, rfl, by rw [← hcb, htm, Bool.true_and], by simp [hw], rfl⟩)
       omega
      ·have htm' : tm = false := by simpa using htm
       refine QM (by conv=>lhs;simp[-List.map_set,QV,htm']) ?_
       refine QN ?_
       repeat (first|refine QG ?_|refine QX (r:=by conv=>lhs;simp[-List.map_set,QV]) (k:=?_))
       exact done_pure hwf (by rw [← hcb, htm']; simp) rfl
   ·have e1 : bs.drop k = [] := by rw [List.drop_eq_nil_iff]; omega
    rw [e1, Ss.checkBlocks] at hcb
    repeat (first|refine QG ?_|refine QX (r:=by conv=>lhs;simp[-List.map_set,QV,hkt]) (k:=?_))
    exact done_pure hwf (by simp [← hcb]) rfl
end Go.Vw

namespace Go.Vw
open Go.Proofs Go.RowKit
set_option maxRecDepth 10000
set_option maxHeartbeats 8000000
end Go.Vw

namespace Go.Vw
open Go.Proofs Go.RowKit
set_option maxRecDepth 10000
set_option maxHeartbeats 2000000
def sameFn (f g : Ss.Fn) : Bool := f.small && g.small && decide (f = g)
end Go.Vw

namespace Ss
def smallF : Fn := ⟨⟨[], [127]⟩, [127], [⟨[], [⟨258, 0, [], []⟩, ⟨256, 5, [], [0]⟩], ⟨4, 0, [], [0]⟩⟩]⟩
def env0 : Env := ⟨[], 0, [], [], false⟩
end Ss
namespace Go.Vw
open Go.Proofs Go.RowKit
set_option maxRecDepth 10000
set_option maxHeartbeats 4000000
theorem Reach.nilCell {N b0 : Nat} {σ : Fr} {B : Store} {u : Upds} {l : List (Option (Nat × List V))} {k i s : Nat} {cs : List V} (hk : k < l.length) (hck : (l[k]?).join = some (s, cs)) (hi : cs[i]? = some .nils) :
  Reach N b0 σ (St B u l) σ (St B u (l.set k (some (s, cs.set i (.list []))))) := by
 have := Reach.cell (N := N) (b0 := b0) (σ := σ) (o := lid B.nx k) (i := i) (s := s) (cs := cs) (Ghost.nils_list (St B u l)) (by simp [V.one]) (by rw [St_get]; exact hck) hi (by rw [St_get]; exact hck)
 rw [St_upd hk] at this
 exact this
end Go.Vw

namespace Go.Vw
open Go.Proofs Go.RowKit
set_option maxRecDepth 10000
set_option maxHeartbeats 8000000
def NL (x y : V) : Prop := x = y ∨ (x = .nils ∧ y = .list [])
theorem Rep.nl {m : Imm} {β : Objs} {x y : V} {v : Value} (h : Rep m β x v) (hn : NL x y) : Rep m β y v := by
 rcases hn with rfl | ⟨rfl, rfl⟩
 ·exact h
 ·cases h with
  | imm h => cases h with | nils a => exact .imm (.list0 a 0 (Nat.zero_le _))
theorem Ghost.agg_nl {S : Store} {xs ys : List V} (hl : xs.length = ys.length) (h : ∀ (i : Nat) (x y : V), xs[i]? = some x → ys[i]? = some y → NL x y) : Ghost (.agg xs) S (.agg ys) S := by
 intro m β w v hS hr
 obtain ⟨vs, rfl, hl2, hrr, h1⟩ := hr.inv_agg
 refine ⟨m, β, hS, Ext.refl _ _ _, .agg ys vs (by omega) (fun i y u hy hu => ?_) h1⟩
 have hi : i < xs.length := by rw [hl]; exact (List.getElem?_eq_some_iff.1 hy).1
 exact (hrr i xs[i] u (List.getElem?_eq_getElem hi) hu).nl (h i _ y (List.getElem?_eq_getElem hi) hy)
end Go.Vw

namespace Ss
def askedO (u : List Bool) (l : List Int) : Bool := l.any fun o => decide (0 ≤ o) && (decide (o < u.length) && u.getD o.toNat false)
end Ss
namespace Go.Vw
open Go.Proofs Go.RowKit
set_option maxRecDepth 10000
set_option maxHeartbeats 2000000
end Go.Vw

namespace Ss
/-! ### Where values are made -/
def outsC (l : List Ins) : List Int := l.flatMap fun x => x.outs
def allB (b : Block) : List Int := b.params ++ outsC b.code
def allL (bs : List Block) : List Int := bs.flatMap allB
abbrev dAt (ds : List Def) (v : Int) : Def := ds.getD v.toNat default
structure Puts (l : List Int) (ds d : List Def) : Prop where
 nd : l.Nodup
 pos : ∀ v ∈ l, 0 ≤ v
 new : ∀ v ∈ l, (dAt ds v).made = false
 keep : ∀ w, 0 ≤ w → w ∉ l → dAt d w = dAt ds w
 made : ∀ v ∈ l, (dAt d v).made = true
theorem Puts.trans {l m : List Int} {ds d d' : List Def} (h : Puts l ds d) (k : Puts m d d') : Puts (l ++ m) ds d' := by
 have hdis : ∀ v ∈ l, v ∉ m := fun v hv hm => by
  have h1 := k.new v hm
  rw [h.made v hv] at h1; cases h1
 refine ⟨List.nodup_append.2 ⟨h.nd, k.nd, fun a ha b hb e => hdis a ha (e ▸ hb)⟩, fun v hv => ?_, fun v hv => ?_, fun w h0 hw => ?_, fun v hv => ?_⟩
 ·rcases List.mem_append.1 hv with hv | hv
  ·exact h.pos v hv
  ·exact k.pos v hv
 ·rcases List.mem_append.1 hv with hv | hv
  ·exact h.new v hv
  ·by_cases hl : v ∈ l
   ·exact absurd hv (hdis v hl)
   ·rw [← h.keep v (k.pos v hv) hl]; exact k.new v hv
 ·simp only [List.mem_append, not_or] at hw
  rw [k.keep w h0 hw.2, h.keep w h0 hw.1]
 ·rcases List.mem_append.1 hv with hv | hv
  ·rw [k.keep v (h.pos v hv) (hdis v hv)]; exact h.made v hv
  ·exact k.made v hv
theorem Puts.nil (ds : List Def) : Puts [] ds ds := ⟨List.nodup_nil, by simp, by simp, fun _ _ _ => rfl, by simp⟩
/-! ### Who asks -/
theorem checkCode_at {e : Env} {f : Fn} {ds : List Def} {near : List Int} {i : Int} : ∀ {l : List Ins} {k j : Nat} {x : Ins}, checkCode e f ds near i k l = true → l[j]? = some x → insOk e f ds near i ((k + j : Nat) : Int) x = true
 | [], k, j, x, _, hx => by simp at hx
 | y :: l, k, j, x, h, hx => by
  simp only [checkCode, Bool.and_eq_true] at h
  cases j with
  | zero => simp only [List.getElem?_cons_zero, Option.some.injEq] at hx; subst hx; exact h.1
  | succ j =>
   have := checkCode_at h.2 (j := j) (x := x) (by simpa using hx)
   rw [show k + (j + 1) = k + 1 + j by omega]; exact this
theorem checkBlocks_at {e : Env} {f : Fn} {ds : List Def} {near : List Int} : ∀ {l : List Block} {i j : Nat} {b : Block}, checkBlocks e f ds near i l = true → l[j]? = some b → checkCode e f ds near ((i + j : Nat) : Int) 0 b.code = true ∧ termOk f ds near ((i + j : Nat) : Int) b = true
 | [], i, j, b, _, hb => by simp at hb
 | y :: l, i, j, b, h, hb => by
  simp only [checkBlocks, Bool.and_eq_true] at h
  cases j with
  | zero => simp only [List.getElem?_cons_zero, Option.some.injEq] at hb; subst hb; exact h.1
  | succ j =>
   have := checkBlocks_at h.2 (j := j) (b := b) (by simpa using hb)
   rw [show i + (j + 1) = i + 1 + j by omega]; exact this
theorem check_spec {e : Env} {f : Fn} (h : check e f = true) : checkHead e f = true ∧ ∃ ds, defsOf f = some ds ∧ shapeOk f = true ∧ checkBlocks e f ds (Go.Vw.G.nearI (succs f.blocks)) 0 f.blocks = true := by
 simp only [check, Bool.and_eq_true] at h
 refine ⟨h.1, ?_⟩
 cases hd : defsOf f with
 | none => rw [hd] at h; simp at h
 | some ds =>
  rw [hd] at h
  simp only [Bool.and_eq_true] at h
  exact ⟨ds, rfl, h.2.1, h.2.2⟩
end Ss
namespace Go.Vw
open Go.Proofs Go.RowKit
end Go.Vw

namespace Ss
open Go.Vw Go.Vw.G
theorem form_check {e : Env} {n out : Int} (h : (form e 257 n out).ok = true) : (form e 257 n out).inn = [127] ∧ (form e 257 n out).most = 8589934592 ∧ (form e 257 n out).outs = [] := by
 have e0 : form e 257 n out = formNum e 257 := by simp [form]
 have e1 : numSig 257 = ((numSig 257).1, (numSig 257).2.1, false) := by
  have : (numSig 257).2.2 = false := by decide
  rw [← this]
 rw [e0] at h ⊢
 unfold formNum at h ⊢
 rw [e1] at h ⊢
 simp only at h ⊢
 cases hm : e.mem with
 | false => rw [hm] at h; simp at h
 | true => simp [formMem]
theorem check_ins {e : Env} {f : Fn} (h : check e f = true) {b : Block} (hb : b ∈ f.blocks) {x : Ins} (hx : x ∈ b.code) : ∃ ds near i k, insOk e f ds near i k x = true := by
 obtain ⟨_, ds, _, _, hB⟩ := check_spec h
 obtain ⟨j, hj⟩ := List.mem_iff_getElem?.1 hb
 obtain ⟨k, hk⟩ := List.mem_iff_getElem?.1 hx
 obtain ⟨h1, _⟩ := checkBlocks_at hB hj
 exact ⟨_, _, _, _, checkCode_at h1 hk⟩
theorem eqF_len {α : Type} {p : α → α → Bool} : ∀ {l m : List α}, eqF p l m = true → l.length = m.length
 | [], [], _ => rfl
 | [], _ :: _, h => by simp [eqF] at h
 | _ :: _, [], h => by simp [eqF] at h
 | x :: l, y :: m, h => by
  have : eqF p l m = true := by
   simp only [eqF, Bool.and_eq_true] at h
   first | exact h.2 | exact h.2.2
  simp [eqF_len this]
theorem check_257 {e : Env} {f : Fn} (h : check e f = true) {b : Block} (hb : b ∈ f.blocks) {x : Ins} (hx : x ∈ b.code) (ho : x.op = 257) : x.args.length = 1 ∧ x.n ≤ 8589934592 ∧ x.outs = [] := by
 obtain ⟨ds, near, i, k, hi⟩ := check_ins h hb hx
 simp only [insOk, Bool.and_eq_true, decide_eq_true_eq, ho] at hi
 obtain ⟨⟨⟨h1, h2⟩, h3⟩, h4⟩ := hi
 obtain ⟨f1, f2, f3⟩ := form_check h1
 rw [f1] at h4
 rw [f2] at h2
 rw [f3] at h3
 exact ⟨by have h5 : List.length x.args = List.length [(127 : Int)] := eqF_len h4; simpa using h5, h2, by simpa [typesOf] using h3⟩
theorem ends_of {g : List (List Nat)} (hg : Ok g) {near : List Int} (hN : NearOk g near) : ∀ (k : Nat) (b : Nat), b ∈ order g → rk g (order g) b < k → UpEnds near k b
 | 0, b, _, h => by omega
 | k + 1, b, hb, h => by
  have ho := order_ok hg
  have hbl := ho.lt b hb
  have hok : okIx near (b : Int) := ⟨by omega, by rw [hN.len]; omega⟩
  refine .inr ⟨hok, ?_⟩
  rw [Int.toNat_natCast]
  by_cases hb0 : b = 0
  ·subst hb0
   have : near.getD 0 0 = -1 := hN.zero
   rw [this]
   cases k with
   | zero => show (-1 : Int) < 0; omega
   | succ k => exact .inl (by omega)
  ·obtain ⟨p, q1, q2, q3, q4, q5⟩ := hN.near b hb hb0
   have hnd : near.getD b 0 = (p : Int) := q1
   rw [hnd]
   have hr := q4.rk ho q2 hb q3
   exact ends_of hg hN k p q2 (by omega)
structure Graphic (f : Fn) : Prop where
 ok : Ok (nats (succs f.blocks))
 right : G.right (succs f.blocks) = true
 ord : G.ordI (succs f.blocks) = order (nats (succs f.blocks))
 near : G.nearI (succs f.blocks) = rNear (nats (succs f.blocks))
 len : (order (nats (succs f.blocks))).length = f.blocks.length
 lt : ∀ n ∈ order (nats (succs f.blocks)), n < f.blocks.length
 nlen : (rNear (nats (succs f.blocks))).length = f.blocks.length
 ends : ∀ n ∈ order (nats (succs f.blocks)), UpEnds (rNear (nats (succs f.blocks))) 256 n
 blocks : f.blocks.length ≤ 256
theorem nats_succs_len (bs : List Block) : (nats (succs bs)).length = bs.length := by rw [nats_length, succs, List.length_map]
theorem graphic {e : Env} {f : Fn} (h : check e f = true) : Graphic f := by
 obtain ⟨h1, ds, hds, hsh, hB⟩ := check_spec h
 have hr : G.right (succs f.blocks) = true := by
  unfold shapeOk at hsh
  simp only [Bool.and_eq_true] at hsh
  exact hsh.1.1.1.1
 have hol : (G.ordI (succs f.blocks)).length = f.blocks.length := by
  unfold shapeOk at hsh
  simp only [Bool.and_eq_true, decide_eq_true_eq] at hsh
  exact hsh.1.1.1.2
 have hok := right_ok hr
 have e1 : G.ordI (succs f.blocks) = order (nats (succs f.blocks)) := by simp [G.ordI, hr]
 have e2 : G.nearI (succs f.blocks) = rNear (nats (succs f.blocks)) := by simp [G.nearI, hr]
 have hN := rNear_ok hok
 have ho := order_ok hok
 have hl := nats_succs_len f.blocks
 rw [e1] at hol
 have hmx := hok.max
 rw [hl] at hmx
 exact ⟨hok, hr, e1, e2, hol, fun n hn => by rw [← hl]; exact ho.lt n hn, by rw [hN.len, hl], fun n hn => ends_of hok hN 256 n hn (by have := rk_lt ho hn; omega), hmx⟩
theorem check_small {e : Env} {f : Fn} (h : check e f = true) : f.small = true := by
 have := (check_spec h).1
 unfold checkHead at this
 simp only [Bool.and_eq_true] at this
 exact this.1.1.1.1.2
end Ss
