import Derived.Test.YtmfpoangempgaaaGreatC29
import Derived.Test.YtmfpoangempgaaaGreatC22
import Derived.Test.YtmfpoangempgaaaGreatC23
import Derived.Test.YtmfpoangempgaaaGreatC16
/-
  Part of the proof (texts SChk2, SUsed).
-/
set_option linter.unusedVariables false
set_option linter.unusedSimpArgs false
namespace Go.Vw
open Go.Proofs Go.RowKit
set_option maxRecDepth 10000
set_option maxHeartbeats 8000000

theorem Check_v (e : Ss.Env) (f : Ss.Fn) (he : e.Fits) (hf : f.Fits) : VPure Tryz.prog 6 [encEnv e, encFn f] (.bool (Ss.check e f)) := by
  intro S
  have cer := EnvRight_v e he
  have csm := small_v f hf
  have hsb := @small_blocks f
  have ckt : VPure Tryz.prog 9 [.int .i64 2048, vl vint f.types] (.bool (Ss.kinds 2048 f.types)) := kinds_v 2048 f.types (by have := hf.2.1.1; omega)
  have csr := sigRight_v f.sig hf.1
  have cpa := AnyB_v f.blocks (fun b => decide (256 < b.params.length)) 17 [] rfl (by have := hf.2.2.1; omega) (fun b _ => check1_v b)
  have hpa : (f.blocks.all fun b => decide (b.params.length ≤ 256)) = !(f.blocks.any fun b => decide (256 < b.params.length)) := by
    rw [List.not_any_eq_all_not]; congr 1; funext b; by_cases h : b.params.length ≤ 256 <;> simp [h] <;> omega
  have hH : Ss.checkHead e f = (e.right && f.small && decide (f.blocks.length ≤ 256) && Ss.kinds 2048 f.types && f.sig.right && !(f.blocks.any fun b => decide (256 < b.params.length))) := by rw [← hpa]; rfl
  have hX : Ss.check e f = (Ss.checkHead e f && match Ss.defsOf f with
    | none => false
    | some ds => Ss.shapeOk f && Ss.checkBlocks e f ds (G.nearI (Ss.succs f.blocks)) 0 f.blocks) := rfl
  have hks : Ss.kinds 2048 f.types = true → f.types.length ≤ 2048 := by
    intro h; simp only [Ss.kinds, Bool.and_eq_true, decide_eq_true_eq] at h; exact h.1
  have her : e.right = true → e.muts.length = e.globals.length := by
    intro h; simp only [Ss.Env.right, Bool.and_eq_true, decide_eq_true_eq] at h; exact h.1.1.2
  rw [hX, hH]
  generalize (f.blocks.any fun b => decide (256 < b.params.length)) = pa at *
  generalize e.right = er at *
  generalize hsm : f.small = sm at *
  generalize Ss.kinds 2048 f.types = kt at *
  generalize f.sig.right = sr at *
  have hsl := he.1.1
  have hgl := he.2.2.1.1
  obtain ⟨sg, im, gl, mu, me⟩ := e
  obtain ⟨⟨fi, fo⟩, ts, bs⟩ := f
  simp only at *
  have cer' : VPure Tryz.prog 4 [.agg [vl encSig sg, .int .i64 im, vl vint gl, vl V.bool mu, .bool me]] (.bool er) := cer
  have csm' : VPure Tryz.prog 15 [.agg [vl vint fi, vl vint fo, vl vint ts, vl encBlock bs]] (.bool sm) := csm
  have csr' : VPure Tryz.prog 12 [.agg [vl vint fi, vl vint fo]] (.bool sr) := csr
  generalize hZ : (match Ss.defsOf ⟨⟨fi, fo⟩, ts, bs⟩ with
    | none => false
    | some ds => Ss.shapeOk ⟨⟨fi, fo⟩, ts, bs⟩ && Ss.checkBlocks ⟨sg, im, gl, mu, me⟩ ⟨⟨fi, fo⟩, ts, bs⟩ ds (G.nearI (Ss.succs bs)) 0 bs) = Z
  refine vcalls_start (c := bodyOf Tryz.f6) Tryz.func6 rfl rfl (by simp [Tryz.ntmps6]) ?_
  rw [Tryz.ntmps6]
  intro hwf
  repeat (first|refine QG ?_|refine QX (r:=by conv=>lhs;simp[-List.map_set,QV]) (k:=?_))
  repeat refine QS ?_
  refine QR (r:=by conv=>lhs;simp[-List.map_set,QV]) (k:=?_)
  refine vcall_useH (cer') (by rfl) ?_
  by_cases h1 : er = true
  case neg =>
    have h1' : er = false := by simpa using h1
    refine QM (by conv=>lhs;simp[-List.map_set,QV,h1']) ?_
    refine QN ?_
    repeat (first|refine QG ?_|refine QX (r:=by conv=>lhs;simp[-List.map_set,QV]) (k:=?_))
    exact done_pure hwf (by simp [h1']) rfl
  refine QM (by conv=>lhs;simp[-List.map_set,QV,h1]) ?_
  refine vcall_useH (csm') (by rfl) ?_
  by_cases h2 : sm = true
  case neg =>
    have h2' : sm = false := by simpa using h2
    refine QM (by conv=>lhs;simp[-List.map_set,QV,h2']) ?_
    refine QN ?_
    repeat (first|refine QG ?_|refine QX (r:=by conv=>lhs;simp[-List.map_set,QV]) (k:=?_))
    exact done_pure hwf (by simp [h2']) rfl
  by_cases h3 : (256 : Int) < (bs.length : Int)
  · refine QM (by conv=>lhs;simp[-List.map_set,QV,h2,h3]) ?_
    refine QN ?_
    repeat (first|refine QG ?_|refine QX (r:=by conv=>lhs;simp[-List.map_set,QV]) (k:=?_))
    exact done_pure hwf (by rw [show decide (bs.length ≤ 256) = false by simp; omega]; simp) rfl
  have h3' : bs.length ≤ 256 := by omega
  refine QM (by conv=>lhs;simp[-List.map_set,QV,h2,h3]) ?_
  refine vcall_useH (ckt) (by rfl) ?_
  by_cases h4 : kt = true
  case neg =>
    have h4' : kt = false := by simpa using h4
    refine QM (by conv=>lhs;simp[-List.map_set,QV,h4']) ?_
    refine QN ?_
    repeat (first|refine QG ?_|refine QX (r:=by conv=>lhs;simp[-List.map_set,QV]) (k:=?_))
    exact done_pure hwf (by simp [h4']) rfl
  refine QM (by conv=>lhs;simp[-List.map_set,QV,h4]) ?_
  refine vcall_useH (csr') (by rfl) ?_
  by_cases h5 : sr = true
  case neg =>
    have h5' : sr = false := by simpa using h5
    refine QM (by conv=>lhs;simp[-List.map_set,QV,h5']) ?_
    refine QN ?_
    repeat (first|refine QG ?_|refine QX (r:=by conv=>lhs;simp[-List.map_set,QV]) (k:=?_))
    exact done_pure hwf (by simp [h5']) rfl
  rw [h1, h2, h4, h5, decide_eq_true h3']
  simp only [Bool.true_and]
  have htl := hks h4
  obtain ⟨_, _, hsf, _⟩ := hsb h2
  refine QM (by conv=>lhs;simp[-List.map_set,QV,h5]) ?_
  refine QN ?_
  repeat (first|refine QG ?_|refine QX (r:=by conv=>lhs;simp[-List.map_set,QV]) (k:=?_))
  repeat refine QS ?_
  refine QR (r:=by conv=>lhs;simp[-List.map_set,QV]) (k:=?_)
  refine vcall_useH (cpa) (by rfl) ?_
  by_cases h6 : pa = true
  · refine QM (by conv=>lhs;simp[-List.map_set,QV,h6]) ?_
    refine QN ?_
    repeat (first|refine QG ?_|refine QX (r:=by conv=>lhs;simp[-List.map_set,QV]) (k:=?_))
    exact done_pure hwf (by simp [h6]) rfl
  have h6' : pa = false := by simpa using h6
  rw [h6']
  simp only [Bool.not_false, Bool.true_and]
  refine QM (by conv=>lhs;simp[-List.map_set,QV,h6']) ?_
  refine vcall_any rfl (define_v _ ⟨sg, im, gl, mu, me⟩ ⟨⟨fi, fo⟩, ts, bs⟩ (lid S.nx 2) hf (by simp only; omega) (by simp)) ?_
  rintro X S' ⟨ds, hdl, rfl, hdd, rfl⟩
  rw [St_St (by rw [St_nx]; simp [lid]), St_upd (by simp), St_add, St_nx, lid_lid]
  simp only [List.set_cons_succ, List.set_cons_zero, List.cons_append, List.nil_append, List.length_cons, List.length_nil, Nat.zero_add, Nat.add_zero]
  cases hdf : Ss.defsOf ⟨⟨fi, fo⟩, ts, bs⟩ with
  | none =>
    rw [hdf] at hZ
    simp only at hZ
    obtain ⟨z, hz⟩ : ∃ z, (none : Option (List Ss.Def)).isSome = z := ⟨_, rfl⟩
    have hz' : z = false := by rw [← hz]; rfl
    rw [hz]
    refine QM (by conv=>lhs;simp[-List.map_set,QV,hz']) ?_
    refine QN ?_
    repeat (first|refine QG ?_|refine QX (r:=by conv=>lhs;simp[-List.map_set,QV]) (k:=?_))
    exact done_pure hwf (by simp [← hZ]) rfl
  | some ds2 =>
    obtain rfl := hdd _ hdf
    rw [hdf] at hZ
    simp only at hZ
    obtain ⟨hdl2, hdin⟩ := Ss.defs_in hdf
    simp only at hdin
    obtain ⟨z, hz⟩ : ∃ z, (some ds : Option (List Ss.Def)).isSome = z := ⟨_, rfl⟩
    have hz' : z = true := by rw [← hz]; rfl
    rw [hz]
    refine QM (by conv=>lhs;simp[-List.map_set,QV,hz']) ?_
    refine vcall_any rfl (shape_v _ ⟨sg, im, gl, mu, me⟩ ⟨⟨fi, fo⟩, ts, bs⟩ (lid S.nx 2) (lid S.nx 3) hf (hsm.trans h2) (by simp [hdl]) (by simp [lid]) (fun b hb => (hdin b hb).1)) ?_
    rintro X S' ⟨nv, hnv, rfl, hnvv, rfl⟩
    rw [St_upd (by simp)]
    simp only [List.set_cons_succ, List.set_cons_zero]
    generalize hso : Ss.shapeOk ⟨⟨fi, fo⟩, ts, bs⟩ = so at *
    by_cases h7 : so = true
    case neg =>
      have h7' : so = false := by simpa using h7
      refine QM (by conv=>lhs;simp[-List.map_set,QV,h7']) ?_
      refine QN ?_
      repeat (first|refine QG ?_|refine QX (r:=by conv=>lhs;simp[-List.map_set,QV]) (k:=?_))
      exact done_pure hwf (by simp [← hZ, h7']) rfl
    have hnv2 := hnvv h7
    subst hnv2
    rw [h7, Bool.true_and] at hZ
    have hright : G.right (Ss.succs bs) = true := by
      have := hso.trans h7
      simp only [Ss.shapeOk, Bool.and_eq_true] at this
      exact this.1.1.1.1
    have hto := Ss.right_to (f := ⟨⟨fi, fo⟩, ts, bs⟩) hright
    simp only at hto
    have hnl := G.nearI_len (Ss.succs bs)
    generalize hnr : G.nearI (Ss.succs bs) = near at *
    refine QM (by conv=>lhs;simp[-List.map_set,QV,h7]) ?_
    refine QN ?_
    apply vw_reach
    · exact Reach.frzCellS (enc := encDef) (s := 3) (fun _ => rfl) encDef_closed (k := 2) (j := 3) (i := 9) ds (by decide) (by simp) (by simp) (by rfl) (by rw [hdl]; rfl) (by rfl)
    simp only [List.set_cons_succ, List.set_cons_zero]
    refine vw_ghost' 5 rfl ((refSt (k := 2) (by simp) (by rfl) (by rfl) (by simp))) (by conv => lhs; simp [Fr.set]) ?_
    simp only [List.set_cons_succ, List.set_cons_zero]
    repeat (first|refine QG ?_|refine QX (r:=by conv=>lhs;simp[-List.map_set,QV]) (k:=?_))
    refine vw_only' [5, 54, 55, 56] (by conv => lhs; simp [Fr.only, Fr.look]) ?_
    refine vw_gc [] hwf (by decide) (by simp [-List.map_set]) (by conv => lhs; simp [-List.map_set]) (by conv => lhs; simp [-List.map_set]) (by conv => lhs; simp [-List.map_set]) ?_
    have ci : ∀ (i k : Nat) (b : Ss.Block) (x : Ss.Ins), b ∈ bs → x ∈ b.code → VPure Tryz.prog 20 [ckV ⟨sg, im, gl, mu, me⟩ ⟨⟨fi, fo⟩, ts, bs⟩ ds near, vnat i, vnat k, encIns x] (.bool (Ss.insOk ⟨sg, im, gl, mu, me⟩ ⟨⟨fi, fo⟩, ts, bs⟩ ds near i k x)) := by
      intro i k b x hb hx
      have hbF := hf.2.2.2 b hb
      have hxF := hbF.2.1.2 x hx
      have hsmb := ((Ss.small_iff _).1 (hsm.trans h2)).2.1 b hb
      simp only [Ss.Block.small, Bool.and_eq_true, List.all_eq_true, Ss.Ins.small, decide_eq_true_eq] at hsmb
      have hxl := (hsmb.1.2 x hx).2
      exact ins_v ⟨sg, im, gl, mu, me⟩ ⟨⟨fi, fo⟩, ts, bs⟩ ds near i k x hsl hgl (her h1) hdl (by simp only; omega) (by omega) hxF (by omega) ((hdin b hb).2 x hx)
    have ctm : ∀ (i : Nat) (b : Ss.Block), b ∈ bs → VPure Tryz.prog 21 [ckV ⟨sg, im, gl, mu, me⟩ ⟨⟨fi, fo⟩, ts, bs⟩ ds near, vnat i, encBlock b] (.bool (Ss.termOk ⟨⟨fi, fo⟩, ts, bs⟩ ds near i b)) := fun i b hb =>
      term_v ⟨sg, im, gl, mu, me⟩ ⟨⟨fi, fo⟩, ts, bs⟩ ds near i b hdl (by simp only; omega) (by omega) (by simp only; omega) (by have := hf.1.2.1; simp only at this ⊢; omega) (hf.2.2.2 b hb) (hto b hb) (fun b hb => ⟨by have := (hsf b hb).1; omega, (hdin b hb).1⟩)
    repeat refine QS ?_
    refine vw_loopAt [5, 54, 55, 56] rfl (fun c σ S' => ∃ (k : Nat), k ≤ bs.length ∧ c = bs.length - k ∧ Ss.checkBlocks ⟨sg, im, gl, mu, me⟩ ⟨⟨fi, fo⟩, ts, bs⟩ ds near k (bs.drop k) = Z ∧ σ = [(5, ckV ⟨sg, im, gl, mu, me⟩ ⟨⟨fi, fo⟩, ts, bs⟩ ds near), (54, vl encBlock bs), (55, vnat bs.length), (56, vnat k)] ∧ S' = St S [] []) bs.length ?_ ?_
    · exact ⟨0, by omega, rfl, hZ, by simp [Fr.only], rfl⟩
    · rintro c σ T ⟨k, hk, rfl, hcb, rfl, rfl⟩
      by_cases hkt : k < bs.length
      · have hw := wrapNat hkt (by omega)
        have hst := checkBlocks_one (e := ⟨sg, im, gl, mu, me⟩) (f := ⟨⟨fi, fo⟩, ts, bs⟩) (ds := ds) (near := near) hkt
        have hmem := List.getElem_mem hkt
        have hcl := (hsf _ hmem).2.2.2
        have cti := ctm k _ hmem
        have cii := fun j x => ci k j _ x hmem
        obtain ⟨⟨ps, code, ⟨tk, ta, to, az⟩⟩, hx⟩ : ∃ b, bs[k] = b := ⟨_, rfl⟩
        rw [hx] at hst hcl cti cii
        simp only at hst hcl cii
        rw [hst] at hcb
        generalize Ss.termOk ⟨⟨fi, fo⟩, ts, bs⟩ ds near k ⟨ps, code, ⟨tk, ta, to, az⟩⟩ = tm at *
        repeat (first|refine QG ?_|refine QX (r:=by conv=>lhs;simp[-List.map_set,QV,hkt,hx]) (k:=?_))
        repeat refine QS ?_
        refine vw_loopAt [5, 6, 7, 54, 55, 56, 62, 63, 64] rfl (fun c σ S' => ∃ (j : Nat), j ≤ code.length ∧ c = code.length - j ∧ Ss.checkCode ⟨sg, im, gl, mu, me⟩ ⟨⟨fi, fo⟩, ts, bs⟩ ds near k j (code.drop j) = Ss.checkCode ⟨sg, im, gl, mu, me⟩ ⟨⟨fi, fo⟩, ts, bs⟩ ds near k 0 code ∧ σ = [(5, ckV ⟨sg, im, gl, mu, me⟩ ⟨⟨fi, fo⟩, ts, bs⟩ ds near), (6, vnat k), (7, .ptr (lid S.nx 0) 0), (54, vl encBlock bs), (55, vnat bs.length), (56, vnat k), (62, vl encIns code), (63, vnat code.length), (64, vnat j)] ∧ S' = St S [] [some (6, [vl vint ps, vl encIns code, .int .i64 tk, .int .i64 ta, vl encEdge to, vl vint az])]) code.length ?_ ?_
        · exact ⟨0, by omega, rfl, rfl, by simp [Fr.only], rfl⟩
        · rintro c σ T ⟨j, hj, rfl, hcc, rfl, rfl⟩
          by_cases hjt : j < code.length
          · have hwj := wrapNat hjt (by omega)
            have hsc := checkCode_one (e := ⟨sg, im, gl, mu, me⟩) (f := ⟨⟨fi, fo⟩, ts, bs⟩) (ds := ds) (near := near) (i := k) hjt
            have cij := cii j _ (List.getElem_mem hjt)
            obtain ⟨⟨xo, xn, xa, xu⟩, hx2⟩ : ∃ x, code[j] = x := ⟨_, rfl⟩
            rw [hx2] at hsc cij
            generalize Ss.insOk ⟨sg, im, gl, mu, me⟩ ⟨⟨fi, fo⟩, ts, bs⟩ ds near k j ⟨xo, xn, xa, xu⟩ = io at *
            have cij' : VPure Tryz.prog 20 [ckV ⟨sg, im, gl, mu, me⟩ ⟨⟨fi, fo⟩, ts, bs⟩ ds near, vnat k, vnat j, .agg [.int .i64 xo, .int .u64 xn, vl vint xa, vl vint xu]] (.bool io) := cij
            repeat (first|refine QG ?_|refine QX (r:=by conv=>lhs;simp[-List.map_set,QV,hjt,hx2]) (k:=?_))
            repeat refine QS ?_
            refine QR (r:=by conv=>lhs;simp[-List.map_set,QV,hjt,hx2]) (k:=?_)
            refine vcall_useH (cij') (by rfl) ?_
            by_cases hio : io = true
            · refine QM (by conv=>lhs;simp[-List.map_set,QV,hio]) ?_
              refine QN ?_
              repeat (first|refine QG ?_|refine QX (r:=by conv=>lhs;simp[-List.map_set,QV]) (k:=?_))
              refine QA [0] (h:=⟨?_, j + 1, hjt, rfl, by rw [← hcc, hsc, hio, Bool.true_and], by simp [hwj], rfl⟩)
              omega
            · have hio' : io = false := by simpa using hio
              refine QM (by conv=>lhs;simp[-List.map_set,QV,hio']) ?_
              refine QN ?_
              repeat (first|refine QG ?_|refine QX (r:=by conv=>lhs;simp[-List.map_set,QV]) (k:=?_))
              exact done_pure hwf (by rw [← hcb, ← hcc, hsc, hio']; simp) rfl
          · have e1 : code.drop j = [] := by rw [List.drop_eq_nil_iff]; omega
            rw [e1, Ss.checkCode] at hcc
            rw [← hcc, Bool.true_and] at hcb
            have cti' : VPure Tryz.prog 21 [ckV ⟨sg, im, gl, mu, me⟩ ⟨⟨fi, fo⟩, ts, bs⟩ ds near, vnat k, .agg [vl vint ps, vl encIns code, .int .i64 tk, .int .i64 ta, vl encEdge to, vl vint az]] (.bool tm) := cti
            repeat (first|refine QG ?_|refine QX (r:=by conv=>lhs;simp[-List.map_set,QV,hjt]) (k:=?_))
            repeat refine QS ?_
            refine QR (r:=by conv=>lhs;simp[-List.map_set,QV,hjt]) (k:=?_)
            refine vcall_useH (cti') (by rfl) ?_
            by_cases htm : tm = true
            · refine QM (by conv=>lhs;simp[-List.map_set,QV,htm]) ?_
              refine QN ?_
              repeat (first|refine QG ?_|refine QX (r:=by conv=>lhs;simp[-List.map_set,QV]) (k:=?_))
              refine QA [] (h:=⟨?_, k + 1, hkt, rfl, by rw [← hcb, htm, Bool.true_and], by simp [hw], rfl⟩)
              omega
            · have htm' : tm = false := by simpa using htm
              refine QM (by conv=>lhs;simp[-List.map_set,QV,htm']) ?_
              refine QN ?_
              repeat (first|refine QG ?_|refine QX (r:=by conv=>lhs;simp[-List.map_set,QV]) (k:=?_))
              exact done_pure hwf (by rw [← hcb, htm']; simp) rfl
      · have e1 : bs.drop k = [] := by rw [List.drop_eq_nil_iff]; omega
        rw [e1, Ss.checkBlocks] at hcb
        repeat (first|refine QG ?_|refine QX (r:=by conv=>lhs;simp[-List.map_set,QV,hkt]) (k:=?_))
        exact done_pure hwf (by simp [← hcb]) rfl
end Go.Vw

namespace Ss
def mark1 (o : List Bool) (v : Int) : List Bool := if 0 ≤ v ∧ v < o.length then o.set v.toNat true else o
def mark (o : List Bool) (l : List Int) : List Bool := l.foldl mark1 o
def usedB (o : List Bool) (b : Block) : List Bool :=
  b.term.to.foldl (fun o t => mark o t.args) (if branches b.term then mark (mark (b.code.foldl (fun o x => mark o x.args) o) b.term.args) [b.term.arg] else mark (b.code.foldl (fun o x => mark o x.args) o) b.term.args)
def usedOf (f : Fn) : List Bool := f.blocks.foldl usedB (List.replicate f.types.length false)
theorem mark1_len (o : List Bool) (v : Int) : (mark1 o v).length = o.length := by unfold mark1; split <;> simp
theorem mark_len : ∀ (l : List Int) (o : List Bool), (mark o l).length = o.length
  | [], o => rfl
  | v :: l, o => by simp only [mark, List.foldl_cons] at *; exact (mark_len l (mark1 o v)).trans (mark1_len o v)
theorem foldl_one {α β : Type} (p : β → α → β) {l : List α} {k : Nat} (h : k < l.length) (d : β) : (l.drop k).foldl p d = (l.drop (k + 1)).foldl p (p d l[k]) := by
  rw [List.drop_eq_getElem_cons h, List.foldl_cons]
theorem foldl_end {α β : Type} (p : β → α → β) {l : List α} {k : Nat} (h : ¬ k < l.length) (d : β) : (l.drop k).foldl p d = d := by
  rw [show l.drop k = [] by rw [List.drop_eq_nil_iff]; omega]; rfl
end Ss
namespace Go.Vw
open Go.Proofs Go.RowKit
set_option maxRecDepth 10000
set_option maxHeartbeats 4000000

theorem Count_v (f : Ss.Fn) (hf : f.Fits) : VPure Tryz.prog 36 [encFn f] (vnat (if f.small then Ss.count f.blocks else 0)) := by
  intro S
  have cs := small_v f hf
  have hsb := @small_blocks f
  generalize f.small = sm at *
  obtain ⟨⟨fi, fo⟩, ts, bs⟩ := f
  have cs' : VPure Tryz.prog 15 [.agg [vl vint fi, vl vint fo, vl vint ts, vl encBlock bs]] (.bool sm) := cs
  by_cases hs : sm = true
  case neg =>
    rw [if_neg hs]
    have hs' : sm = false := by simpa using hs
    refine vcalls_start (c := bodyOf Tryz.f36) Tryz.func36 rfl rfl (by simp [Tryz.ntmps36]) ?_
    rw [Tryz.ntmps36]
    intro hwf
    repeat (first|refine QG ?_|refine QX (r:=by conv=>lhs;simp[-List.map_set,QV]) (k:=?_))
    repeat refine QS ?_
    refine QR (r:=by conv=>lhs;simp[-List.map_set,QV]) (k:=?_)
    refine vcall_useH (cs') (by rfl) ?_
    refine QM (by conv=>lhs;simp[-List.map_set,QV,hs']) ?_
    refine QN ?_
    repeat (first|refine QG ?_|refine QX (r:=by conv=>lhs;simp[-List.map_set,QV]) (k:=?_))
    exact done_pure hwf (by simp) rfl
  rw [if_pos hs]
  obtain ⟨_, hbl, hbf, hct⟩ := hsb hs
  simp only at hbl hbf hct ⊢
  refine vcalls_start (c := bodyOf Tryz.f36) Tryz.func36 rfl rfl (by simp [Tryz.ntmps36]) ?_
  rw [Tryz.ntmps36]
  intro hwf
  repeat (first|refine QG ?_|refine QX (r:=by conv=>lhs;simp[-List.map_set,QV]) (k:=?_))
  repeat refine QS ?_
  refine QR (r:=by conv=>lhs;simp[-List.map_set,QV]) (k:=?_)
  refine vcall_useH (cs') (by rfl) ?_
  refine QM (by conv=>lhs;simp[-List.map_set,QV,hs]) ?_
  refine QN ?_
  repeat (first|refine QG ?_|refine QX (r:=by conv=>lhs;simp[-List.map_set,QV]) (k:=?_))
  repeat refine QS ?_
  refine vw_loopAt [3, 10, 11, 12] rfl (fun c σ S' => ∃ (k n : Nat), k ≤ bs.length ∧ c = bs.length - k ∧ n + Ss.count (bs.drop k) = Ss.count bs ∧ σ = [(3, vnat n), (10, vl encBlock bs), (11, vnat bs.length), (12, vnat k)] ∧ S' = St S [] [some (4, [vl vint fi, vl vint fo, vl vint ts, vl encBlock bs])]) bs.length ?_ ?_
  · exact ⟨0, 0, by omega, rfl, by simp, by simp [Fr.only], rfl⟩
  · rintro c σ T ⟨k, n, hk, rfl, hn, rfl, rfl⟩
    by_cases hkt : k < bs.length
    · have hw := wrapNat hkt (by omega)
      rw [List.drop_eq_getElem_cons hkt, Ss.count, List.map_cons, List.sum_cons] at hn
      obtain ⟨⟨ps, code, ⟨tk, ta, to, az⟩⟩, hx⟩ : ∃ b, bs[k] = b := ⟨_, rfl⟩
      rw [hx] at hn
      simp only at hn
      have hwn : IntKind.i64.wrap ((n : Int) + (code.length : Int)) = (n : Int) + (code.length : Int) := wrap_i64 (by omega) (by omega)
      repeat (first|refine QG ?_|refine QX (r:=by conv=>lhs;simp[-List.map_set,QV,hkt,hx,hwn]) (k:=?_))
      refine QA [0] (h:=⟨?_, k + 1, n + code.length, hkt, rfl, by rw [← hn]; simp only [Ss.count]; omega, by simp [hw], rfl⟩)
      omega
    · have e1 : bs.drop k = [] := by rw [List.drop_eq_nil_iff]; omega
      rw [e1] at hn
      have hn' : Ss.count bs = n := by rw [← hn]; simp [Ss.count]
      repeat (first|refine QG ?_|refine QX (r:=by conv=>lhs;simp[-List.map_set,QV,hkt]) (k:=?_))
      exact done_pure hwf (by simp [hn']) rfl

theorem used1_v (S : Store) (po os : Nat) (o : List Bool) (l : List Int) (hl : l.length < 2^63) (hn : o.length < 2^62) (hp : S.get po = some (1, [.slice os 0 o.length])) (ho : S.get os = some (1, o.map V.bool)) (h1 : po ≠ os) :
    VCalls Tryz.prog 61 ([vl vint l] ++ [.ptr po 0]) S (fun r T => r = .tuple [] ∧ T = S.upd os (1, (Ss.mark o l).map V.bool)) := by
  refine vcalls_start (c := bodyOf Tryz.f61) Tryz.func61 rfl rfl (by simp [Tryz.ntmps61]) ?_
  rw [Tryz.ntmps61]
  intro hwf
  have hpn := old_lt hwf hp
  have hon := old_lt hwf ho
  have op := fun u l => @St_old S u l po hpn
  have oo := fun u l => @St_old S u l os hon
  have hupd := fun u l c => @St_updOld S u l c os hon
  rw [St_touch ho]
  repeat (first|refine QG ?_|refine QX (r:=by conv=>lhs;simp[-List.map_set,QV]) (k:=?_))
  repeat refine QS ?_
  refine vw_loopAt [1, 5, 6, 7] rfl (fun c σ S' => ∃ (k : Nat) (d : List Bool), k ≤ l.length ∧ c = l.length - k ∧ d.length = o.length ∧ (l.drop k).foldl Ss.mark1 d = Ss.mark o l ∧ σ = [(1, .ptr po 0), (5, vl vint l), (6, vnat l.length), (7, vnat k)] ∧ S' = St S [(os, some (1, d.map V.bool))] []) l.length ?_ ?_
  · exact ⟨0, o, by omega, rfl, rfl, rfl, by simp [Fr.only], rfl⟩
  · rintro c σ T ⟨k, d, hk, rfl, hdl, hf, rfl, rfl⟩
    by_cases hkt : k < l.length
    · have hw := wrapNat hkt hl
      rw [Ss.foldl_one _ hkt] at hf
      obtain ⟨v, hx⟩ : ∃ v, l[k] = v := ⟨_, rfl⟩
      rw [hx] at hf
      by_cases q1 : 0 ≤ v
      · obtain ⟨n, rfl⟩ : ∃ n : Nat, v = n := ⟨v.toNat, by omega⟩
        by_cases q2 : n < o.length
        · have q2' : (n : Int) < (o.length : Int) := by omega
          have q3 : n < d.length := by omega
          have e : Ss.mark1 d n = d.set n true := by simp [Ss.mark1, q3]
          rw [e] at hf
          repeat (first|refine QG ?_|refine QX (r:=by conv=>lhs;simp[-List.map_set,QV,hkt,hx,q1,q2,q2',q3,op,oo,hp,h1,hupd]) (k:=?_))
          show Again _ _ _ _ _ _ _
          exact again ⟨Nat.sub_lt_sub_left hkt (Nat.lt_succ_self k), k + 1, d.set n true, hkt, rfl, by simp [hdl], hf, by simp [Fr.only, hw], by simp [List.map_set]⟩
        · have q2' : ¬ (n : Int) < (o.length : Int) := by omega
          have q3 : ¬ n < d.length := by omega
          have e : Ss.mark1 d n = d := by simp [Ss.mark1, q3]
          rw [e] at hf
          repeat (first|refine QG ?_|refine QX (r:=by conv=>lhs;simp[-List.map_set,QV,hkt,hx,q1,q2,q2',q3,op,oo,hp,h1]) (k:=?_))
          show Again _ _ _ _ _ _ _
          exact again ⟨Nat.sub_lt_sub_left hkt (Nat.lt_succ_self k), k + 1, d, hkt, rfl, hdl, hf, by simp [Fr.only, hw], rfl⟩
      · have e : Ss.mark1 d v = d := by simp [Ss.mark1, q1]
        rw [e] at hf
        repeat (first|refine QG ?_|refine QX (r:=by conv=>lhs;simp[-List.map_set,QV,hkt,hx,q1]) (k:=?_))
        show Again _ _ _ _ _ _ _
        exact again ⟨Nat.sub_lt_sub_left hkt (Nat.lt_succ_self k), k + 1, d, hkt, rfl, hdl, hf, by simp [Fr.only, hw], rfl⟩
    · rw [Ss.foldl_end _ hkt] at hf
      repeat (first|refine QG ?_|refine QX (r:=by conv=>lhs;simp[-List.map_set,QV,hkt]) (k:=?_))
      refine done_turned (X := .tuple []) (S' := S.upd os (1, d.map V.bool)) hwf (by simp) rfl (by simp [gcOkU, gcOkE, idsL_bool]) ?_ ⟨rfl, by rw [hf]⟩
      simp only [gcU, gcE, Option.map_some, renL_bool]
      exact St_upd1 hwf hon
theorem vcallv_anyG {P : Program} {σ : Fr} {S S' : Store} {K : Fr → Store → Prop} {d : Option Nat} {g : FuncId} {caps : List V} {fz : Arg} {args : List Arg} {xs xs' : List V} {r : List CO} {R : V → Store → Prop} (hf : ev σ fz = .func g caps) (hc : callable P g = true) (ha : args.map (ev σ) ++ caps = xs) (hg : GhostArgs xs S xs' S') (h : VCalls P g xs' S' R) (H : ∀ X T, R X T → vsegG P none r K (σ.put d X) T) : vsegG P none (⟨d, none, .callv fz args⟩ :: r) K σ S :=
  vcallv_any hf hc ha (vcalls_ghostArgs hg h) H

theorem Used_v (f : Ss.Fn) (hf : f.Fits) : VPure Tryz.prog 34 [encFn f] (vl V.bool (if f.small then Ss.usedOf f else [])) := by
  intro S
  have cs := small_v f hf
  have hsb := @small_blocks f
  have hsmi := Ss.small_iff f
  unfold Ss.usedOf
  generalize f.small = sm at *
  obtain ⟨⟨fi, fo⟩, ts, bs⟩ := f
  have cs' : VPure Tryz.prog 15 [.agg [vl vint fi, vl vint fo, vl vint ts, vl encBlock bs]] (.bool sm) := cs
  by_cases hs : sm = true
  case neg =>
    rw [if_neg hs]
    have hs' : sm = false := by simpa using hs
    refine vcalls_start (c := bodyOf Tryz.f34) Tryz.func34 rfl rfl (by simp [Tryz.ntmps34]) ?_
    rw [Tryz.ntmps34]
    intro hwf
    repeat (first|refine QG ?_|refine QX (r:=by conv=>lhs;simp[-List.map_set,QV]) (k:=?_))
    repeat refine QS ?_
    refine QR (r:=by conv=>lhs;simp[-List.map_set,QV]) (k:=?_)
    refine vcall_useH (cs') (by rfl) ?_
    refine QM (by conv=>lhs;simp[-List.map_set,QV,hs']) ?_
    refine QN ?_
    repeat (first|refine QG ?_|refine QX (r:=by conv=>lhs;simp[-List.map_set,QV]) (k:=?_))
    exact done_via (l := [_]) hwf (Ghost.toB (Ghost.nils_list _) _) rfl
  rw [if_pos hs]
  obtain ⟨htl, hbl, hbf, _⟩ := hsb hs
  have hsm2 := (hsmi.1 hs).2.1
  simp only at htl hbl hbf hsm2 ⊢
  generalize hX : bs.foldl Ss.usedB (List.replicate ts.length false) = X
  have hb1 : ts.length * 1 ≤ 140737488355328 := by omega
  have hb0 : ts.length ≤ 140737488355328 := by omega
  refine vcalls_start (c := bodyOf Tryz.f34) Tryz.func34 rfl rfl (by simp [Tryz.ntmps34]) ?_
  rw [Tryz.ntmps34]
  intro hwf
  repeat (first|refine QG ?_|refine QX (r:=by conv=>lhs;simp[-List.map_set,QV]) (k:=?_))
  repeat refine QS ?_
  refine QR (r:=by conv=>lhs;simp[-List.map_set,QV]) (k:=?_)
  refine vcall_useH (cs') (by rfl) ?_
  refine QM (by conv=>lhs;simp[-List.map_set,QV,hs]) ?_
  refine QN ?_
  repeat (first|refine QG ?_|refine QX (r:=by conv=>lhs;simp[-List.map_set,QV,hb1,hb0]) (k:=?_))
  refine vw_only' [3, 4, 20, 21, 22] (by conv => lhs; simp [Fr.only, Fr.look]) ?_
  refine vw_gc [1, 2] hwf (by decide) (by simp [-List.map_set]; rw [idsL_eq]; simp [V.ids]) (by conv => lhs; simp [-List.map_set]) (by conv => lhs; simp [-List.map_set]) (by conv => lhs; simp [-List.map_set]) ?_
  repeat refine QS ?_
  refine vw_loopAt [3, 4, 20, 21, 22] rfl (fun c σ S' => ∃ (k : Nat) (d : List Bool), k ≤ bs.length ∧ c = bs.length - k ∧ d.length = ts.length ∧ (bs.drop k).foldl Ss.usedB d = X ∧ σ = [(3, .ptr (lid S.nx 1) 0), (4, .func 61 [.ptr (lid S.nx 1) 0]), (20, vl encBlock bs), (21, vnat bs.length), (22, vnat k)] ∧ S' = St S [] [some (1, d.map V.bool), some (1, [.slice (lid S.nx 0) 0 ts.length])]) bs.length ?_ ?_
  · exact ⟨0, List.replicate ts.length false, by omega, rfl, by simp, hX, by simp [Fr.only], by rw [renL_eq]; simp [V.ren]⟩
  · rintro c σ T ⟨k, d, hk, rfl, hdl, hfo, rfl, rfl⟩
    by_cases hkt : k < bs.length
    · have hw := wrapNat hkt (by omega)
      rw [Ss.foldl_one _ hkt] at hfo
      have hmem := List.getElem_mem hkt
      obtain ⟨_, htol, hazl, hcl⟩ := hbf _ hmem
      have hsmk := hsm2 _ hmem
      obtain ⟨⟨ps, code, ⟨tk, ta, to, az⟩⟩, hx⟩ : ∃ b, bs[k] = b := ⟨_, rfl⟩
      rw [hx] at hfo htol hazl hcl hsmk
      simp only at htol hazl hcl
      simp only [Ss.Block.small, Bool.and_eq_true, List.all_eq_true, Ss.Ins.small, Ss.Edge.small, decide_eq_true_eq] at hsmk
      obtain ⟨⟨_, hsc⟩, hse⟩ := hsmk
      have cb : VPure Tryz.prog 55 [.agg [.int .i64 tk, .int .i64 ta, vl encEdge to, vl vint az]] (.bool (Ss.branches ⟨tk, ta, to, az⟩)) := branches_v ⟨tk, ta, to, az⟩
      simp only [Ss.usedB] at hfo
      generalize Ss.branches ⟨tk, ta, to, az⟩ = br at *
      generalize hD1 : code.foldl (fun o x => Ss.mark o x.args) d = D1 at *
      repeat (first|refine QG ?_|refine QX (r:=by conv=>lhs;simp[-List.map_set,QV,hkt,hx]) (k:=?_))
      repeat refine QS ?_
      refine vw_loopAt [3, 4, 6, 20, 21, 22, 27, 28, 29] rfl (fun c σ S' => ∃ (j : Nat) (d : List Bool), j ≤ code.length ∧ c = code.length - j ∧ d.length = ts.length ∧ (code.drop j).foldl (fun o x => Ss.mark o x.args) d = D1 ∧ σ = [(3, .ptr (lid S.nx 1) 0), (4, .func 61 [.ptr (lid S.nx 1) 0]), (6, .ptr (lid S.nx 2) 0), (20, vl encBlock bs), (21, vnat bs.length), (22, vnat k), (27, vl encIns code), (28, vnat code.length), (29, vnat j)] ∧ S' = St S [] [some (1, d.map V.bool), some (1, [.slice (lid S.nx 0) 0 ts.length]), some (6, [vl vint ps, vl encIns code, .int .i64 tk, .int .i64 ta, vl encEdge to, vl vint az])]) code.length ?_ ?_
      · exact ⟨0, d, by omega, rfl, hdl, hD1, by simp [Fr.only], rfl⟩
      · rintro c σ T ⟨j, d2, hj, rfl, hdl2, hfo2, rfl, rfl⟩
        by_cases hjt : j < code.length
        · have hwj := wrapNat hjt (by omega)
          rw [Ss.foldl_one _ hjt] at hfo2
          have hxl := hsc _ (List.getElem_mem hjt)
          obtain ⟨⟨xo, xn, xa, xu⟩, hx2⟩ : ∃ x, code[j] = x := ⟨_, rfl⟩
          rw [hx2] at hfo2 hxl
          simp only at hfo2 hxl
          repeat (first|refine QG ?_|refine QX (r:=by conv=>lhs;simp[-List.map_set,QV,hjt,hx2]) (k:=?_))
          repeat refine QS ?_
          refine QR (r:=by conv=>lhs;simp[-List.map_set,QV,hjt,hx2]) (k:=?_)
          refine vcallv_any rfl rfl rfl (used1_v _ (lid S.nx 1) (lid S.nx 0) d2 xa (by omega) (by omega) (by simp [*]) (by simp) (by simp [lid])) ?_
          rintro Y S2 ⟨rfl, rfl⟩
          rw [St_upd (by simp)]
          simp only [List.set_cons_succ, List.set_cons_zero]
          have hml := Ss.mark_len xa d2
          generalize Ss.mark d2 xa = d3 at *
          refine QM (by conv=>lhs;simp[-List.map_set,QV]) ?_
          refine QN ?_
          repeat (first|refine QG ?_|refine QX (r:=by conv=>lhs;simp[-List.map_set,QV]) (k:=?_))
          refine QA [0, 1, 2] (h:=⟨?_, j + 1, d3, hjt, rfl, by omega, hfo2, by simp [hwj], rfl⟩)
          omega
        · rw [Ss.foldl_end _ hjt] at hfo2
          subst hfo2
          repeat (first|refine QG ?_|refine QX (r:=by conv=>lhs;simp[-List.map_set,QV,hjt]) (k:=?_))
          repeat refine QS ?_
          refine QR (r:=by conv=>lhs;simp[-List.map_set,QV]) (k:=?_)
          refine vcallv_any rfl rfl rfl (used1_v _ (lid S.nx 1) (lid S.nx 0) d2 az (by omega) (by omega) (by simp [*]) (by simp) (by simp [lid])) ?_
          rintro Y S2 ⟨rfl, rfl⟩
          rw [St_upd (by simp)]
          simp only [List.set_cons_succ, List.set_cons_zero]
          have hml := Ss.mark_len az d2
          generalize Ss.mark d2 az = d3 at *
          refine QM (by conv=>lhs;simp[-List.map_set,QV]) ?_
          refine QN ?_
          refine vw_seqAt rfl ?_
          generalize hD4 : (if br = true then Ss.mark d3 [ta] else d3) = D4 at *
          refine vw_joinR (fun σ S' => D4.length = ts.length ∧ σ = [(3, .ptr (lid S.nx 1) 0), (4, .func 61 [.ptr (lid S.nx 1) 0]), (6, .ptr (lid S.nx 2) 0), (20, vl encBlock bs), (21, vnat bs.length), (22, vnat k)] ∧ S' = St S [] [some (1, D4.map V.bool), some (1, [.slice (lid S.nx 0) 0 ts.length]), some (6, [vl vint ps, vl encIns code, .int .i64 tk, .int .i64 ta, vl encEdge to, vl vint az])]) [3, 4, 6, 20, 21, 22] ?_ ?_
          · repeat refine QS ?_
            refine QR (r:=by conv=>lhs;simp[-List.map_set,QV]) (k:=?_)
            refine vcall_useH (cb) (by rfl) ?_
            by_cases hbr : br = true
            · rw [if_pos hbr] at hD4
              refine QM (by conv=>lhs;simp[-List.map_set,QV,hbr]) ?_
              refine QN ?_
              repeat (first|refine QG ?_|refine QX (r:=by conv=>lhs;simp[-List.map_set,QV]) (k:=?_))
              repeat refine QS ?_
              refine QR (r:=by conv=>lhs;simp[-List.map_set,QV]) (k:=?_)
              refine vcallv_anyG (xs' := [vl vint [ta], .ptr (lid S.nx 1) 0]) rfl rfl rfl (GhostArgs.one [] [_] (frz1 (k := 3) (len := 1) (by simp) (by rfl) (by rfl) (by rfl))) (used1_v _ (lid S.nx 1) (lid S.nx 0) d3 [ta] (by simp) (by omega) (by simp [*]) (by simp) (by simp [lid])) ?_
              rintro Y S2 ⟨rfl, rfl⟩
              simp only [List.set_cons_succ, List.set_cons_zero]
              rw [St_upd (by simp)]
              simp only [List.set_cons_succ, List.set_cons_zero]
              have hml2 := Ss.mark_len [ta] d3
              rw [hD4] at hml2 ⊢
              refine QM (by conv=>lhs;simp[-List.map_set,QV]) ?_
              refine QN ?_
              repeat (first|refine QG ?_|refine QX (r:=by conv=>lhs;simp[-List.map_set,QV]) (k:=?_))
              refine mid_gc [3, 4, 6, 20, 21, 22] [0, 1, 2] (by conv => lhs; simp [Fr.only]) hwf (by decide) (by simp [-List.map_set]) (by conv => lhs; simp [-List.map_set]) (by conv => lhs; simp [-List.map_set]) (by conv => lhs; simp [-List.map_set]) (⟨by omega, by simp, by simp⟩)
            · rw [if_neg hbr] at hD4
              have hbr' : br = false := by simpa using hbr
              refine QM (by conv=>lhs;simp[-List.map_set,QV,hbr']) ?_
              refine QN ?_
              repeat (first|refine QG ?_|refine QX (r:=by conv=>lhs;simp[-List.map_set,QV]) (k:=?_))
              subst hD4
              refine mid_gc [3, 4, 6, 20, 21, 22] [0, 1, 2] (by conv => lhs; simp [Fr.only]) hwf (by decide) (by simp [-List.map_set]) (by conv => lhs; simp [-List.map_set]) (by conv => lhs; simp [-List.map_set]) (by conv => lhs; simp [-List.map_set]) (⟨by omega, by simp, by simp⟩)
          rintro σ S' ⟨hD4l, rfl, rfl⟩
          generalize hD5 : to.foldl (fun o t => Ss.mark o t.args) D4 = D5 at *
          repeat (first|refine QG ?_|refine QX (r:=by conv=>lhs;simp[-List.map_set,QV]) (k:=?_))
          repeat refine QS ?_
          refine vw_loopAt [3, 4, 20, 21, 22, 54, 55, 56] rfl (fun c σ S' => ∃ (j : Nat) (d : List Bool), j ≤ to.length ∧ c = to.length - j ∧ d.length = ts.length ∧ (to.drop j).foldl (fun o t => Ss.mark o t.args) d = D5 ∧ σ = [(3, .ptr (lid S.nx 1) 0), (4, .func 61 [.ptr (lid S.nx 1) 0]), (20, vl encBlock bs), (21, vnat bs.length), (22, vnat k), (54, vl encEdge to), (55, vnat to.length), (56, vnat j)] ∧ S' = St S [] [some (1, d.map V.bool), some (1, [.slice (lid S.nx 0) 0 ts.length]), some (6, [vl vint ps, vl encIns code, .int .i64 tk, .int .i64 ta, vl encEdge to, vl vint az])]) to.length ?_ ?_
          · exact ⟨0, D4, by omega, rfl, hD4l, hD5, by simp [Fr.only], rfl⟩
          · rintro c σ T ⟨j, d6, hj, rfl, hdl6, hfo6, rfl, rfl⟩
            by_cases hjt : j < to.length
            · have hwj := wrapNat hjt (by omega)
              rw [Ss.foldl_one _ hjt] at hfo6
              have hxl := hse _ (List.getElem_mem hjt)
              obtain ⟨⟨xt, xa⟩, hx2⟩ : ∃ x, to[j] = x := ⟨_, rfl⟩
              rw [hx2] at hfo6 hxl
              simp only at hfo6 hxl
              repeat (first|refine QG ?_|refine QX (r:=by conv=>lhs;simp[-List.map_set,QV,hjt,hx2]) (k:=?_))
              repeat refine QS ?_
              refine QR (r:=by conv=>lhs;simp[-List.map_set,QV,hjt,hx2]) (k:=?_)
              refine vcallv_any rfl rfl rfl (used1_v _ (lid S.nx 1) (lid S.nx 0) d6 xa (by omega) (by omega) (by simp [*]) (by simp) (by simp [lid])) ?_
              rintro Y S2 ⟨rfl, rfl⟩
              rw [St_upd (by simp)]
              simp only [List.set_cons_succ, List.set_cons_zero]
              have hml7 := Ss.mark_len xa d6
              generalize Ss.mark d6 xa = d7 at *
              refine QM (by conv=>lhs;simp[-List.map_set,QV]) ?_
              refine QN ?_
              repeat (first|refine QG ?_|refine QX (r:=by conv=>lhs;simp[-List.map_set,QV]) (k:=?_))
              refine QA [0, 1, 2] (h:=⟨?_, j + 1, d7, hjt, rfl, by omega, hfo6, by simp [hwj], by simp⟩)
              omega
            · rw [Ss.foldl_end _ hjt] at hfo6
              subst hfo6
              repeat (first|refine QG ?_|refine QX (r:=by conv=>lhs;simp[-List.map_set,QV,hjt]) (k:=?_))
              refine QA [0, 1] (h:=⟨?_, k + 1, d6, hkt, rfl, by omega, hfo, by simp [hw], rfl⟩)
              omega
    · rw [Ss.foldl_end _ hkt] at hfo
      subst hfo
      repeat (first|refine QG ?_|refine QX (r:=by conv=>lhs;simp[-List.map_set,QV,hkt]) (k:=?_))
      exact done_via hwf ((frz1 (k := 0) (by simp) (by rfl) (all_closed1 V.bool (fun _ => rfl) _) (by simpa using hdl)).toB _) rfl
end Go.Vw
