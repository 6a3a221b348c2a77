import Derived.Test.YtmfpoangempgaaaC34
/-
  Part of the proof (texts SChk2).
-/
set_option linter.unusedVariables false
set_option linter.unusedSimpArgs false
namespace Go.Vw
open Go.Proofs Go.RowKit
set_option maxRecDepth 10000
set_option maxHeartbeats 8000000

theorem Check_v (e : Ss.Env) (f : Ss.Fn) (he : e.Fits) (hf : f.Fits) : VPure Try.prog 11 [encEnv e, encFn f] (.bool (Ss.check e f)) := by
  intro S
  have cer := EnvRight_v e he
  have csm := small_v f hf
  have hsb := @small_blocks f
  have ckt : VPure Try.prog 30 [.int .i64 2048, vl vint f.types] (.bool (Ss.kinds 2048 f.types)) := kinds_v 2048 f.types (by have := hf.2.1.1; omega)
  have csr := sigRight_v f.sig hf.1
  have cpa := AnyB_v f.blocks (fun b => decide (256 < b.params.length)) 33 [] rfl (by have := hf.2.2.1; omega) (fun b _ => check1_v b)
  have hpa : (f.blocks.all fun b => decide (b.params.length ≤ 256)) = !(f.blocks.any fun b => decide (256 < b.params.length)) := by
    rw [List.not_any_eq_all_not]; congr 1; funext b; by_cases h : b.params.length ≤ 256 <;> simp [h] <;> omega
  have hH : Ss.checkHead e f = (e.right && f.small && decide (f.blocks.length ≤ 256) && Ss.kinds 2048 f.types && f.sig.right && !(f.blocks.any fun b => decide (256 < b.params.length))) := by rw [← hpa]; rfl
  have hX : Ss.check e f = (Ss.checkHead e f && match Ss.defsOf f with
    | none => false
    | some ds => Ss.shapeOk f && Ss.checkBlocks e f ds (G.nearI (Ss.succs f.blocks)) 0 f.blocks) := rfl
  have hks : Ss.kinds 2048 f.types = true → f.types.length ≤ 2048 := by
    intro h; simp only [Ss.kinds, Bool.and_eq_true, decide_eq_true_eq] at h; exact h.1
  have her : e.right = true → e.muts.length = e.globals.length := by
    intro h; simp only [Ss.Env.right, Bool.and_eq_true, decide_eq_true_eq] at h; exact h.1.1.2
  rw [hX, hH]
  generalize (f.blocks.any fun b => decide (256 < b.params.length)) = pa at *
  generalize e.right = er at *
  generalize hsm : f.small = sm at *
  generalize Ss.kinds 2048 f.types = kt at *
  generalize f.sig.right = sr at *
  have hsl := he.1.1
  have hgl := he.2.2.1.1
  obtain ⟨sg, im, gl, mu, me⟩ := e
  obtain ⟨⟨fi, fo⟩, ts, bs⟩ := f
  simp only at *
  have cer' : VPure Try.prog 29 [.agg [vl encSig sg, .int .i64 im, vl vint gl, vl V.bool mu, .bool me]] (.bool er) := cer
  have csm' : VPure Try.prog 16 [.agg [vl vint fi, vl vint fo, vl vint ts, vl encBlock bs]] (.bool sm) := csm
  have csr' : VPure Try.prog 31 [.agg [vl vint fi, vl vint fo]] (.bool sr) := csr
  generalize hZ : (match Ss.defsOf ⟨⟨fi, fo⟩, ts, bs⟩ with
    | none => false
    | some ds => Ss.shapeOk ⟨⟨fi, fo⟩, ts, bs⟩ && Ss.checkBlocks ⟨sg, im, gl, mu, me⟩ ⟨⟨fi, fo⟩, ts, bs⟩ ds (G.nearI (Ss.succs bs)) 0 bs) = Z
  refine vcalls_start (c := bodyOf Try.f11) Try.func11 rfl rfl (by simp [Try.ntmps11]) ?_
  rw [Try.ntmps11]
  intro hwf
  repeat (first | refine vw_seqAt rfl ?_ | refine vw_scopeAt rfl ?_ | refine vw_labelAt rfl ?_ | refine vw_skipAt rfl ?_ | refine vw_exitAt _ rfl rfl ?_ | refine vw_retAt rfl ?_ | (refine vw_condT rfl rfl ?_ ?_; focus (simp [ev, Fr.look]; done)) | (refine vw_condF rfl rfl ?_ ?_; focus (simp [ev, Fr.look]; done)) | refine vw_blockAt _ rfl rfl ?_ | (apply vw_regionRun; (focus rfl); (focus ((conv => lhs; reduce); done)); (focus ((conv => lhs; simp [-List.map_set, set_vnat, set_vnat1, set_vint, set_bool]); done)); refine vseg_done ?_) | (apply vw_drawPlain; (focus rfl); (focus kernel_rfl); (focus ((conv => lhs; reduce); done)); (focus ((conv => lhs; reduce); done)); (focus (kernel_rfl)); (focus ((conv => lhs; simp [-List.map_set, set_vnat, set_vnat1, set_vint, set_bool]); done)); refine vseg_done ?_))
  repeat refine vw_seqAt rfl ?_
  refine vw_regionRun rfl (by conv => lhs; reduce) (by conv => lhs; simp [-List.map_set, set_vnat, set_vnat1, set_vint, set_bool]) ?_
  refine vcall_useH (cer') (by rfl) ?_
  by_cases h1 : er = true
  case neg =>
    have h1' : er = false := by simpa using h1
    refine vseg_more (by conv => lhs; simp [-List.map_set, set_vnat, set_vnat1, set_vint, set_bool, h1']) ?_
    refine vseg_done ?_
    repeat (first | refine vw_seqAt rfl ?_ | refine vw_scopeAt rfl ?_ | refine vw_labelAt rfl ?_ | refine vw_skipAt rfl ?_ | refine vw_exitAt _ rfl rfl ?_ | refine vw_retAt rfl ?_ | (refine vw_condT rfl rfl ?_ ?_; focus (simp [ev, Fr.look]; done)) | (refine vw_condF rfl rfl ?_ ?_; focus (simp [ev, Fr.look]; done)) | refine vw_blockAt _ rfl rfl ?_ | (apply vw_regionRun; (focus rfl); (focus ((conv => lhs; reduce); done)); (focus ((conv => lhs; simp [-List.map_set, set_vnat, set_vnat1, set_vint, set_bool]); done)); refine vseg_done ?_) | (apply vw_drawPlain; (focus rfl); (focus kernel_rfl); (focus ((conv => lhs; reduce); done)); (focus ((conv => lhs; reduce); done)); (focus (kernel_rfl)); (focus ((conv => lhs; simp [-List.map_set, set_vnat, set_vnat1, set_vint, set_bool]); done)); refine vseg_done ?_))
    exact done_pure hwf (by simp [h1']) rfl
  refine vseg_more (by conv => lhs; simp [-List.map_set, set_vnat, set_vnat1, set_vint, set_bool, h1]) ?_
  refine vcall_useH (csm') (by rfl) ?_
  by_cases h2 : sm = true
  case neg =>
    have h2' : sm = false := by simpa using h2
    refine vseg_more (by conv => lhs; simp [-List.map_set, set_vnat, set_vnat1, set_vint, set_bool, h2']) ?_
    refine vseg_done ?_
    repeat (first | refine vw_seqAt rfl ?_ | refine vw_scopeAt rfl ?_ | refine vw_labelAt rfl ?_ | refine vw_skipAt rfl ?_ | refine vw_exitAt _ rfl rfl ?_ | refine vw_retAt rfl ?_ | (refine vw_condT rfl rfl ?_ ?_; focus (simp [ev, Fr.look]; done)) | (refine vw_condF rfl rfl ?_ ?_; focus (simp [ev, Fr.look]; done)) | refine vw_blockAt _ rfl rfl ?_ | (apply vw_regionRun; (focus rfl); (focus ((conv => lhs; reduce); done)); (focus ((conv => lhs; simp [-List.map_set, set_vnat, set_vnat1, set_vint, set_bool]); done)); refine vseg_done ?_) | (apply vw_drawPlain; (focus rfl); (focus kernel_rfl); (focus ((conv => lhs; reduce); done)); (focus ((conv => lhs; reduce); done)); (focus (kernel_rfl)); (focus ((conv => lhs; simp [-List.map_set, set_vnat, set_vnat1, set_vint, set_bool]); done)); refine vseg_done ?_))
    exact done_pure hwf (by simp [h2']) rfl
  by_cases h3 : (256 : Int) < (bs.length : Int)
  · refine vseg_more (by conv => lhs; simp [-List.map_set, set_vnat, set_vnat1, set_vint, set_bool, h2, h3]) ?_
    refine vseg_done ?_
    repeat (first | refine vw_seqAt rfl ?_ | refine vw_scopeAt rfl ?_ | refine vw_labelAt rfl ?_ | refine vw_skipAt rfl ?_ | refine vw_exitAt _ rfl rfl ?_ | refine vw_retAt rfl ?_ | (refine vw_condT rfl rfl ?_ ?_; focus (simp [ev, Fr.look]; done)) | (refine vw_condF rfl rfl ?_ ?_; focus (simp [ev, Fr.look]; done)) | refine vw_blockAt _ rfl rfl ?_ | (apply vw_regionRun; (focus rfl); (focus ((conv => lhs; reduce); done)); (focus ((conv => lhs; simp [-List.map_set, set_vnat, set_vnat1, set_vint, set_bool]); done)); refine vseg_done ?_) | (apply vw_drawPlain; (focus rfl); (focus kernel_rfl); (focus ((conv => lhs; reduce); done)); (focus ((conv => lhs; reduce); done)); (focus (kernel_rfl)); (focus ((conv => lhs; simp [-List.map_set, set_vnat, set_vnat1, set_vint, set_bool]); done)); refine vseg_done ?_))
    exact done_pure hwf (by rw [show decide (bs.length ≤ 256) = false by simp; omega]; simp) rfl
  have h3' : bs.length ≤ 256 := by omega
  refine vseg_more (by conv => lhs; simp [-List.map_set, set_vnat, set_vnat1, set_vint, set_bool, h2, h3]) ?_
  refine vcall_useH (ckt) (by rfl) ?_
  by_cases h4 : kt = true
  case neg =>
    have h4' : kt = false := by simpa using h4
    refine vseg_more (by conv => lhs; simp [-List.map_set, set_vnat, set_vnat1, set_vint, set_bool, h4']) ?_
    refine vseg_done ?_
    repeat (first | refine vw_seqAt rfl ?_ | refine vw_scopeAt rfl ?_ | refine vw_labelAt rfl ?_ | refine vw_skipAt rfl ?_ | refine vw_exitAt _ rfl rfl ?_ | refine vw_retAt rfl ?_ | (refine vw_condT rfl rfl ?_ ?_; focus (simp [ev, Fr.look]; done)) | (refine vw_condF rfl rfl ?_ ?_; focus (simp [ev, Fr.look]; done)) | refine vw_blockAt _ rfl rfl ?_ | (apply vw_regionRun; (focus rfl); (focus ((conv => lhs; reduce); done)); (focus ((conv => lhs; simp [-List.map_set, set_vnat, set_vnat1, set_vint, set_bool]); done)); refine vseg_done ?_) | (apply vw_drawPlain; (focus rfl); (focus kernel_rfl); (focus ((conv => lhs; reduce); done)); (focus ((conv => lhs; reduce); done)); (focus (kernel_rfl)); (focus ((conv => lhs; simp [-List.map_set, set_vnat, set_vnat1, set_vint, set_bool]); done)); refine vseg_done ?_))
    exact done_pure hwf (by simp [h4']) rfl
  refine vseg_more (by conv => lhs; simp [-List.map_set, set_vnat, set_vnat1, set_vint, set_bool, h4]) ?_
  refine vcall_useH (csr') (by rfl) ?_
  by_cases h5 : sr = true
  case neg =>
    have h5' : sr = false := by simpa using h5
    refine vseg_more (by conv => lhs; simp [-List.map_set, set_vnat, set_vnat1, set_vint, set_bool, h5']) ?_
    refine vseg_done ?_
    repeat (first | refine vw_seqAt rfl ?_ | refine vw_scopeAt rfl ?_ | refine vw_labelAt rfl ?_ | refine vw_skipAt rfl ?_ | refine vw_exitAt _ rfl rfl ?_ | refine vw_retAt rfl ?_ | (refine vw_condT rfl rfl ?_ ?_; focus (simp [ev, Fr.look]; done)) | (refine vw_condF rfl rfl ?_ ?_; focus (simp [ev, Fr.look]; done)) | refine vw_blockAt _ rfl rfl ?_ | (apply vw_regionRun; (focus rfl); (focus ((conv => lhs; reduce); done)); (focus ((conv => lhs; simp [-List.map_set, set_vnat, set_vnat1, set_vint, set_bool]); done)); refine vseg_done ?_) | (apply vw_drawPlain; (focus rfl); (focus kernel_rfl); (focus ((conv => lhs; reduce); done)); (focus ((conv => lhs; reduce); done)); (focus (kernel_rfl)); (focus ((conv => lhs; simp [-List.map_set, set_vnat, set_vnat1, set_vint, set_bool]); done)); refine vseg_done ?_))
    exact done_pure hwf (by simp [h5']) rfl
  rw [h1, h2, h4, h5, decide_eq_true h3']
  simp only [Bool.true_and]
  have htl := hks h4
  obtain ⟨_, _, hsf, _⟩ := hsb h2
  refine vseg_more (by conv => lhs; simp [-List.map_set, set_vnat, set_vnat1, set_vint, set_bool, h5]) ?_
  refine vseg_done ?_
  repeat (first | refine vw_seqAt rfl ?_ | refine vw_scopeAt rfl ?_ | refine vw_labelAt rfl ?_ | refine vw_skipAt rfl ?_ | refine vw_exitAt _ rfl rfl ?_ | refine vw_retAt rfl ?_ | (refine vw_condT rfl rfl ?_ ?_; focus (simp [ev, Fr.look]; done)) | (refine vw_condF rfl rfl ?_ ?_; focus (simp [ev, Fr.look]; done)) | refine vw_blockAt _ rfl rfl ?_ | (apply vw_regionRun; (focus rfl); (focus ((conv => lhs; reduce); done)); (focus ((conv => lhs; simp [-List.map_set, set_vnat, set_vnat1, set_vint, set_bool]); done)); refine vseg_done ?_) | (apply vw_drawPlain; (focus rfl); (focus kernel_rfl); (focus ((conv => lhs; reduce); done)); (focus ((conv => lhs; reduce); done)); (focus (kernel_rfl)); (focus ((conv => lhs; simp [-List.map_set, set_vnat, set_vnat1, set_vint, set_bool]); done)); refine vseg_done ?_))
  repeat refine vw_seqAt rfl ?_
  refine vw_regionRun rfl (by conv => lhs; reduce) (by conv => lhs; simp [-List.map_set, set_vnat, set_vnat1, set_vint, set_bool]) ?_
  refine vcall_useH (cpa) (by rfl) ?_
  by_cases h6 : pa = true
  · refine vseg_more (by conv => lhs; simp [-List.map_set, set_vnat, set_vnat1, set_vint, set_bool, h6]) ?_
    refine vseg_done ?_
    repeat (first | refine vw_seqAt rfl ?_ | refine vw_scopeAt rfl ?_ | refine vw_labelAt rfl ?_ | refine vw_skipAt rfl ?_ | refine vw_exitAt _ rfl rfl ?_ | refine vw_retAt rfl ?_ | (refine vw_condT rfl rfl ?_ ?_; focus (simp [ev, Fr.look]; done)) | (refine vw_condF rfl rfl ?_ ?_; focus (simp [ev, Fr.look]; done)) | refine vw_blockAt _ rfl rfl ?_ | (apply vw_regionRun; (focus rfl); (focus ((conv => lhs; reduce); done)); (focus ((conv => lhs; simp [-List.map_set, set_vnat, set_vnat1, set_vint, set_bool]); done)); refine vseg_done ?_) | (apply vw_drawPlain; (focus rfl); (focus kernel_rfl); (focus ((conv => lhs; reduce); done)); (focus ((conv => lhs; reduce); done)); (focus (kernel_rfl)); (focus ((conv => lhs; simp [-List.map_set, set_vnat, set_vnat1, set_vint, set_bool]); done)); refine vseg_done ?_))
    exact done_pure hwf (by simp [h6]) rfl
  have h6' : pa = false := by simpa using h6
  rw [h6']
  simp only [Bool.not_false, Bool.true_and]
  refine vseg_more (by conv => lhs; simp [-List.map_set, set_vnat, set_vnat1, set_vint, set_bool, h6']) ?_
  refine vcall_any rfl (define_v _ ⟨sg, im, gl, mu, me⟩ ⟨⟨fi, fo⟩, ts, bs⟩ (lid S.nx 2) hf (by simp only; omega) (by simp)) ?_
  rintro X S' ⟨ds, hdl, rfl, hdd, rfl⟩
  rw [St_St (by rw [St_nx]; simp [lid]), St_upd (by simp), St_add, St_nx, lid_lid]
  simp only [List.set_cons_succ, List.set_cons_zero, List.cons_append, List.nil_append, List.length_cons, List.length_nil, Nat.zero_add, Nat.add_zero]
  cases hdf : Ss.defsOf ⟨⟨fi, fo⟩, ts, bs⟩ with
  | none =>
    rw [hdf] at hZ
    simp only at hZ
    obtain ⟨z, hz⟩ : ∃ z, (none : Option (List Ss.Def)).isSome = z := ⟨_, rfl⟩
    have hz' : z = false := by rw [← hz]; rfl
    rw [hz]
    refine vseg_more (by conv => lhs; simp [-List.map_set, set_vnat, set_vnat1, set_vint, set_bool, hz']) ?_
    refine vseg_done ?_
    repeat (first | refine vw_seqAt rfl ?_ | refine vw_scopeAt rfl ?_ | refine vw_labelAt rfl ?_ | refine vw_skipAt rfl ?_ | refine vw_exitAt _ rfl rfl ?_ | refine vw_retAt rfl ?_ | (refine vw_condT rfl rfl ?_ ?_; focus (simp [ev, Fr.look]; done)) | (refine vw_condF rfl rfl ?_ ?_; focus (simp [ev, Fr.look]; done)) | refine vw_blockAt _ rfl rfl ?_ | (apply vw_regionRun; (focus rfl); (focus ((conv => lhs; reduce); done)); (focus ((conv => lhs; simp [-List.map_set, set_vnat, set_vnat1, set_vint, set_bool]); done)); refine vseg_done ?_) | (apply vw_drawPlain; (focus rfl); (focus kernel_rfl); (focus ((conv => lhs; reduce); done)); (focus ((conv => lhs; reduce); done)); (focus (kernel_rfl)); (focus ((conv => lhs; simp [-List.map_set, set_vnat, set_vnat1, set_vint, set_bool]); done)); refine vseg_done ?_))
    exact done_pure hwf (by simp [← hZ]) rfl
  | some ds2 =>
    obtain rfl := hdd _ hdf
    rw [hdf] at hZ
    simp only at hZ
    obtain ⟨hdl2, hdin⟩ := Ss.defs_in hdf
    simp only at hdin
    obtain ⟨z, hz⟩ : ∃ z, (some ds : Option (List Ss.Def)).isSome = z := ⟨_, rfl⟩
    have hz' : z = true := by rw [← hz]; rfl
    rw [hz]
    refine vseg_more (by conv => lhs; simp [-List.map_set, set_vnat, set_vnat1, set_vint, set_bool, hz']) ?_
    refine vcall_any rfl (shape_v _ ⟨sg, im, gl, mu, me⟩ ⟨⟨fi, fo⟩, ts, bs⟩ (lid S.nx 2) (lid S.nx 3) hf (hsm.trans h2) (by simp [hdl]) (by simp [lid]) (fun b hb => (hdin b hb).1)) ?_
    rintro X S' ⟨nv, hnv, rfl, hnvv, rfl⟩
    rw [St_upd (by simp)]
    simp only [List.set_cons_succ, List.set_cons_zero]
    generalize hso : Ss.shapeOk ⟨⟨fi, fo⟩, ts, bs⟩ = so at *
    by_cases h7 : so = true
    case neg =>
      have h7' : so = false := by simpa using h7
      refine vseg_more (by conv => lhs; simp [-List.map_set, set_vnat, set_vnat1, set_vint, set_bool, h7']) ?_
      refine vseg_done ?_
      repeat (first | refine vw_seqAt rfl ?_ | refine vw_scopeAt rfl ?_ | refine vw_labelAt rfl ?_ | refine vw_skipAt rfl ?_ | refine vw_exitAt _ rfl rfl ?_ | refine vw_retAt rfl ?_ | (refine vw_condT rfl rfl ?_ ?_; focus (simp [ev, Fr.look]; done)) | (refine vw_condF rfl rfl ?_ ?_; focus (simp [ev, Fr.look]; done)) | refine vw_blockAt _ rfl rfl ?_ | (apply vw_regionRun; (focus rfl); (focus ((conv => lhs; reduce); done)); (focus ((conv => lhs; simp [-List.map_set, set_vnat, set_vnat1, set_vint, set_bool]); done)); refine vseg_done ?_) | (apply vw_drawPlain; (focus rfl); (focus kernel_rfl); (focus ((conv => lhs; reduce); done)); (focus ((conv => lhs; reduce); done)); (focus (kernel_rfl)); (focus ((conv => lhs; simp [-List.map_set, set_vnat, set_vnat1, set_vint, set_bool]); done)); refine vseg_done ?_))
      exact done_pure hwf (by simp [← hZ, h7']) rfl
    have hnv2 := hnvv h7
    subst hnv2
    rw [h7, Bool.true_and] at hZ
    have hright : G.right (Ss.succs bs) = true := by
      have := hso.trans h7
      simp only [Ss.shapeOk, Bool.and_eq_true] at this
      exact this.1.1.1.1
    have hto := Ss.right_to (f := ⟨⟨fi, fo⟩, ts, bs⟩) hright
    simp only at hto
    have hnl := G.nearI_len (Ss.succs bs)
    generalize hnr : G.nearI (Ss.succs bs) = near at *
    refine vseg_more (by conv => lhs; simp [-List.map_set, set_vnat, set_vnat1, set_vint, set_bool, h7]) ?_
    refine vseg_done ?_
    apply vw_reach
    · exact Reach.frzCellS (enc := encDef) (s := 3) (fun _ => rfl) encDef_closed (k := 2) (j := 3) (i := 9) ds (by decide) (by simp) (by simp) (by rfl) (by rw [hdl]; rfl) (by rfl)
    simp only [List.set_cons_succ, List.set_cons_zero]
    refine vw_ghost' 5 rfl ((refSt (k := 2) (by simp) (by rfl) (by rfl) (by simp))) (by conv => lhs; simp [Fr.set]) ?_
    simp only [List.set_cons_succ, List.set_cons_zero]
    repeat (first | refine vw_seqAt rfl ?_ | refine vw_scopeAt rfl ?_ | refine vw_labelAt rfl ?_ | refine vw_skipAt rfl ?_ | refine vw_exitAt _ rfl rfl ?_ | refine vw_retAt rfl ?_ | (refine vw_condT rfl rfl ?_ ?_; focus (simp [ev, Fr.look]; done)) | (refine vw_condF rfl rfl ?_ ?_; focus (simp [ev, Fr.look]; done)) | refine vw_blockAt _ rfl rfl ?_ | (apply vw_regionRun; (focus rfl); (focus ((conv => lhs; reduce); done)); (focus ((conv => lhs; simp [-List.map_set, set_vnat, set_vnat1, set_vint, set_bool]); done)); refine vseg_done ?_) | (apply vw_drawPlain; (focus rfl); (focus kernel_rfl); (focus ((conv => lhs; reduce); done)); (focus ((conv => lhs; reduce); done)); (focus (kernel_rfl)); (focus ((conv => lhs; simp [-List.map_set, set_vnat, set_vnat1, set_vint, set_bool]); done)); refine vseg_done ?_))
    refine vw_only' [5, 54, 55, 56] (by conv => lhs; simp [Fr.only, Fr.look]) ?_
    refine vw_gc [] hwf (by decide) (by simp [-List.map_set]) (by conv => lhs; simp [-List.map_set]) (by conv => lhs; simp [-List.map_set]) (by conv => lhs; simp [-List.map_set]) ?_
    have ci : ∀ (i k : Nat) (b : Ss.Block) (x : Ss.Ins), b ∈ bs → x ∈ b.code → VPure Try.prog 36 [ckV ⟨sg, im, gl, mu, me⟩ ⟨⟨fi, fo⟩, ts, bs⟩ ds near, vnat i, vnat k, encIns x] (.bool (Ss.insOk ⟨sg, im, gl, mu, me⟩ ⟨⟨fi, fo⟩, ts, bs⟩ ds near i k x)) := by
      intro i k b x hb hx
      have hbF := hf.2.2.2 b hb
      have hxF := hbF.2.1.2 x hx
      have hsmb := ((Ss.small_iff _).1 (hsm.trans h2)).2.1 b hb
      simp only [Ss.Block.small, Bool.and_eq_true, List.all_eq_true, Ss.Ins.small, decide_eq_true_eq] at hsmb
      have hxl := (hsmb.1.2 x hx).2
      exact ins_v ⟨sg, im, gl, mu, me⟩ ⟨⟨fi, fo⟩, ts, bs⟩ ds near i k x hsl hgl (her h1) hdl (by simp only; omega) (by omega) hxF (by omega) ((hdin b hb).2 x hx)
    have ctm : ∀ (i : Nat) (b : Ss.Block), b ∈ bs → VPure Try.prog 37 [ckV ⟨sg, im, gl, mu, me⟩ ⟨⟨fi, fo⟩, ts, bs⟩ ds near, vnat i, encBlock b] (.bool (Ss.termOk ⟨⟨fi, fo⟩, ts, bs⟩ ds near i b)) := fun i b hb =>
      term_v ⟨sg, im, gl, mu, me⟩ ⟨⟨fi, fo⟩, ts, bs⟩ ds near i b hdl (by simp only; omega) (by omega) (by simp only; omega) (by have := hf.1.2.1; simp only at this ⊢; omega) (hf.2.2.2 b hb) (hto b hb) (fun b hb => ⟨by have := (hsf b hb).1; omega, (hdin b hb).1⟩)
    repeat refine vw_seqAt rfl ?_
    refine vw_loopAt [5, 54, 55, 56] rfl (fun c σ S' => ∃ (k : Nat), k ≤ bs.length ∧ c = bs.length - k ∧ Ss.checkBlocks ⟨sg, im, gl, mu, me⟩ ⟨⟨fi, fo⟩, ts, bs⟩ ds near k (bs.drop k) = Z ∧ σ = [(5, ckV ⟨sg, im, gl, mu, me⟩ ⟨⟨fi, fo⟩, ts, bs⟩ ds near), (54, vl encBlock bs), (55, vnat bs.length), (56, vnat k)] ∧ S' = St S [] []) bs.length ?_ ?_
    · exact ⟨0, by omega, rfl, hZ, by simp [Fr.only], rfl⟩
    · rintro c σ T ⟨k, hk, rfl, hcb, rfl, rfl⟩
      by_cases hkt : k < bs.length
      · have hw := wrapNat hkt (by omega)
        have hst := checkBlocks_one (e := ⟨sg, im, gl, mu, me⟩) (f := ⟨⟨fi, fo⟩, ts, bs⟩) (ds := ds) (near := near) hkt
        have hmem := List.getElem_mem hkt
        have hcl := (hsf _ hmem).2.2.2
        have cti := ctm k _ hmem
        have cii := fun j x => ci k j _ x hmem
        obtain ⟨⟨ps, code, ⟨tk, ta, to, az⟩⟩, hx⟩ : ∃ b, bs[k] = b := ⟨_, rfl⟩
        rw [hx] at hst hcl cti cii
        simp only at hst hcl cii
        rw [hst] at hcb
        generalize Ss.termOk ⟨⟨fi, fo⟩, ts, bs⟩ ds near k ⟨ps, code, ⟨tk, ta, to, az⟩⟩ = tm at *
        repeat (first | refine vw_seqAt rfl ?_ | refine vw_scopeAt rfl ?_ | refine vw_labelAt rfl ?_ | refine vw_skipAt rfl ?_ | refine vw_exitAt _ rfl rfl ?_ | refine vw_retAt rfl ?_ | (refine vw_condT rfl rfl ?_ ?_; focus (simp [ev, Fr.look]; done)) | (refine vw_condF rfl rfl ?_ ?_; focus (simp [ev, Fr.look]; done)) | refine vw_blockAt _ rfl rfl ?_ | (apply vw_regionRun; (focus rfl); (focus ((conv => lhs; reduce); done)); (focus ((conv => lhs; simp [-List.map_set, set_vnat, set_vnat1, set_vint, set_bool, hkt, hx]); done)); refine vseg_done ?_) | (apply vw_drawPlain; (focus rfl); (focus kernel_rfl); (focus ((conv => lhs; reduce); done)); (focus ((conv => lhs; reduce); done)); (focus (kernel_rfl)); (focus ((conv => lhs; simp [-List.map_set, set_vnat, set_vnat1, set_vint, set_bool, hkt, hx]); done)); refine vseg_done ?_))
        repeat refine vw_seqAt rfl ?_
        refine vw_loopAt [5, 6, 7, 54, 55, 56, 62, 63, 64] rfl (fun c σ S' => ∃ (j : Nat), j ≤ code.length ∧ c = code.length - j ∧ Ss.checkCode ⟨sg, im, gl, mu, me⟩ ⟨⟨fi, fo⟩, ts, bs⟩ ds near k j (code.drop j) = Ss.checkCode ⟨sg, im, gl, mu, me⟩ ⟨⟨fi, fo⟩, ts, bs⟩ ds near k 0 code ∧ σ = [(5, ckV ⟨sg, im, gl, mu, me⟩ ⟨⟨fi, fo⟩, ts, bs⟩ ds near), (6, vnat k), (7, .ptr (lid S.nx 0) 0), (54, vl encBlock bs), (55, vnat bs.length), (56, vnat k), (62, vl encIns code), (63, vnat code.length), (64, vnat j)] ∧ S' = St S [] [some (6, [vl vint ps, vl encIns code, .int .i64 tk, .int .i64 ta, vl encEdge to, vl vint az])]) code.length ?_ ?_
        · exact ⟨0, by omega, rfl, rfl, by simp [Fr.only], rfl⟩
        · rintro c σ T ⟨j, hj, rfl, hcc, rfl, rfl⟩
          by_cases hjt : j < code.length
          · have hwj := wrapNat hjt (by omega)
            have hsc := checkCode_one (e := ⟨sg, im, gl, mu, me⟩) (f := ⟨⟨fi, fo⟩, ts, bs⟩) (ds := ds) (near := near) (i := k) hjt
            have cij := cii j _ (List.getElem_mem hjt)
            obtain ⟨⟨xo, xn, xa, xu⟩, hx2⟩ : ∃ x, code[j] = x := ⟨_, rfl⟩
            rw [hx2] at hsc cij
            generalize Ss.insOk ⟨sg, im, gl, mu, me⟩ ⟨⟨fi, fo⟩, ts, bs⟩ ds near k j ⟨xo, xn, xa, xu⟩ = io at *
            have cij' : VPure Try.prog 36 [ckV ⟨sg, im, gl, mu, me⟩ ⟨⟨fi, fo⟩, ts, bs⟩ ds near, vnat k, vnat j, .agg [.int .i64 xo, .int .u64 xn, vl vint xa, vl vint xu]] (.bool io) := cij
            repeat (first | refine vw_seqAt rfl ?_ | refine vw_scopeAt rfl ?_ | refine vw_labelAt rfl ?_ | refine vw_skipAt rfl ?_ | refine vw_exitAt _ rfl rfl ?_ | refine vw_retAt rfl ?_ | (refine vw_condT rfl rfl ?_ ?_; focus (simp [ev, Fr.look]; done)) | (refine vw_condF rfl rfl ?_ ?_; focus (simp [ev, Fr.look]; done)) | refine vw_blockAt _ rfl rfl ?_ | (apply vw_regionRun; (focus rfl); (focus ((conv => lhs; reduce); done)); (focus ((conv => lhs; simp [-List.map_set, set_vnat, set_vnat1, set_vint, set_bool, hjt, hx2]); done)); refine vseg_done ?_) | (apply vw_drawPlain; (focus rfl); (focus kernel_rfl); (focus ((conv => lhs; reduce); done)); (focus ((conv => lhs; reduce); done)); (focus (kernel_rfl)); (focus ((conv => lhs; simp [-List.map_set, set_vnat, set_vnat1, set_vint, set_bool, hjt, hx2]); done)); refine vseg_done ?_))
            repeat refine vw_seqAt rfl ?_
            refine vw_regionRun rfl (by conv => lhs; reduce) (by conv => lhs; simp [-List.map_set, set_vnat, set_vnat1, set_vint, set_bool, hjt, hx2]) ?_
            refine vcall_useH (cij') (by rfl) ?_
            by_cases hio : io = true
            · refine vseg_more (by conv => lhs; simp [-List.map_set, set_vnat, set_vnat1, set_vint, set_bool, hio]) ?_
              refine vseg_done ?_
              repeat (first | refine vw_seqAt rfl ?_ | refine vw_scopeAt rfl ?_ | refine vw_labelAt rfl ?_ | refine vw_skipAt rfl ?_ | refine vw_exitAt _ rfl rfl ?_ | refine vw_retAt rfl ?_ | (refine vw_condT rfl rfl ?_ ?_; focus (simp [ev, Fr.look]; done)) | (refine vw_condF rfl rfl ?_ ?_; focus (simp [ev, Fr.look]; done)) | refine vw_blockAt _ rfl rfl ?_ | (apply vw_regionRun; (focus rfl); (focus ((conv => lhs; reduce); done)); (focus ((conv => lhs; simp [-List.map_set, set_vnat, set_vnat1, set_vint, set_bool]); done)); refine vseg_done ?_) | (apply vw_drawPlain; (focus rfl); (focus kernel_rfl); (focus ((conv => lhs; reduce); done)); (focus ((conv => lhs; reduce); done)); (focus (kernel_rfl)); (focus ((conv => lhs; simp [-List.map_set, set_vnat, set_vnat1, set_vint, set_bool]); done)); refine vseg_done ?_))
              refine again_gc [0] (by conv => lhs; simp [Fr.only]) hwf (by decide) (by simp [-List.map_set]) (by conv => lhs; simp [-List.map_set]) (by conv => lhs; simp [-List.map_set]) (by conv => lhs; simp [-List.map_set]) ⟨?_, j + 1, hjt, rfl, by rw [← hcc, hsc, hio, Bool.true_and], by simp [hwj], rfl⟩
              omega
            · have hio' : io = false := by simpa using hio
              refine vseg_more (by conv => lhs; simp [-List.map_set, set_vnat, set_vnat1, set_vint, set_bool, hio']) ?_
              refine vseg_done ?_
              repeat (first | refine vw_seqAt rfl ?_ | refine vw_scopeAt rfl ?_ | refine vw_labelAt rfl ?_ | refine vw_skipAt rfl ?_ | refine vw_exitAt _ rfl rfl ?_ | refine vw_retAt rfl ?_ | (refine vw_condT rfl rfl ?_ ?_; focus (simp [ev, Fr.look]; done)) | (refine vw_condF rfl rfl ?_ ?_; focus (simp [ev, Fr.look]; done)) | refine vw_blockAt _ rfl rfl ?_ | (apply vw_regionRun; (focus rfl); (focus ((conv => lhs; reduce); done)); (focus ((conv => lhs; simp [-List.map_set, set_vnat, set_vnat1, set_vint, set_bool]); done)); refine vseg_done ?_) | (apply vw_drawPlain; (focus rfl); (focus kernel_rfl); (focus ((conv => lhs; reduce); done)); (focus ((conv => lhs; reduce); done)); (focus (kernel_rfl)); (focus ((conv => lhs; simp [-List.map_set, set_vnat, set_vnat1, set_vint, set_bool]); done)); refine vseg_done ?_))
              exact done_pure hwf (by rw [← hcb, ← hcc, hsc, hio']; simp) rfl
          · have e1 : code.drop j = [] := by rw [List.drop_eq_nil_iff]; omega
            rw [e1, Ss.checkCode] at hcc
            rw [← hcc, Bool.true_and] at hcb
            have cti' : VPure Try.prog 37 [ckV ⟨sg, im, gl, mu, me⟩ ⟨⟨fi, fo⟩, ts, bs⟩ ds near, vnat k, .agg [vl vint ps, vl encIns code, .int .i64 tk, .int .i64 ta, vl encEdge to, vl vint az]] (.bool tm) := cti
            repeat (first | refine vw_seqAt rfl ?_ | refine vw_scopeAt rfl ?_ | refine vw_labelAt rfl ?_ | refine vw_skipAt rfl ?_ | refine vw_exitAt _ rfl rfl ?_ | refine vw_retAt rfl ?_ | (refine vw_condT rfl rfl ?_ ?_; focus (simp [ev, Fr.look]; done)) | (refine vw_condF rfl rfl ?_ ?_; focus (simp [ev, Fr.look]; done)) | refine vw_blockAt _ rfl rfl ?_ | (apply vw_regionRun; (focus rfl); (focus ((conv => lhs; reduce); done)); (focus ((conv => lhs; simp [-List.map_set, set_vnat, set_vnat1, set_vint, set_bool, hjt]); done)); refine vseg_done ?_) | (apply vw_drawPlain; (focus rfl); (focus kernel_rfl); (focus ((conv => lhs; reduce); done)); (focus ((conv => lhs; reduce); done)); (focus (kernel_rfl)); (focus ((conv => lhs; simp [-List.map_set, set_vnat, set_vnat1, set_vint, set_bool, hjt]); done)); refine vseg_done ?_))
            repeat refine vw_seqAt rfl ?_
            refine vw_regionRun rfl (by conv => lhs; reduce) (by conv => lhs; simp [-List.map_set, set_vnat, set_vnat1, set_vint, set_bool, hjt]) ?_
            refine vcall_useH (cti') (by rfl) ?_
            by_cases htm : tm = true
            · refine vseg_more (by conv => lhs; simp [-List.map_set, set_vnat, set_vnat1, set_vint, set_bool, htm]) ?_
              refine vseg_done ?_
              repeat (first | refine vw_seqAt rfl ?_ | refine vw_scopeAt rfl ?_ | refine vw_labelAt rfl ?_ | refine vw_skipAt rfl ?_ | refine vw_exitAt _ rfl rfl ?_ | refine vw_retAt rfl ?_ | (refine vw_condT rfl rfl ?_ ?_; focus (simp [ev, Fr.look]; done)) | (refine vw_condF rfl rfl ?_ ?_; focus (simp [ev, Fr.look]; done)) | refine vw_blockAt _ rfl rfl ?_ | (apply vw_regionRun; (focus rfl); (focus ((conv => lhs; reduce); done)); (focus ((conv => lhs; simp [-List.map_set, set_vnat, set_vnat1, set_vint, set_bool]); done)); refine vseg_done ?_) | (apply vw_drawPlain; (focus rfl); (focus kernel_rfl); (focus ((conv => lhs; reduce); done)); (focus ((conv => lhs; reduce); done)); (focus (kernel_rfl)); (focus ((conv => lhs; simp [-List.map_set, set_vnat, set_vnat1, set_vint, set_bool]); done)); refine vseg_done ?_))
              refine again_gc [] (by conv => lhs; simp [Fr.only]) hwf (by decide) (by simp [-List.map_set]) (by conv => lhs; simp [-List.map_set]) (by conv => lhs; simp [-List.map_set]) (by conv => lhs; simp [-List.map_set]) ⟨?_, k + 1, hkt, rfl, by rw [← hcb, htm, Bool.true_and], by simp [hw], rfl⟩
              omega
            · have htm' : tm = false := by simpa using htm
              refine vseg_more (by conv => lhs; simp [-List.map_set, set_vnat, set_vnat1, set_vint, set_bool, htm']) ?_
              refine vseg_done ?_
              repeat (first | refine vw_seqAt rfl ?_ | refine vw_scopeAt rfl ?_ | refine vw_labelAt rfl ?_ | refine vw_skipAt rfl ?_ | refine vw_exitAt _ rfl rfl ?_ | refine vw_retAt rfl ?_ | (refine vw_condT rfl rfl ?_ ?_; focus (simp [ev, Fr.look]; done)) | (refine vw_condF rfl rfl ?_ ?_; focus (simp [ev, Fr.look]; done)) | refine vw_blockAt _ rfl rfl ?_ | (apply vw_regionRun; (focus rfl); (focus ((conv => lhs; reduce); done)); (focus ((conv => lhs; simp [-List.map_set, set_vnat, set_vnat1, set_vint, set_bool]); done)); refine vseg_done ?_) | (apply vw_drawPlain; (focus rfl); (focus kernel_rfl); (focus ((conv => lhs; reduce); done)); (focus ((conv => lhs; reduce); done)); (focus (kernel_rfl)); (focus ((conv => lhs; simp [-List.map_set, set_vnat, set_vnat1, set_vint, set_bool]); done)); refine vseg_done ?_))
              exact done_pure hwf (by rw [← hcb, htm']; simp) rfl
      · have e1 : bs.drop k = [] := by rw [List.drop_eq_nil_iff]; omega
        rw [e1, Ss.checkBlocks] at hcb
        repeat (first | refine vw_seqAt rfl ?_ | refine vw_scopeAt rfl ?_ | refine vw_labelAt rfl ?_ | refine vw_skipAt rfl ?_ | refine vw_exitAt _ rfl rfl ?_ | refine vw_retAt rfl ?_ | (refine vw_condT rfl rfl ?_ ?_; focus (simp [ev, Fr.look]; done)) | (refine vw_condF rfl rfl ?_ ?_; focus (simp [ev, Fr.look]; done)) | refine vw_blockAt _ rfl rfl ?_ | (apply vw_regionRun; (focus rfl); (focus ((conv => lhs; reduce); done)); (focus ((conv => lhs; simp [-List.map_set, set_vnat, set_vnat1, set_vint, set_bool, hkt]); done)); refine vseg_done ?_) | (apply vw_drawPlain; (focus rfl); (focus kernel_rfl); (focus ((conv => lhs; reduce); done)); (focus ((conv => lhs; reduce); done)); (focus (kernel_rfl)); (focus ((conv => lhs; simp [-List.map_set, set_vnat, set_vnat1, set_vint, set_bool, hkt]); done)); refine vseg_done ?_))
        exact done_pure hwf (by simp [← hcb]) rfl
end Go.Vw
