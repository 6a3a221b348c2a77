import Derived.Test.YtmfpoangempgaaaC29
import Derived.Test.YtmfpoangempgaaaC28
import Derived.Test.YtmfpoangempgaaaC21
import Derived.Test.YtmfpoangempgaaaC15
import Derived.Test.YtmfpoangempgaaaC16
import Derived.Test.YtmfpoangempgaaaC30
/-
  Part of the proof (texts SCut, SChk2, SBlk, SSame2, SAlive).
-/
set_option linter.unusedVariables false
set_option linter.unusedSimpArgs false
namespace Ss
/-- A function without an instruction. -/
def cutB (b : Block) (k : Nat) : Block := ⟨b.params, b.code.take k ++ b.code.drop (k + 1), b.term⟩
def cut (f : Fn) (i k : Nat) : Fn := ⟨f.sig, f.types, f.blocks.set i (cutB (f.blocks.getD i default) k)⟩
end Ss
namespace Go.Vw
open Go.Proofs Go.RowKit
set_option maxRecDepth 10000
set_option maxHeartbeats 2000000

/-- One of the blocks of a copy. -/
theorem blk_split {T : Store} {bs : List Ss.Block} {cells : List V} {ids : List Nat} {n i : Nat} (h : OwL T (reps n blkT) cells (flatC encBlock bs) ids) (hn : bs.length = n) (hi : i < n) {b : Ss.Block} (hb : bs[i]? = some b) :
    ∃ (c1 c2 : List V) (oc : Nat) (i1 i2 : List Nat), cells = c1 ++ ([vl vint b.params, .slice oc 0 b.code.length, vint b.term.kind, vint b.term.arg, vl encEdge b.term.to, vl vint b.term.args] ++ c2) ∧ c1.length = i * 6 ∧ ids = i1 ++ oc :: i2 ∧ T.get oc = some (4, flatC encIns b.code) ∧
      OwL T (reps i blkT) c1 (flatC encBlock (bs.take i)) i1 ∧ OwL T (reps (n - i - 1) blkT) c2 (flatC encBlock (bs.drop (i + 1))) i2 := by
  have e1 : reps n blkT = reps i blkT ++ (blkT ++ reps (n - i - 1) blkT) := by
    rw [← reps_succ, ← reps_add]; congr 1; omega
  have e2 : flatC encBlock bs = flatC encBlock (bs.take i) ++ ((encBlock b).cells ++ flatC encBlock (bs.drop (i + 1))) := by
    have hlt : i < bs.length := by omega
    have : bs = bs.take i ++ b :: bs.drop (i + 1) := by
      have hbi : bs[i] = b := by rw [List.getElem?_eq_getElem hlt] at hb; exact Option.some.inj hb
      rw [← hbi, List.getElem_cons_drop, List.take_append_drop]
    conv => lhs; rw [this]
    simp [flatC]
  rw [e1, e2] at h
  obtain ⟨r1, r2, x1, x2, i1, i2, rfl, hx, rfl, k1, k2⟩ := h.split
  have hl1 : (flatC encBlock (bs.take i)).length = x1.length := by
    rw [flatC_len (s := 6) (fun _ => by rw [encBlock_cells]; rfl), k1.len.2, reps_len, List.length_take]
    show min i bs.length * 6 = i * 6
    rw [Nat.min_eq_left (by omega)]
  obtain ⟨rfl, rfl⟩ := List.append_inj hx hl1
  obtain ⟨r3, r4, x3, x4, i3, i4, rfl, hx2, rfl, k3, k4⟩ := k2.split
  have hl2 : (encBlock b).cells.length = x3.length := by rw [encBlock_cells, k3.len.2]; rfl
  obtain ⟨rfl, rfl⟩ := List.append_inj hx2 hl2
  rw [encBlock_cells] at k3
  cases k3 with
  | c hp k3 =>
    generalize hL : vl encIns b.code = L at k3
    cases k3 with
    | @s _ _ _ _ cells' ys ii jj oc ho hs d t =>
    have hy : ys = b.code.map encIns := by
      have : V.list (b.code.map encIns) = V.list ys := hL
      exact (V.list.inj this).symm
    subst hy
    cases t with
    | c _ t => cases t with
      | c _ t => cases t with
        | c _ t => cases t with
          | c _ t => cases t with
            | nil =>
              have hd : cells' = flatC encIns b.code ∧ ii = [] := by
                rw [List.length_map, flatC_map, reps_c] at d
                exact own_closed d
              obtain ⟨rfl, rfl⟩ := hd
              refine ⟨r1, r4, oc, i1, i4, ?_, ?_, ?_, ?_, k1, k4⟩
              · simp
              · rw [k1.len.1, reps_len]; rfl
              · simp
              · rw [ho]; rfl
theorem opAppend_cut {S : Store} {oc j : Nat} {code : List Ss.Ins} (ho : S.get oc = some (4, flatC encIns code)) (hj : j < code.length) (hl : code.length ≤ 4096) :
    opAppend 4 64 S (.slice oc 0 j) (.slice oc ((j + 1) * 4) (code.length - (j + 1))) = some (.slice S.nx 0 (j + (code.length - (j + 1))), (S.del oc).add (4, flatC encIns (code.take j ++ code.drop (j + 1)))) := by
  have hfl : ∀ l : List Ss.Ins, (flatC encIns l).length = l.length * 4 := fun l => flatC_len (fun _ => by rw [encIns_cells]; rfl) l
  have hA : ∀ n, n ≤ code.length → (flatC encIns code).take (n * 4) = flatC encIns (code.take n) ∧ (flatC encIns code).drop (n * 4) = flatC encIns (code.drop n) := by
    intro n hn
    have e : flatC encIns code = flatC encIns (code.take n) ++ flatC encIns (code.drop n) := by
      rw [flatC, flatC, flatC, ← List.flatMap_append, List.take_append_drop]
    have hln : (flatC encIns (code.take n)).length = n * 4 := by rw [hfl, List.length_take, Nat.min_eq_left hn]
    constructor
    · rw [e, ← hln, List.take_left']; rfl
    · rw [e, ← hln, List.drop_left']; rfl
  have e1 : srcCells 4 S (.slice oc ((j + 1) * 4) (code.length - (j + 1))) = some (flatC encIns (code.drop (j + 1)), code.length - (j + 1)) := by
    have hlt : (flatC encIns (code.drop (j + 1))).length = (code.length - (j + 1)) * 4 := by rw [hfl, List.length_drop]
    simp only [srcCells, ho, hfl]
    rw [if_pos (by omega), (hA (j + 1) (by omega)).2, ← hlt, List.take_length]
  simp only [opAppend, e1, ho, hfl]
  rw [if_pos ⟨trivial, by omega, by omega, by omega⟩, List.drop_zero, (hA j (by omega)).1]
  rw [flatC, flatC, flatC, List.flatMap_append]
theorem opSlice_own3 {S : Store} {o off len h s : Nat} {c : Nat × List V} {k : IntKind} (ho : S.get o = some c) (hs : c.1 = s) (hl : h ≤ len) : opSlice s S (.slice o off len) none (some (.int k (h : Int))) (some (.int k (h : Int))) = some (.slice o off h) := by
  simp [opSlice, boundOf, ho, hs, hl]
theorem blk_join {T : Store} {bs : List Ss.Block} {c1 c2 : List V} {i1 i2 : List Nat} {n i oc : Nat} {b : Ss.Block} (h1 : OwL T (reps i blkT) c1 (flatC encBlock (bs.take i)) i1) (h2 : OwL T (reps (n - i - 1) blkT) c2 (flatC encBlock (bs.drop (i + 1))) i2) (hn : bs.length = n) (hi : i < n) (ho : T.get oc = some (4, flatC encIns b.code)) :
    OwL T (reps n blkT) (c1 ++ ([vl vint b.params, .slice oc 0 b.code.length, vint b.term.kind, vint b.term.arg, vl encEdge b.term.to, vl vint b.term.args] ++ c2)) (flatC encBlock (bs.set i b)) (i1 ++ oc :: i2) := by
  have e1 : reps n blkT = reps i blkT ++ (blkT ++ reps (n - i - 1) blkT) := by
    rw [← reps_succ, ← reps_add]; congr 1; omega
  have e2 : flatC encBlock (bs.set i b) = flatC encBlock (bs.take i) ++ ((encBlock b).cells ++ flatC encBlock (bs.drop (i + 1))) := by
    rw [List.set_eq_take_append_cons_drop, if_pos (by omega)]
    simp [flatC]
  rw [e1, e2, encBlock_cells]
  refine h1.append (OwL.append (i := [oc]) ?_ h2)
  exact .c rfl (OwL.slice (fun _ => by rw [encIns_cells]; rfl) encIns_closed b.code ho (.c rfl (.c rfl (.c rfl (.c rfl .nil)))))
theorem fn_ghost {S : Store} {fi fo ts : List Int} {bs : List Ss.Block} {cells : List V} {ob n : Nat} {ids : List Nat} (h : OwL S (reps n blkT) cells (flatC encBlock bs) ids) (hb : S.get ob = some (6, cells)) (hn : bs.length = n) (hd : (ob :: ids).Nodup) :
    Ghost (.agg [vl vint fi, vl vint fo, vl vint ts, .slice ob 0 n]) S (.agg [vl vint fi, vl vint fo, vl vint ts, vl encBlock bs]) (S.dels (ob :: ids)) := by
  subst hn
  refine ghost_agg ?_
  have hw : OwL S fnT [vl vint fi, vl vint fo, vl vint ts, .slice ob 0 bs.length] [vl vint fi, vl vint fo, vl vint ts, vl encBlock bs] (ob :: ids) := by
    refine .c rfl (.c rfl (.c rfl ?_))
    have := OwL.s (S := S) (o := ob) (tys := blkT) (cells := cells) (ys := bs.map encBlock) (i := ids) (j := []) hb (fun y hy => (by
      obtain ⟨b, _, rfl⟩ := List.mem_map.1 hy
      exact ⟨by rw [encBlock_cells]; rfl, encBlock_closed b⟩)) (by rw [List.length_map, flatC_map]; exact h) .nil
    rw [List.length_map, List.append_nil] at this
    exact this
  exact hw.freeze hd S fun _ _ => rfl
end Go.Vw

namespace Go.Vw
open Go.Proofs Go.RowKit
set_option maxRecDepth 10000
set_option maxHeartbeats 8000000

theorem Check_v (e : Ss.Env) (f : Ss.Fn) (he : e.Fits) (hf : f.Fits) : VPure Try.prog 11 [encEnv e, encFn f] (.bool (Ss.check e f)) := by
  intro S
  have cer := EnvRight_v e he
  have csm := small_v f hf
  have hsb := @small_blocks f
  have ckt : VPure Try.prog 30 [.int .i64 2048, vl vint f.types] (.bool (Ss.kinds 2048 f.types)) := kinds_v 2048 f.types (by have := hf.2.1.1; omega)
  have csr := sigRight_v f.sig hf.1
  have cpa := AnyB_v f.blocks (fun b => decide (256 < b.params.length)) 33 [] rfl (by have := hf.2.2.1; omega) (fun b _ => check1_v b)
  have hpa : (f.blocks.all fun b => decide (b.params.length ≤ 256)) = !(f.blocks.any fun b => decide (256 < b.params.length)) := by
    rw [List.not_any_eq_all_not]; congr 1; funext b; by_cases h : b.params.length ≤ 256 <;> simp [h] <;> omega
  have hH : Ss.checkHead e f = (e.right && f.small && decide (f.blocks.length ≤ 256) && Ss.kinds 2048 f.types && f.sig.right && !(f.blocks.any fun b => decide (256 < b.params.length))) := by rw [← hpa]; rfl
  have hX : Ss.check e f = (Ss.checkHead e f && match Ss.defsOf f with
    | none => false
    | some ds => Ss.shapeOk f && Ss.checkBlocks e f ds (G.nearI (Ss.succs f.blocks)) 0 f.blocks) := rfl
  have hks : Ss.kinds 2048 f.types = true → f.types.length ≤ 2048 := by
    intro h; simp only [Ss.kinds, Bool.and_eq_true, decide_eq_true_eq] at h; exact h.1
  have her : e.right = true → e.muts.length = e.globals.length := by
    intro h; simp only [Ss.Env.right, Bool.and_eq_true, decide_eq_true_eq] at h; exact h.1.1.2
  rw [hX, hH]
  generalize (f.blocks.any fun b => decide (256 < b.params.length)) = pa at *
  generalize e.right = er at *
  generalize hsm : f.small = sm at *
  generalize Ss.kinds 2048 f.types = kt at *
  generalize f.sig.right = sr at *
  have hsl := he.1.1
  have hgl := he.2.2.1.1
  obtain ⟨sg, im, gl, mu, me⟩ := e
  obtain ⟨⟨fi, fo⟩, ts, bs⟩ := f
  simp only at *
  have cer' : VPure Try.prog 29 [.agg [vl encSig sg, .int .i64 im, vl vint gl, vl V.bool mu, .bool me]] (.bool er) := cer
  have csm' : VPure Try.prog 16 [.agg [vl vint fi, vl vint fo, vl vint ts, vl encBlock bs]] (.bool sm) := csm
  have csr' : VPure Try.prog 31 [.agg [vl vint fi, vl vint fo]] (.bool sr) := csr
  generalize hZ : (match Ss.defsOf ⟨⟨fi, fo⟩, ts, bs⟩ with
    | none => false
    | some ds => Ss.shapeOk ⟨⟨fi, fo⟩, ts, bs⟩ && Ss.checkBlocks ⟨sg, im, gl, mu, me⟩ ⟨⟨fi, fo⟩, ts, bs⟩ ds (G.nearI (Ss.succs bs)) 0 bs) = Z
  refine vcalls_start (c := bodyOf Try.f11) Try.func11 rfl rfl (by simp [Try.ntmps11]) ?_
  rw [Try.ntmps11]
  intro hwf
  repeat (first|refine QG ?_|refine QX (r:=by conv=>lhs;simp[-List.map_set,QV]) (k:=?_))
  repeat refine QS ?_
  refine QR (r:=by conv=>lhs;simp[-List.map_set,QV]) (k:=?_)
  refine vcall_useH (cer') (by rfl) ?_
  by_cases h1 : er = true
  case neg =>
    have h1' : er = false := by simpa using h1
    refine QM (by conv=>lhs;simp[-List.map_set,QV,h1']) ?_
    refine QN ?_
    repeat (first|refine QG ?_|refine QX (r:=by conv=>lhs;simp[-List.map_set,QV]) (k:=?_))
    exact done_pure hwf (by simp [h1']) rfl
  refine QM (by conv=>lhs;simp[-List.map_set,QV,h1]) ?_
  refine vcall_useH (csm') (by rfl) ?_
  by_cases h2 : sm = true
  case neg =>
    have h2' : sm = false := by simpa using h2
    refine QM (by conv=>lhs;simp[-List.map_set,QV,h2']) ?_
    refine QN ?_
    repeat (first|refine QG ?_|refine QX (r:=by conv=>lhs;simp[-List.map_set,QV]) (k:=?_))
    exact done_pure hwf (by simp [h2']) rfl
  by_cases h3 : (256 : Int) < (bs.length : Int)
  · refine QM (by conv=>lhs;simp[-List.map_set,QV,h2,h3]) ?_
    refine QN ?_
    repeat (first|refine QG ?_|refine QX (r:=by conv=>lhs;simp[-List.map_set,QV]) (k:=?_))
    exact done_pure hwf (by rw [show decide (bs.length ≤ 256) = false by simp; omega]; simp) rfl
  have h3' : bs.length ≤ 256 := by omega
  refine QM (by conv=>lhs;simp[-List.map_set,QV,h2,h3]) ?_
  refine vcall_useH (ckt) (by rfl) ?_
  by_cases h4 : kt = true
  case neg =>
    have h4' : kt = false := by simpa using h4
    refine QM (by conv=>lhs;simp[-List.map_set,QV,h4']) ?_
    refine QN ?_
    repeat (first|refine QG ?_|refine QX (r:=by conv=>lhs;simp[-List.map_set,QV]) (k:=?_))
    exact done_pure hwf (by simp [h4']) rfl
  refine QM (by conv=>lhs;simp[-List.map_set,QV,h4]) ?_
  refine vcall_useH (csr') (by rfl) ?_
  by_cases h5 : sr = true
  case neg =>
    have h5' : sr = false := by simpa using h5
    refine QM (by conv=>lhs;simp[-List.map_set,QV,h5']) ?_
    refine QN ?_
    repeat (first|refine QG ?_|refine QX (r:=by conv=>lhs;simp[-List.map_set,QV]) (k:=?_))
    exact done_pure hwf (by simp [h5']) rfl
  rw [h1, h2, h4, h5, decide_eq_true h3']
  simp only [Bool.true_and]
  have htl := hks h4
  obtain ⟨_, _, hsf, _⟩ := hsb h2
  refine QM (by conv=>lhs;simp[-List.map_set,QV,h5]) ?_
  refine QN ?_
  repeat (first|refine QG ?_|refine QX (r:=by conv=>lhs;simp[-List.map_set,QV]) (k:=?_))
  repeat refine QS ?_
  refine QR (r:=by conv=>lhs;simp[-List.map_set,QV]) (k:=?_)
  refine vcall_useH (cpa) (by rfl) ?_
  by_cases h6 : pa = true
  · refine QM (by conv=>lhs;simp[-List.map_set,QV,h6]) ?_
    refine QN ?_
    repeat (first|refine QG ?_|refine QX (r:=by conv=>lhs;simp[-List.map_set,QV]) (k:=?_))
    exact done_pure hwf (by simp [h6]) rfl
  have h6' : pa = false := by simpa using h6
  rw [h6']
  simp only [Bool.not_false, Bool.true_and]
  refine QM (by conv=>lhs;simp[-List.map_set,QV,h6']) ?_
  refine vcall_any rfl (define_v _ ⟨sg, im, gl, mu, me⟩ ⟨⟨fi, fo⟩, ts, bs⟩ (lid S.nx 2) hf (by simp only; omega) (by simp)) ?_
  rintro X S' ⟨ds, hdl, rfl, hdd, rfl⟩
  rw [St_St (by rw [St_nx]; simp [lid]), St_upd (by simp), St_add, St_nx, lid_lid]
  simp only [List.set_cons_succ, List.set_cons_zero, List.cons_append, List.nil_append, List.length_cons, List.length_nil, Nat.zero_add, Nat.add_zero]
  cases hdf : Ss.defsOf ⟨⟨fi, fo⟩, ts, bs⟩ with
  | none =>
    rw [hdf] at hZ
    simp only at hZ
    obtain ⟨z, hz⟩ : ∃ z, (none : Option (List Ss.Def)).isSome = z := ⟨_, rfl⟩
    have hz' : z = false := by rw [← hz]; rfl
    rw [hz]
    refine QM (by conv=>lhs;simp[-List.map_set,QV,hz']) ?_
    refine QN ?_
    repeat (first|refine QG ?_|refine QX (r:=by conv=>lhs;simp[-List.map_set,QV]) (k:=?_))
    exact done_pure hwf (by simp [← hZ]) rfl
  | some ds2 =>
    obtain rfl := hdd _ hdf
    rw [hdf] at hZ
    simp only at hZ
    obtain ⟨hdl2, hdin⟩ := Ss.defs_in hdf
    simp only at hdin
    obtain ⟨z, hz⟩ : ∃ z, (some ds : Option (List Ss.Def)).isSome = z := ⟨_, rfl⟩
    have hz' : z = true := by rw [← hz]; rfl
    rw [hz]
    refine QM (by conv=>lhs;simp[-List.map_set,QV,hz']) ?_
    refine vcall_any rfl (shape_v _ ⟨sg, im, gl, mu, me⟩ ⟨⟨fi, fo⟩, ts, bs⟩ (lid S.nx 2) (lid S.nx 3) hf (hsm.trans h2) (by simp [hdl]) (by simp [lid]) (fun b hb => (hdin b hb).1)) ?_
    rintro X S' ⟨nv, hnv, rfl, hnvv, rfl⟩
    rw [St_upd (by simp)]
    simp only [List.set_cons_succ, List.set_cons_zero]
    generalize hso : Ss.shapeOk ⟨⟨fi, fo⟩, ts, bs⟩ = so at *
    by_cases h7 : so = true
    case neg =>
      have h7' : so = false := by simpa using h7
      refine QM (by conv=>lhs;simp[-List.map_set,QV,h7']) ?_
      refine QN ?_
      repeat (first|refine QG ?_|refine QX (r:=by conv=>lhs;simp[-List.map_set,QV]) (k:=?_))
      exact done_pure hwf (by simp [← hZ, h7']) rfl
    have hnv2 := hnvv h7
    subst hnv2
    rw [h7, Bool.true_and] at hZ
    have hright : G.right (Ss.succs bs) = true := by
      have := hso.trans h7
      simp only [Ss.shapeOk, Bool.and_eq_true] at this
      exact this.1.1.1.1
    have hto := Ss.right_to (f := ⟨⟨fi, fo⟩, ts, bs⟩) hright
    simp only at hto
    have hnl := G.nearI_len (Ss.succs bs)
    generalize hnr : G.nearI (Ss.succs bs) = near at *
    refine QM (by conv=>lhs;simp[-List.map_set,QV,h7]) ?_
    refine QN ?_
    apply vw_reach
    · exact Reach.frzCellS (enc := encDef) (s := 3) (fun _ => rfl) encDef_closed (k := 2) (j := 3) (i := 9) ds (by decide) (by simp) (by simp) (by rfl) (by rw [hdl]; rfl) (by rfl)
    simp only [List.set_cons_succ, List.set_cons_zero]
    refine vw_ghost' 5 rfl ((refSt (k := 2) (by simp) (by rfl) (by rfl) (by simp))) (by conv => lhs; simp [Fr.set]) ?_
    simp only [List.set_cons_succ, List.set_cons_zero]
    repeat (first|refine QG ?_|refine QX (r:=by conv=>lhs;simp[-List.map_set,QV]) (k:=?_))
    refine vw_only' [5, 54, 55, 56] (by conv => lhs; simp [Fr.only, Fr.look]) ?_
    refine vw_gc [] hwf (by decide) (by simp [-List.map_set]) (by conv => lhs; simp [-List.map_set]) (by conv => lhs; simp [-List.map_set]) (by conv => lhs; simp [-List.map_set]) ?_
    have ci : ∀ (i k : Nat) (b : Ss.Block) (x : Ss.Ins), b ∈ bs → x ∈ b.code → VPure Try.prog 36 [ckV ⟨sg, im, gl, mu, me⟩ ⟨⟨fi, fo⟩, ts, bs⟩ ds near, vnat i, vnat k, encIns x] (.bool (Ss.insOk ⟨sg, im, gl, mu, me⟩ ⟨⟨fi, fo⟩, ts, bs⟩ ds near i k x)) := by
      intro i k b x hb hx
      have hbF := hf.2.2.2 b hb
      have hxF := hbF.2.1.2 x hx
      have hsmb := ((Ss.small_iff _).1 (hsm.trans h2)).2.1 b hb
      simp only [Ss.Block.small, Bool.and_eq_true, List.all_eq_true, Ss.Ins.small, decide_eq_true_eq] at hsmb
      have hxl := (hsmb.1.2 x hx).2
      exact ins_v ⟨sg, im, gl, mu, me⟩ ⟨⟨fi, fo⟩, ts, bs⟩ ds near i k x hsl hgl (her h1) hdl (by simp only; omega) (by omega) hxF (by omega) ((hdin b hb).2 x hx)
    have ctm : ∀ (i : Nat) (b : Ss.Block), b ∈ bs → VPure Try.prog 37 [ckV ⟨sg, im, gl, mu, me⟩ ⟨⟨fi, fo⟩, ts, bs⟩ ds near, vnat i, encBlock b] (.bool (Ss.termOk ⟨⟨fi, fo⟩, ts, bs⟩ ds near i b)) := fun i b hb =>
      term_v ⟨sg, im, gl, mu, me⟩ ⟨⟨fi, fo⟩, ts, bs⟩ ds near i b hdl (by simp only; omega) (by omega) (by simp only; omega) (by have := hf.1.2.1; simp only at this ⊢; omega) (hf.2.2.2 b hb) (hto b hb) (fun b hb => ⟨by have := (hsf b hb).1; omega, (hdin b hb).1⟩)
    repeat refine QS ?_
    refine vw_loopAt [5, 54, 55, 56] rfl (fun c σ S' => ∃ (k : Nat), k ≤ bs.length ∧ c = bs.length - k ∧ Ss.checkBlocks ⟨sg, im, gl, mu, me⟩ ⟨⟨fi, fo⟩, ts, bs⟩ ds near k (bs.drop k) = Z ∧ σ = [(5, ckV ⟨sg, im, gl, mu, me⟩ ⟨⟨fi, fo⟩, ts, bs⟩ ds near), (54, vl encBlock bs), (55, vnat bs.length), (56, vnat k)] ∧ S' = St S [] []) bs.length ?_ ?_
    · exact ⟨0, by omega, rfl, hZ, by simp [Fr.only], rfl⟩
    · rintro c σ T ⟨k, hk, rfl, hcb, rfl, rfl⟩
      by_cases hkt : k < bs.length
      · have hw := wrapNat hkt (by omega)
        have hst := checkBlocks_one (e := ⟨sg, im, gl, mu, me⟩) (f := ⟨⟨fi, fo⟩, ts, bs⟩) (ds := ds) (near := near) hkt
        have hmem := List.getElem_mem hkt
        have hcl := (hsf _ hmem).2.2.2
        have cti := ctm k _ hmem
        have cii := fun j x => ci k j _ x hmem
        obtain ⟨⟨ps, code, ⟨tk, ta, to, az⟩⟩, hx⟩ : ∃ b, bs[k] = b := ⟨_, rfl⟩
        rw [hx] at hst hcl cti cii
        simp only at hst hcl cii
        rw [hst] at hcb
        generalize Ss.termOk ⟨⟨fi, fo⟩, ts, bs⟩ ds near k ⟨ps, code, ⟨tk, ta, to, az⟩⟩ = tm at *
        repeat (first|refine QG ?_|refine QX (r:=by conv=>lhs;simp[-List.map_set,QV,hkt,hx]) (k:=?_))
        repeat refine QS ?_
        refine vw_loopAt [5, 6, 7, 54, 55, 56, 62, 63, 64] rfl (fun c σ S' => ∃ (j : Nat), j ≤ code.length ∧ c = code.length - j ∧ Ss.checkCode ⟨sg, im, gl, mu, me⟩ ⟨⟨fi, fo⟩, ts, bs⟩ ds near k j (code.drop j) = Ss.checkCode ⟨sg, im, gl, mu, me⟩ ⟨⟨fi, fo⟩, ts, bs⟩ ds near k 0 code ∧ σ = [(5, ckV ⟨sg, im, gl, mu, me⟩ ⟨⟨fi, fo⟩, ts, bs⟩ ds near), (6, vnat k), (7, .ptr (lid S.nx 0) 0), (54, vl encBlock bs), (55, vnat bs.length), (56, vnat k), (62, vl encIns code), (63, vnat code.length), (64, vnat j)] ∧ S' = St S [] [some (6, [vl vint ps, vl encIns code, .int .i64 tk, .int .i64 ta, vl encEdge to, vl vint az])]) code.length ?_ ?_
        · exact ⟨0, by omega, rfl, rfl, by simp [Fr.only], rfl⟩
        · rintro c σ T ⟨j, hj, rfl, hcc, rfl, rfl⟩
          by_cases hjt : j < code.length
          · have hwj := wrapNat hjt (by omega)
            have hsc := checkCode_one (e := ⟨sg, im, gl, mu, me⟩) (f := ⟨⟨fi, fo⟩, ts, bs⟩) (ds := ds) (near := near) (i := k) hjt
            have cij := cii j _ (List.getElem_mem hjt)
            obtain ⟨⟨xo, xn, xa, xu⟩, hx2⟩ : ∃ x, code[j] = x := ⟨_, rfl⟩
            rw [hx2] at hsc cij
            generalize Ss.insOk ⟨sg, im, gl, mu, me⟩ ⟨⟨fi, fo⟩, ts, bs⟩ ds near k j ⟨xo, xn, xa, xu⟩ = io at *
            have cij' : VPure Try.prog 36 [ckV ⟨sg, im, gl, mu, me⟩ ⟨⟨fi, fo⟩, ts, bs⟩ ds near, vnat k, vnat j, .agg [.int .i64 xo, .int .u64 xn, vl vint xa, vl vint xu]] (.bool io) := cij
            repeat (first|refine QG ?_|refine QX (r:=by conv=>lhs;simp[-List.map_set,QV,hjt,hx2]) (k:=?_))
            repeat refine QS ?_
            refine QR (r:=by conv=>lhs;simp[-List.map_set,QV,hjt,hx2]) (k:=?_)
            refine vcall_useH (cij') (by rfl) ?_
            by_cases hio : io = true
            · refine QM (by conv=>lhs;simp[-List.map_set,QV,hio]) ?_
              refine QN ?_
              repeat (first|refine QG ?_|refine QX (r:=by conv=>lhs;simp[-List.map_set,QV]) (k:=?_))
              refine QA [0] (h:=⟨?_, j + 1, hjt, rfl, by rw [← hcc, hsc, hio, Bool.true_and], by simp [hwj], rfl⟩)
              omega
            · have hio' : io = false := by simpa using hio
              refine QM (by conv=>lhs;simp[-List.map_set,QV,hio']) ?_
              refine QN ?_
              repeat (first|refine QG ?_|refine QX (r:=by conv=>lhs;simp[-List.map_set,QV]) (k:=?_))
              exact done_pure hwf (by rw [← hcb, ← hcc, hsc, hio']; simp) rfl
          · have e1 : code.drop j = [] := by rw [List.drop_eq_nil_iff]; omega
            rw [e1, Ss.checkCode] at hcc
            rw [← hcc, Bool.true_and] at hcb
            have cti' : VPure Try.prog 37 [ckV ⟨sg, im, gl, mu, me⟩ ⟨⟨fi, fo⟩, ts, bs⟩ ds near, vnat k, .agg [vl vint ps, vl encIns code, .int .i64 tk, .int .i64 ta, vl encEdge to, vl vint az]] (.bool tm) := cti
            repeat (first|refine QG ?_|refine QX (r:=by conv=>lhs;simp[-List.map_set,QV,hjt]) (k:=?_))
            repeat refine QS ?_
            refine QR (r:=by conv=>lhs;simp[-List.map_set,QV,hjt]) (k:=?_)
            refine vcall_useH (cti') (by rfl) ?_
            by_cases htm : tm = true
            · refine QM (by conv=>lhs;simp[-List.map_set,QV,htm]) ?_
              refine QN ?_
              repeat (first|refine QG ?_|refine QX (r:=by conv=>lhs;simp[-List.map_set,QV]) (k:=?_))
              refine QA [] (h:=⟨?_, k + 1, hkt, rfl, by rw [← hcb, htm, Bool.true_and], by simp [hw], rfl⟩)
              omega
            · have htm' : tm = false := by simpa using htm
              refine QM (by conv=>lhs;simp[-List.map_set,QV,htm']) ?_
              refine QN ?_
              repeat (first|refine QG ?_|refine QX (r:=by conv=>lhs;simp[-List.map_set,QV]) (k:=?_))
              exact done_pure hwf (by rw [← hcb, htm']; simp) rfl
      · have e1 : bs.drop k = [] := by rw [List.drop_eq_nil_iff]; omega
        rw [e1, Ss.checkBlocks] at hcb
        repeat (first|refine QG ?_|refine QX (r:=by conv=>lhs;simp[-List.map_set,QV,hkt]) (k:=?_))
        exact done_pure hwf (by simp [← hcb]) rfl
end Go.Vw

namespace Go.Vw
open Go.Proofs Go.RowKit
set_option maxRecDepth 10000
set_option maxHeartbeats 8000000

theorem EqIns_v (l m : List Ss.Ins) (hl : l.length < 2^63) (hm : ∀ x ∈ l, x.Fits) : VPure Try.prog 45 [vl encIns l, vl encIns m, .func 46 []] (.bool (decide (l = m))) := by
  rw [← eqF_dec]
  exact EqFN_v l m _ _ rfl hl fun _ k h1 h2 => sameIns_v _ _ (by have := (hm _ (List.getElem_mem h1)).2.2.1.1; omega) (by have := (hm _ (List.getElem_mem h1)).2.2.2.1; omega)
theorem EqEdge_v (l m : List Ss.Edge) (hl : l.length < 2^63) (hm : ∀ x ∈ l, x.Fits) : VPure Try.prog 47 [vl encEdge l, vl encEdge m, .func 48 []] (.bool (decide (l = m))) := by
  rw [← eqF_dec]
  exact EqFE_v l m _ _ rfl hl fun _ k h1 h2 => sameEdge_v _ _ (by have := (hm _ (List.getElem_mem h1)).2.1; omega)

theorem sameBlock_v (x y : Ss.Block) (hx : x.Fits) : VPure Try.prog 19 [encBlock x, encBlock y] (.bool (decide (x = y))) := by
  intro S
  obtain ⟨a1, a2, ⟨a3, a4, a5, a6⟩⟩ := x
  obtain ⟨b1, b2, ⟨b3, b4, b5, b6⟩⟩ := y
  obtain ⟨⟨f1, _⟩, ⟨f2, f3⟩, _, _, ⟨f4, f5⟩, ⟨f6, _⟩⟩ := hx
  simp only at f1 f2 f3 f4 f5 f6
  simp only [Ss.Block.mk.injEq, Ss.Term.mk.injEq] at *
  have g1 : a1.length < 2^63 := by omega
  have g2 : a2.length < 2^63 := by omega
  have g5 : a5.length < 2^63 := by omega
  have g6 : a6.length < 2^63 := by omega
  refine vcalls_start (c := bodyOf Try.f19) Try.func19 rfl rfl (by simp [Try.ntmps19]) ?_
  rw [Try.ntmps19]
  intro hwf
  repeat (first|refine QG ?_|refine QX (r:=by conv=>lhs;simp[-List.map_set,QV]) (k:=?_))
  repeat refine QS ?_
  refine vw_drawTwo (σm := ?sm) (Sm := ?Sm) (ZZ.mk _ (St S [] [some (6, [vl vint a1, vl encIns a2, vint a3, vint a4, vl encEdge a5, vl vint a6]), some (6, [vl vint b1, vl encIns b2, vint b3, vint b4, vl encEdge b5, vl vint b6])]) (St S [] [some (6, [vl vint a1, vl encIns a2, vint a3, vint a4, vl encEdge a5, vl vint a6]), some (6, [vl vint b1, vl encIns b2, vint b3, vint b4, vl encEdge b5, vl vint b6])]) []) 4 5 [0, 1, 2, 3, 4, 5, 6, 7] [0, 1, 2, 3, 5, 4, 6, 7] rfl (by kernel_rfl) (by conv => lhs; reduce) (by kernel_rfl) (by decide) (by kernel_rfl) (by kernel_rfl) (by kernel_rfl) (by kernel_rfl) (by kernel_rfl) (by kernel_rfl) rfl (ok_St (by simp [subU, shpU, subL, shpL])) (Store.sub_refl _) (by conv => lhs; reduce) (by conv => lhs; reduce) ?H1 ?H2 ?H3
  case H1 =>
    refine QM (by conv=>lhs;simp[-List.map_set,QV]) ?_
    refine vseg_write rfl (by conv=>lhs;simp[-List.map_set,QV]) (ok_St (by simp [subU, shpU, subL, shpL])) ?_
    refine vseg_write rfl (by conv=>lhs;simp[-List.map_set,QV]) (ok_St (by simp [subU, shpU, subL, shpL])) ?_
    refine vseg_write rfl (by conv=>lhs;simp[-List.map_set,QV]) (ok_St (by simp [subU, shpU, subL, shpL])) ?_
    refine vseg_write rfl (by conv=>lhs;simp[-List.map_set,QV]) (ok_St (by simp [subU, shpU, subL, shpL])) ?_
    refine QN ?_
    refine reach_only [2, 3, 5, 6] (Eq.trans (b := ?_) ?_ rfl)
    rotate_left
    conv => lhs; simp [Fr.only, Fr.look]
  case H2 =>
    refine QM (by conv=>lhs;simp[-List.map_set,QV]) ?_
    refine vseg_write rfl (by conv=>lhs;simp[-List.map_set,QV]) (ok_St (by simp [subU, shpU, subL, shpL])) ?_
    refine vseg_write rfl (by conv=>lhs;simp[-List.map_set,QV]) (ok_St (by simp [subU, shpU, subL, shpL])) ?_
    refine vseg_write rfl (by conv=>lhs;simp[-List.map_set,QV]) (ok_St (by simp [subU, shpU, subL, shpL])) ?_
    refine vseg_write rfl (by conv=>lhs;simp[-List.map_set,QV]) (ok_St (by simp [subU, shpU, subL, shpL])) ?_
    refine QN ?_
    exact reach_swap [2, 3, 5, 6] [0, 1, 3, 2] (by conv => lhs; simp [Fr.only, Fr.look]) hwf (by decide) (by simp [-List.map_set]) (by conv => lhs; simp [-List.map_set]) (by conv => lhs; simp [-List.map_set]) (by conv => lhs; simp [-List.map_set])
  repeat (first|refine QG ?_|refine QX (r:=by conv=>lhs;simp[-List.map_set,QV]) (k:=?_))
  repeat refine QS ?_
  refine QR (r:=by conv=>lhs;simp[-List.map_set,QV]) (k:=?_)
  refine vcall_use rfl (Equal_v a1 b1 g1) ?_
  by_cases h1 : a1 = b1
  · refine QM (by conv=>lhs;simp[-List.map_set,QV,h1]) ?_
    refine vcall_use rfl (EqIns_v a2 b2 g2 f3) ?_
    by_cases h2 : a2 = b2
    · by_cases h3 : a3 = b3
      · by_cases h4 : a4 = b4
        · refine QM (by conv=>lhs;simp[-List.map_set,QV,h2,h3,h4]) ?_
          refine vcall_use rfl (Equal_v a6 b6 g6) ?_
          by_cases h6 : a6 = b6
          · refine QM (by conv=>lhs;simp[-List.map_set,QV,h6]) ?_
            refine vcall_use rfl (EqEdge_v a5 b5 g5 f5) ?_
            refine QM (by conv=>lhs;simp[-List.map_set,QV]) ?_
            refine QN ?_
            repeat (first|refine QG ?_|refine QX (r:=by conv=>lhs;simp[-List.map_set,QV]) (k:=?_))
            exact done_pure hwf (by simp [h1, h2, h3, h4, h6]) rfl
          · refine QM (by conv=>lhs;simp[-List.map_set,QV,h6]) ?_
            refine QN ?_
            repeat (first|refine QG ?_|refine QX (r:=by conv=>lhs;simp[-List.map_set,QV]) (k:=?_))
            exact done_pure hwf (by simp [h6]) rfl
        · refine QM (by conv=>lhs;simp[-List.map_set,QV,h2,h3,h4]) ?_
          refine QN ?_
          repeat (first|refine QG ?_|refine QX (r:=by conv=>lhs;simp[-List.map_set,QV]) (k:=?_))
          exact done_pure hwf (by simp [h4]) rfl
      · refine QM (by conv=>lhs;simp[-List.map_set,QV,h2,h3]) ?_
        refine QN ?_
        repeat (first|refine QG ?_|refine QX (r:=by conv=>lhs;simp[-List.map_set,QV]) (k:=?_))
        exact done_pure hwf (by simp [h3]) rfl
    · refine QM (by conv=>lhs;simp[-List.map_set,QV,h2]) ?_
      refine QN ?_
      repeat (first|refine QG ?_|refine QX (r:=by conv=>lhs;simp[-List.map_set,QV]) (k:=?_))
      exact done_pure hwf (by simp [h2]) rfl
  · refine QM (by conv=>lhs;simp[-List.map_set,QV,h1]) ?_
    refine QN ?_
    repeat (first|refine QG ?_|refine QX (r:=by conv=>lhs;simp[-List.map_set,QV]) (k:=?_))
    exact done_pure hwf (by simp [h1]) rfl

end Go.Vw

namespace Go.Vw
open Go.Proofs Go.RowKit
set_option maxRecDepth 10000
set_option maxHeartbeats 2000000

theorem EqBlock_v (l m : List Ss.Block) (hl : l.length < 2^63) (hm : ∀ x ∈ l, x.Fits) : VPure Try.prog 18 [vl encBlock l, vl encBlock m, .func 19 []] (.bool (decide (l = m))) := by
  rw [← eqF_dec]
  exact EqFB_v l m _ _ rfl hl fun _ k h1 h2 => sameBlock_v _ _ (hm _ (List.getElem_mem h1))

/-- The same functions, both short enough. -/
def sameFn (f g : Ss.Fn) : Bool := f.small && g.small && decide (f = g)

theorem Same_v (f g : Ss.Fn) (hf : f.Fits) (hg : g.Fits) : VPure Try.prog 7 [encFn f, encFn g] (.bool (sameFn f g)) := by
  intro S
  have cf := small_v f hf
  have cg := small_v g hg
  unfold sameFn
  obtain ⟨⟨⟨f1, _⟩, ⟨f2, _⟩⟩, ⟨f3, _⟩, ⟨f4, f5⟩⟩ := hf
  generalize f.small = sf at *
  generalize g.small = sg at *
  obtain ⟨⟨a1, a2⟩, a3, a4⟩ := f
  obtain ⟨⟨b1, b2⟩, b3, b4⟩ := g
  simp only at f1 f2 f3 f4 f5
  simp only [Ss.Fn.mk.injEq, Ss.Sig.mk.injEq]
  have cf' : VPure Try.prog 16 [.agg [vl vint a1, vl vint a2, vl vint a3, vl encBlock a4]] (.bool sf) := cf
  have cg' : VPure Try.prog 16 [.agg [vl vint b1, vl vint b2, vl vint b3, vl encBlock b4]] (.bool sg) := cg
  have g1 : a1.length < 2^63 := by omega
  have g2 : a2.length < 2^63 := by omega
  have g3 : a3.length < 2^63 := by omega
  have g4 : a4.length < 2^63 := by omega
  generalize hX : (sf && sg && decide ((a1 = b1 ∧ a2 = b2) ∧ a3 = b3 ∧ a4 = b4)) = X
  refine vcalls_start (c := bodyOf Try.f7) Try.func7 rfl rfl (by simp [Try.ntmps7]) ?_
  rw [Try.ntmps7]
  intro hwf
  repeat (first|refine QG ?_|refine QX (r:=by conv=>lhs;simp[-List.map_set,QV]) (k:=?_))
  repeat refine QS ?_
  refine QR (r:=by conv=>lhs;simp[-List.map_set,QV]) (k:=?_)
  refine vcall_useH (cf') (by rfl) ?_
  by_cases hsf : sf = true
  case neg =>
    have hsf' : sf = false := by simpa using hsf
    refine QM (by conv=>lhs;simp[-List.map_set,QV,hsf']) ?_
    refine QN ?_
    repeat (first|refine QG ?_|refine QX (r:=by conv=>lhs;simp[-List.map_set,QV]) (k:=?_))
    exact done_pure hwf (by simp [← hX, hsf']) rfl
  refine QM (by conv=>lhs;simp[-List.map_set,QV,hsf]) ?_
  refine vcall_useH (cg') (by rfl) ?_
  by_cases hsg : sg = true
  case neg =>
    have hsg' : sg = false := by simpa using hsg
    refine QM (by conv=>lhs;simp[-List.map_set,QV,hsg']) ?_
    refine QN ?_
    repeat (first|refine QG ?_|refine QX (r:=by conv=>lhs;simp[-List.map_set,QV]) (k:=?_))
    exact done_pure hwf (by simp [← hX, hsf, hsg']) rfl
  refine QM (by conv=>lhs;simp[-List.map_set,QV,hsg]) ?_
  refine vcall_useH (Equal_v a1 b1 g1) (by rfl) ?_
  by_cases h1 : a1 = b1
  · refine QM (by conv=>lhs;simp[-List.map_set,QV,h1]) ?_
    refine vcall_useH (Equal_v a2 b2 g2) (by rfl) ?_
    by_cases h2 : a2 = b2
    · refine QM (by conv=>lhs;simp[-List.map_set,QV,h2]) ?_
      refine vcall_useH (Equal_v a3 b3 g3) (by rfl) ?_
      by_cases h3 : a3 = b3
      · refine QM (by conv=>lhs;simp[-List.map_set,QV,h3]) ?_
        refine vcall_useH (EqBlock_v a4 b4 g4 f5) (by rfl) ?_
        refine QM (by conv=>lhs;simp[-List.map_set,QV]) ?_
        refine QN ?_
        repeat (first|refine QG ?_|refine QX (r:=by conv=>lhs;simp[-List.map_set,QV]) (k:=?_))
        exact done_pure hwf (by simp [← hX, hsf, hsg, h1, h2, h3]) rfl
      · refine QM (by conv=>lhs;simp[-List.map_set,QV,h3]) ?_
        refine QN ?_
        repeat (first|refine QG ?_|refine QX (r:=by conv=>lhs;simp[-List.map_set,QV]) (k:=?_))
        exact done_pure hwf (by simp [← hX, hsf, hsg, h3]) rfl
    · refine QM (by conv=>lhs;simp[-List.map_set,QV,h2]) ?_
      refine QN ?_
      repeat (first|refine QG ?_|refine QX (r:=by conv=>lhs;simp[-List.map_set,QV]) (k:=?_))
      exact done_pure hwf (by simp [← hX, hsf, hsg, h2]) rfl
  · refine QM (by conv=>lhs;simp[-List.map_set,QV,h1]) ?_
    refine QN ?_
    repeat (first|refine QG ?_|refine QX (r:=by conv=>lhs;simp[-List.map_set,QV]) (k:=?_))
    exact done_pure hwf (by simp [← hX, hsf, hsg, h1]) rfl
end Go.Vw

namespace Ss
/-- A function that answers 5. -/
def smallF : Fn := ⟨⟨[], [127]⟩, [127], [⟨[], [⟨258, 0, [], []⟩, ⟨256, 5, [], [0]⟩], ⟨4, 0, [], [0]⟩⟩]⟩
def env0 : Env := ⟨[], 0, [], [], false⟩
end Ss
namespace Go.Vw
open Go.Proofs Go.RowKit
set_option maxRecDepth 10000
set_option maxHeartbeats 4000000

theorem Reach.nilCell {N b0 : Nat} {σ : Fr} {B : Store} {u : Upds} {l : List (Option (Nat × List V))} {k i s : Nat} {cs : List V} (hk : k < l.length) (hck : (l[k]?).join = some (s, cs)) (hi : cs[i]? = some .nils) :
    Reach N b0 σ (St B u l) σ (St B u (l.set k (some (s, cs.set i (.list []))))) := by
  have := Reach.cell (N := N) (b0 := b0) (σ := σ) (o := lid B.nx k) (i := i) (s := s) (cs := cs) (Ghost.nils_list (St B u l)) (by simp [V.one]) (by rw [St_get]; exact hck) hi (by rw [St_get]; exact hck)
  rw [St_upd hk] at this
  exact this

theorem small0_v : VPure Try.prog 25 [] (encFn Ss.smallF) := by
  intro S
  have hr4 : rep0 [V.int .i64 0, .int .u64 0, .nils, .nils] 2 = [.int .i64 0, .int .u64 0, .nils, .nils, .int .i64 0, .int .u64 0, .nils, .nils] := rfl
  have hr6 : rep0 [V.nils, .nils, .int .i64 0, .int .i64 0, .nils, .nils] 1 = [.nils, .nils, .int .i64 0, .int .i64 0, .nils, .nils] := rfl
  refine vcalls_startC (c := bodyOf Try.f25) Try.func25 rfl (by conv => lhs; reduce) (by simp [Try.ntmps25]) ?_
  rw [Try.ntmps25]
  intro hwf
  repeat refine QS ?_
  refine QR (r:=by conv=>lhs;simp[-List.map_set,QV]) (k:=?_)
  refine QN ?_
  repeat refine QS ?_
  refine QR (r:=by conv=>lhs;simp[-List.map_set,QV,hr4,hr6]) (k:=?_)
  refine QN ?_
  apply vw_reach
  · exact Reach.nilCell (k := 4) (i := 2) (by simp) (by rfl) (by rfl)
  simp only [List.set_cons_succ, List.set_cons_zero]
  apply vw_reach
  · exact Reach.nilCell (k := 4) (i := 3) (by simp) (by rfl) (by rfl)
  simp only [List.set_cons_succ, List.set_cons_zero]
  apply vw_reach
  · exact Reach.nilCell (k := 4) (i := 6) (by simp) (by rfl) (by rfl)
  simp only [List.set_cons_succ, List.set_cons_zero]
  apply vw_reach
  · exact Reach.frzCell (k := 4) (j := 3) (i := 7) (by decide) (by simp) (by simp) (by rfl) (by rfl) (by rfl) (by rfl) (by rfl)
  simp only [List.set_cons_succ, List.set_cons_zero]
  apply vw_reach
  · exact Reach.nilCell (k := 6) (i := 0) (by simp) (by rfl) (by rfl)
  simp only [List.set_cons_succ, List.set_cons_zero]
  apply vw_reach
  · exact Reach.nilCell (k := 6) (i := 4) (by simp) (by rfl) (by rfl)
  simp only [List.set_cons_succ, List.set_cons_zero]
  apply vw_reach
  · exact Reach.frzCellS (enc := encIns) (s := 4) (fun _ => rfl) encIns_closed (k := 6) (j := 4) (i := 1) [⟨258, 0, [], []⟩, ⟨256, 5, [], [0]⟩] (by decide) (by simp) (by simp) (by rfl) (by rfl) (by rfl)
  simp only [List.set_cons_succ, List.set_cons_zero]
  apply vw_reach
  · exact Reach.frzCell (k := 6) (j := 5) (i := 5) (by decide) (by simp) (by simp) (by rfl) (by rfl) (by rfl) (by rfl) (by rfl)
  simp only [List.set_cons_succ, List.set_cons_zero]
  apply vw_reach
  · exact Reach.nilCell (k := 0) (i := 0) (by simp) (by rfl) (by rfl)
  simp only [List.set_cons_succ, List.set_cons_zero]
  apply vw_reach
  · exact Reach.frzCell (k := 0) (j := 1) (i := 1) (by decide) (by simp) (by simp) (by rfl) (by rfl) (by rfl) (by rfl) (by rfl)
  simp only [List.set_cons_succ, List.set_cons_zero]
  apply vw_reach
  · exact Reach.frzCell (k := 0) (j := 2) (i := 2) (by decide) (by simp) (by simp) (by rfl) (by rfl) (by rfl) (by rfl) (by rfl)
  simp only [List.set_cons_succ, List.set_cons_zero]
  apply vw_reach
  · exact Reach.frzCellS (enc := encBlock) (s := 6) (fun _ => rfl) encBlock_closed (k := 0) (j := 6) (i := 3) [⟨[], [⟨258, 0, [], []⟩, ⟨256, 5, [], [0]⟩], ⟨4, 0, [], [0]⟩⟩] (by decide) (by simp) (by simp) (by rfl) (by rfl) (by rfl)
  simp only [List.set_cons_succ, List.set_cons_zero]
  repeat (first|refine QG ?_|refine QX (r:=by conv=>lhs;simp[-List.map_set,QV]) (k:=?_))
  exact doneC (by simp; rfl) (done_pure hwf (by simp [Ss.smallF, vl]) rfl)

theorem small0_fits : Ss.smallF.Fits := by
  simp [Ss.smallF, Ss.Fn.Fits, Ss.Sig.Fits, Ss.Ints, Ss.Block.Fits, Ss.Ins.Fits, Ss.Term.Fits, Ss.I64]
theorem env0_fits : Ss.env0.Fits := by
  simp [Ss.env0, Ss.Env.Fits, Ss.Ints, Ss.I64]
theorem small0_small : Ss.smallF.small = true := by decide
theorem small0_used : Ss.usedOf Ss.smallF = [true] := by decide
theorem small0_defs : Ss.defsOf Ss.smallF = some [⟨true, 0, 1⟩] := by decide
theorem small0_succs : Ss.succs Ss.smallF.blocks = [[]] := by decide
theorem small0_rings : Ss.rings Ss.smallF.blocks [[]] = false := by
  simp [Ss.rings, Ss.smallF, Ss.tickB, Ss.ringM, Ss.ringW, List.range_succ]
theorem small0_shape : Ss.shapeOk Ss.smallF = true := by
  have h1 : G.right [[]] = true := by decide
  have h2 : G.ordI [[]] = [0] := by decide
  have h3 : G.nats [[]] = [[]] := rfl
  simp only [Ss.shapeOk, small0_succs, h1, h2, h3, small0_rings]
  decide
theorem small0_check : Ss.check Ss.env0 Ss.smallF = true := by
  have h1 : Ss.checkHead Ss.env0 Ss.smallF = true := by decide
  simp only [Ss.check, h1, small0_defs, small0_shape, Bool.true_and]
  generalize G.nearI (Ss.succs Ss.smallF.blocks) = near
  simp [Ss.smallF, Ss.checkBlocks, Ss.checkCode, Ss.insOk, Ss.form, Ss.insOut, Ss.typesOf, Ss.asks, eqF, Ss.termOk, Ss.termHead, Ss.termTail, Ss.branches, Ss.askOk]
end Go.Vw
