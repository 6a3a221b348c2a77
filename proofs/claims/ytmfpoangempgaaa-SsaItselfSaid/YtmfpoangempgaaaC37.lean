import Derived.Test.YtmfpoangempgaaaC36
import Derived.Test.YtmfpoangempgaaaC21
import Derived.Test.YtmfpoangempgaaaC14
/-
  Part of the proof (texts SLMore, SRSame).
-/
set_option linter.unusedVariables false
set_option linter.unusedSimpArgs false
namespace Go.Vw
open Go.Proofs Go.RowKit
set_option maxRecDepth 10000
set_option maxHeartbeats 2000000

theorem RCount_v (f : Ss.Fn) (hf : f.Fits) (hs : f.small = true) : VPure Try.prog 12 [encFn f] (vnat (Ss.count f.blocks)) := by
  intro S
  have csm := RSmall_v f hf
  rw [hs] at csm
  obtain ⟨hh, hbk, hcnt⟩ := (Ss.small_iff f).1 hs
  simp only [Ss.Fn.heads, Bool.and_eq_true, decide_eq_true_eq] at hh
  obtain ⟨sm, hsm⟩ : ∃ sm, sm = true := ⟨_, rfl⟩
  rw [← hsm] at csm
  obtain ⟨⟨fi, fo⟩, ts, bs⟩ := f
  simp only at hh hcnt ⊢
  have csm' : VPure Try.prog 9 [.agg [vl vint fi, vl vint fo, vl vint ts, vl encBlock bs]] (.bool sm) := csm
  refine vcalls_start (c := bodyOf Try.f12) Try.func12 rfl rfl (by simp [Try.ntmps12]) ?_
  rw [Try.ntmps12]
  intro hwf
  repeat refine QS ?_
  refine QR (r:=by conv=>lhs;simp[-List.map_set,QV]) (k:=?_)
  refine QN ?_
  refine vw_ghost' 1 rfl ((refSt (k := 0) (by simp) (by rfl) (by rfl) (by simp))) (by conv => lhs; simp [Fr.set]) ?_
  simp only [List.set_cons_succ, List.set_cons_zero]
  repeat (first|refine QG ?_|refine QX (r:=by conv=>lhs;simp[-List.map_set,QV]) (k:=?_))
  repeat refine QS ?_
  refine QR (r:=by conv=>lhs;simp[-List.map_set,QV]) (k:=?_)
  refine vcall_useH (csm') (by rfl) ?_
  refine QM (by conv=>lhs;simp[-List.map_set,QV,hsm]) ?_
  refine QN ?_
  repeat (first|refine QG ?_|refine QX (r:=by conv=>lhs;simp[-List.map_set,QV,hsm]) (k:=?_))
  refine vw_only' [1, 3, 4] (by conv => lhs; simp [Fr.only, Fr.look]) ?_
  refine vw_gc [] hwf (by decide) (by simp [-List.map_set]) (by conv => lhs; simp [-List.map_set]) (by conv => lhs; simp [-List.map_set]) (by conv => lhs; simp [-List.map_set]) ?_
  repeat refine QS ?_
  refine vw_loopAt [1, 3, 4] rfl (fun c σ S' => ∃ (k n : Nat), k ≤ bs.length ∧ c = bs.length - k ∧ n + Ss.count (bs.drop k) = Ss.count bs ∧ σ = [(1, .ref (.agg [vl vint fi, vl vint fo, vl vint ts, vl encBlock bs])), (3, vnat n), (4, vnat k)] ∧ S' = St S [] []) bs.length ?_ ?_
  · exact ⟨0, 0, by omega, rfl, by simp, by simp [Fr.only], rfl⟩
  · rintro c σ T ⟨k, n, hk, rfl, hn, rfl, rfl⟩
    by_cases hkt : k < bs.length
    case neg =>
      rw [show bs.drop k = [] by rw [List.drop_eq_nil_iff]; omega] at hn
      have hn' : n = Ss.count bs := by simpa [Ss.count] using hn
      repeat (first|refine QG ?_|refine QX (r:=by conv=>lhs;simp[-List.map_set,QV,hkt]) (k:=?_))
      rw [← hn']
      exact done_pure hwf rfl rfl
    have hw := wrapNat hkt (by omega)
    rw [List.drop_eq_getElem_cons hkt, Ss.count, List.map_cons, List.sum_cons] at hn
    obtain ⟨⟨ps, code, ⟨tk, ta, tt, az⟩⟩, hx⟩ : ∃ b, bs[k] = b := ⟨_, rfl⟩
    rw [hx] at hn
    simp only at hn
    have hwn : IntKind.i64.wrap ((n : Int) + (code.length : Int)) = ((n + code.length : Nat) : Int) := by
      rw [wrap_i64 (by omega) (by omega)]; simp
    repeat (first|refine QG ?_|refine QX (r:=by conv=>lhs;simp[-List.map_set,QV,hkt,hx,hwn,hw]) (k:=?_))
    show Again _ _ _ _ _ _ _
    exact again ⟨by omega, k + 1, n + code.length, by omega, rfl, by rw [← hn, Ss.count]; omega, by simp [Fr.only], rfl⟩

theorem fn_ghostT {S : Store} {fi fo ts : List Int} {bs : List Ss.Block} {cells : List V} {ot ob n m : Nat} {ids : List Nat} (h : OwL S (reps n blkT) cells (flatC encBlock bs) ids) (hb : S.get ob = some (6, cells)) (hn : bs.length = n) (ht : S.get ot = some (1, ts.map vint)) (hm : ts.length = m) (hd : (ot :: ob :: ids).Nodup) :
    Ghost (.agg [vl vint fi, vl vint fo, .slice ot 0 m, .slice ob 0 n]) S (.agg [vl vint fi, vl vint fo, vl vint ts, vl encBlock bs]) (S.dels (ot :: ob :: ids)) := by
  subst hn
  subst hm
  refine ghost_agg ?_
  have hw : OwL S [.c, .c, .s (List.replicate 1 .c), .s blkT] [vl vint fi, vl vint fo, .slice ot 0 ts.length, .slice ob 0 bs.length] [vl vint fi, vl vint fo, vl vint ts, vl encBlock bs] (ot :: ob :: ids) := by
    refine .c rfl (.c rfl (OwL.slice (enc := vint) (fun _ => rfl) (fun _ => rfl) ts (by rw [flatC_vint]; exact ht) ?_))
    have := OwL.s (S := S) (o := ob) (tys := blkT) (cells := cells) (ys := bs.map encBlock) (i := ids) (j := []) hb (fun y hy => (by
      obtain ⟨b, _, rfl⟩ := List.mem_map.1 hy
      exact ⟨by rw [encBlock_cells]; rfl, encBlock_closed b⟩)) (by rw [List.length_map, flatC_map]; exact h) .nil
    rw [List.length_map, List.append_nil] at this
    exact this
  exact hw.freeze hd S fun _ _ => rfl

theorem blockIx (b : Int) {n : Nat} (h : 0 < n) (hn : n ≤ 4096) : ∃ J : Nat, (IntKind.i64.wrap (b.tmod (n : Int) + (n : Int))).tmod (n : Int) = (J : Int) ∧ J < n := by
  have h1 : -(n : Int) < b.tmod n := by
    have := Int.lt_tmod_of_pos b (show (0 : Int) < n by omega)
    exact this
  have h2 : b.tmod n < n := Int.tmod_lt_of_pos b (by omega)
  rw [wrap_i64 (by omega) (by omega)]
  have h3 : 0 ≤ (b.tmod n + n).tmod n := Int.tmod_nonneg _ (by omega)
  have h4 : (b.tmod n + n).tmod n < n := Int.tmod_lt_of_pos _ (by omega)
  exact ⟨((b.tmod n + n).tmod n).toNat, by omega, by omega⟩

theorem More_v (e : Ss.Env) (f : Ss.Fn) (block : Int) (he : e.Fits) (hf : f.Fits) : VPure Try.prog 4 [encEnv e, encFn f, vint block] (.bool true) := by
  intro S
  have cck := Check_v e f he hf
  have csm := RSmall_v f hf
  have cnt := RCount_v f hf
  have ccp := fun S => RCopyT_v S f hf
  have hsm2 := Ss.small_iff f
  have hmp := fun j => @Ss.more_plain e f j
  have hmf := fun j => @Ss.more_fits f hf j
  generalize hck : Ss.check e f = ck at *
  generalize hsm : f.small = sm at *
  obtain ⟨sg, im, gl, mu, me⟩ := e
  obtain ⟨⟨fi, fo⟩, ts, bs⟩ := f
  simp only at *
  have cck' : VPure Try.prog 11 [.agg [vl encSig sg, .int .i64 im, vl vint gl, vl V.bool mu, .bool me], .agg [vl vint fi, vl vint fo, vl vint ts, vl encBlock bs]] (.bool ck) := cck
  have csm' : VPure Try.prog 9 [.agg [vl vint fi, vl vint fo, vl vint ts, vl encBlock bs]] (.bool sm) := csm
  have end1 : ∀ {σ : Fr}, True := fun {_} => trivial
  refine vcalls_start (c := bodyOf Try.f4) Try.func4 rfl rfl (by simp [Try.ntmps4]) ?_
  rw [Try.ntmps4]
  intro hwf
  repeat refine QS ?_
  refine QR (r:=by conv=>lhs;simp[-List.map_set,QV]) (k:=?_)
  refine QN ?_
  refine vw_ghost' 3 rfl ((refSt (k := 0) (by simp) (by rfl) (by rfl) (by simp))) (by conv => lhs; simp [Fr.set]) ?_
  refine vw_ghost' 4 rfl ((refSt (k := 1) (by simp) (by rfl) (by rfl) (by simp))) (by conv => lhs; simp [Fr.set]) ?_
  simp only [List.set_cons_succ, List.set_cons_zero]
  refine vw_only' [2, 3, 4, 6] (by conv => lhs; simp [Fr.only, Fr.look]) ?_
  refine vw_gc [] hwf (by decide) (by simp [-List.map_set]) (by conv => lhs; simp [-List.map_set]) (by conv => lhs; simp [-List.map_set]) (by conv => lhs; simp [-List.map_set]) ?_
  repeat refine QS ?_
  refine QR (r:=by conv=>lhs;simp[-List.map_set,QV]) (k:=?_)
  refine vcall_useH (cck') (by rfl) ?_
  by_cases h1 : ck = true
  case neg =>
    have h1' : ck = false := by simpa using h1
    refine QM (by conv=>lhs;simp[-List.map_set,QV,h1']) ?_
    refine QN ?_
    repeat (first|refine QG ?_|refine QX (r:=by conv=>lhs;simp[-List.map_set,QV]) (k:=?_))
    repeat refine QS ?_
    refine QR (r:=by conv=>lhs;simp[-List.map_set,QV]) (k:=?_)
    refine vcall_useH (Alive8_v) (by rfl) ?_
    refine QM (by conv=>lhs;simp[-List.map_set,QV]) ?_
    refine QN ?_
    repeat (first|refine QG ?_|refine QX (r:=by conv=>lhs;simp[-List.map_set,QV]) (k:=?_))
    exact done_pure hwf rfl rfl
  refine QM (by conv=>lhs;simp[-List.map_set,QV,h1]) ?_
  refine vcall_useH (csm') (by rfl) ?_
  by_cases h2 : sm = true
  case neg =>
    have h2' : sm = false := by simpa using h2
    refine QM (by conv=>lhs;simp[-List.map_set,QV,h2']) ?_
    refine QN ?_
    repeat (first|refine QG ?_|refine QX (r:=by conv=>lhs;simp[-List.map_set,QV]) (k:=?_))
    repeat refine QS ?_
    refine QR (r:=by conv=>lhs;simp[-List.map_set,QV]) (k:=?_)
    refine vcall_useH (Alive8_v) (by rfl) ?_
    refine QM (by conv=>lhs;simp[-List.map_set,QV]) ?_
    refine QN ?_
    repeat (first|refine QG ?_|refine QX (r:=by conv=>lhs;simp[-List.map_set,QV]) (k:=?_))
    exact done_pure hwf rfl rfl
  have ccp' : ∀ S, VCalls Try.prog 13 [.agg [vl vint fi, vl vint fo, vl vint ts, vl encBlock bs]] S (CopiedT S ⟨⟨fi, fo⟩, ts, bs⟩) := fun S => ccp S h2
  obtain ⟨hh, hbk, hcnt⟩ := hsm2.1 h2
  simp only [Ss.Fn.heads, Bool.and_eq_true, decide_eq_true_eq] at hh
  have cnt' : VPure Try.prog 12 [.agg [vl vint fi, vl vint fo, vl vint ts, vl encBlock bs]] (vnat (Ss.count bs)) := cnt h2
  by_cases h3 : bs.length = 0
  · have h3' : bs = [] := List.eq_nil_of_length_eq_zero h3
    subst h3'
    refine QM (by conv=>lhs;simp[-List.map_set,QV,h2]) ?_
    refine QN ?_
    repeat (first|refine QG ?_|refine QX (r:=by conv=>lhs;simp[-List.map_set,QV]) (k:=?_))
    repeat refine QS ?_
    refine QR (r:=by conv=>lhs;simp[-List.map_set,QV]) (k:=?_)
    refine vcall_useH (Alive8_v) (by rfl) ?_
    refine QM (by conv=>lhs;simp[-List.map_set,QV]) ?_
    refine QN ?_
    repeat (first|refine QG ?_|refine QX (r:=by conv=>lhs;simp[-List.map_set,QV]) (k:=?_))
    exact done_pure hwf rfl rfl
  have h3' : ¬ (bs.length : Int) = 0 := by omega
  have h3n : ¬ bs = [] := fun e => h3 (by rw [e]; rfl)
  by_cases h4 : (2048 : Int) ≤ (ts.length : Int)
  · refine QM (by conv=>lhs;simp[-List.map_set,QV,h2,h3,h3',h3n,h4]) ?_
    refine QN ?_
    repeat (first|refine QG ?_|refine QX (r:=by conv=>lhs;simp[-List.map_set,QV]) (k:=?_))
    repeat refine QS ?_
    refine QR (r:=by conv=>lhs;simp[-List.map_set,QV]) (k:=?_)
    refine vcall_useH (Alive8_v) (by rfl) ?_
    refine QM (by conv=>lhs;simp[-List.map_set,QV]) ?_
    refine QN ?_
    repeat (first|refine QG ?_|refine QX (r:=by conv=>lhs;simp[-List.map_set,QV]) (k:=?_))
    exact done_pure hwf rfl rfl
  refine QM (by conv=>lhs;simp[-List.map_set,QV,h2,h3,h3',h3n,h4]) ?_
  refine vcall_useH (cnt') (by rfl) ?_
  by_cases h5 : (4096 : Int) ≤ (Ss.count bs : Int)
  · refine QM (by conv=>lhs;simp[-List.map_set,QV,h5]) ?_
    refine QN ?_
    repeat (first|refine QG ?_|refine QX (r:=by conv=>lhs;simp[-List.map_set,QV]) (k:=?_))
    repeat refine QS ?_
    refine QR (r:=by conv=>lhs;simp[-List.map_set,QV]) (k:=?_)
    refine vcall_useH (Alive8_v) (by rfl) ?_
    refine QM (by conv=>lhs;simp[-List.map_set,QV]) ?_
    refine QN ?_
    repeat (first|refine QG ?_|refine QX (r:=by conv=>lhs;simp[-List.map_set,QV]) (k:=?_))
    exact done_pure hwf rfl rfl
  refine QM (by conv=>lhs;simp[-List.map_set,QV,h5]) ?_
  refine QN ?_
  repeat (first|refine QG ?_|refine QX (r:=by conv=>lhs;simp[-List.map_set,QV]) (k:=?_))
  repeat refine QS ?_
  refine QR (r:=by conv=>lhs;simp[-List.map_set,QV]) (k:=?_)
  refine vcall_any rfl (ccp' _) ?_
  rintro X T ⟨hag0, hwT, ot, ob, cells, ids, rfl, hotg, hob, how, hnd, hids⟩
  rw [St_nil hwf] at hag0 hids
  obtain ⟨J, hJ, hJn⟩ := blockIx block (n := bs.length) (by omega) (by omega)
  have hbk' := hbk _ (List.getElem_mem hJn)
  have hcb := count_mem (List.getElem_mem hJn)
  have hbo : bs[J]? = some bs[J] := List.getElem?_eq_getElem hJn
  have hmp' := hmp J h1 hJn (by omega) (by omega)
  have hmf' := hmf J hJn (by omega)
  obtain ⟨⟨ps, code, ⟨tk, ta, tt, az⟩⟩, hx⟩ : ∃ b, bs[J] = b := ⟨_, rfl⟩
  rw [hx] at hbk' hcb hbo hmf'
  simp only [Ss.Block.small, Bool.and_eq_true, List.all_eq_true, Ss.Ins.small, Ss.Edge.small, decide_eq_true_eq] at hbk'
  obtain ⟨⟨⟨⟨hps, htt⟩, haz⟩, hcode⟩, hto2⟩ := hbk'
  simp only at hcb hmf'
  have hcl : code.length ≤ 4096 := by omega
  obtain ⟨c1, c2, oc, i1, i2, hcells, hc1, rfl, hoc, hw1, hw2⟩ := blk_split how rfl hJn hbo
  simp only at hcells hob hotg how hnd hids hoc
  have hotx : ot < T.nx := (hids ot (by simp)).2
  have hobx : ob < T.nx := (hids ob (by simp)).2
  have hocx : oc < T.nx := (hids oc (by simp)).2
  have hd1 := List.nodup_cons.1 hnd
  have hd2 := List.nodup_cons.1 hd1.2
  have hd3 := List.nodup_append.1 hd2.2
  have hd4 := List.nodup_cons.1 hd3.2.1
  have n1 : ¬ ot = ob := fun e => hd1.1 (by simp [e])
  have n2 : ¬ ot = oc := fun e => hd1.1 (by simp [e])
  have n3 : ¬ ob = oc := fun e => hd2.1 (by simp [e])
  have n1' : ¬ ob = ot := fun e => n1 e.symm
  have n2' : ¬ oc = ot := fun e => n2 e.symm
  have n3' : ¬ oc = ob := fun e => n3 e.symm
  have hTT := St_tell hwT [(oc, some (4, flatC encIns code)), (ob, some (6, cells)), (ot, some (1, ts.map vint))] (by simp [hoc, hob, hotg])
  have hcell : cells[J * 6 + 1]? = some (.slice oc 0 code.length) := by
    rw [hcells, ← hc1, List.getElem?_append_right (by omega)]; simp
  have hcellp : cells[J * 6]? = some (vl vint ps) := by
    rw [hcells, ← hc1, List.getElem?_append_right (by omega)]; simp
  have hcl6 : J * 6 + 6 ≤ cells.length := by
    rw [hcells]; simp; omega
  generalize hV : vsegG Try.prog none = V1
  rw [← hTT]
  subst hV
  have ot1 := fun u l => @St_old T u l _ hotx
  have oc1 := fun u l => @St_old T u l _ hocx
  have ob1 := fun u l => @St_old T u l _ hobx
  have ob2 := fun u l c => @St_updOld T u l c _ hobx
  have ot3 := fun u l => @St_delOld T u l _ hotx
  have hb : (ts.length + 1) * 8 ≤ 140737488355328 := by omega
  have hb' : ts.length + 1 ≤ 140737488355328 := by omega
  have hmz : ¬ (bs.length : Int) = 0 := h3'
  refine QM (by conv=>lhs;simp[-List.map_set,QV]) ?_
  refine QN ?_
  refine vw_base (b' := T.nx) hag0.1 ?_
  repeat (first|refine QG ?_|refine QX (r:=by conv=>lhs;simp[-List.map_set,QV,ot1,oc1,ob1,ot3,n1,n2,n3,n1',n2',n3',hb,hb',uSet,rep0,hJ,hJn,hmz,h3,h3n,hcellp]) (k:=?_))
  apply vw_reach
  · exact Reach.frzCell (k := 4) (j := 3) (i := 3) (n := 1) (cells' := [.int .i64 (ts.length : Int)]) (by decide) (by simp) (by simp) rfl rfl rfl rfl rfl
  simp only [List.set_cons_succ, List.set_cons_zero]
  have hcio := fun ks => how.old (n := T.nx) (fun o ho => (hids o (by simp only [List.mem_cons]; exact .inr (.inr ho))).2) ks
  have hci := fun ks => (hcio ks).1
  have hcr := fun ks => (hcio ks).2
  have obP := fun ks => gcP_old (n := T.nx) ks hobx
  have obT := fun ks => gcTo_old (n := T.nx) ks hobx
  obtain ⟨L, hL⟩ : ∃ L, L = ts.map vint ++ [.int .i64 126] := ⟨_, rfl⟩
  have hLi : ∀ p, V.idsL p L = true := fun p => by rw [hL]; simp [idsL_append]
  have hLr : ∀ p, V.renL p L = L := fun p => by rw [hL]; simp [renL_append]
  rw [← hL]
  have hwf0 := hwf
  clear hwf
  have hwf := hwT
  refine vw_only' [3, 7, 8, 9, 10, 72, 73, 74] (by conv => lhs; simp [Fr.only, Fr.look]) ?_
  refine vw_gc [0, 2, 4] hwf (by decide) (by simp [-List.map_set, hci, hcr, renL_inss, idsL_inss, obP, obT, hLi, hLr]) (by conv => lhs; simp [-List.map_set, hci, hcr, renL_inss, idsL_inss, obP, obT, hLi, hLr]) (by conv => lhs; simp [-List.map_set, hci, hcr, renL_inss, idsL_inss, obP, obT, hLi, hLr]) (by conv => lhs; simp [-List.map_set, hci, hcr, renL_inss, idsL_inss, obP, obT, hLi, hLr]) ?_
  have hXd : Ss.moreX ts ⟨ps, code, ⟨tk, ta, tt, az⟩⟩ = ps.foldl (fun (x : Ss.Ins) (p : Int) => if 0 ≤ p ∧ p < (ts.length : Int) ∧ ts.getD p.toNat 0 = 126 then ⟨124, 0, [p, p], [(ts.length : Int)]⟩ else x) ⟨256, 9, [], [(ts.length : Int)]⟩ := rfl
  generalize hF : (fun (x : Ss.Ins) (p : Int) => if 0 ≤ p ∧ p < (ts.length : Int) ∧ ts.getD p.toNat 0 = 126 then (⟨124, 0, [p, p], [(ts.length : Int)]⟩ : Ss.Ins) else x) = F at hXd
  have hx0 : ([V.int IntKind.i64 256, V.int IntKind.u64 9, V.nils, V.list [V.int IntKind.i64 (ts.length : Int)]] : List V) = [.int .i64 256, .int .u64 9, .nils, vl vint [(ts.length : Int)]] := rfl
  rw [hx0]
  apply vw_reach
  · exact Reach.cell (o := lid T.nx 2) (i := 2) (s := 4) (Ghost.nils_list _) rfl (by rw [St_get]; rfl) rfl (by rw [St_get]; rfl)
  rw [St_upd (by simp)]
  simp only [List.set_cons_succ, List.set_cons_zero]
  repeat refine QS ?_
  refine vw_loopAt [3, 7, 8, 9, 10, 72, 73, 74] rfl (fun c σ S' => ∃ (k : Nat) (x : Ss.Ins), k ≤ ps.length ∧ c = ps.length - k ∧ (ps.drop k).foldl F x = Ss.moreX ts ⟨ps, code, ⟨tk, ta, tt, az⟩⟩ ∧ σ = [(3, .ref (.agg [vl encSig sg, .int .i64 im, vl vint gl, vl V.bool mu, .bool me])), (7, .ptr (lid T.nx 0) 0), (8, vnat ts.length), (9, .ptr ob (J * 6)), (10, .ptr (lid T.nx 2) 0), (72, vl vint ps), (73, vnat ps.length), (74, vnat k)] ∧ S' = St T [(oc, some (4, flatC encIns code)), (ob, some (6, cells)), (ot, none)] [some (4, [vl vint fi, vl vint fo, .slice (lid T.nx 1) 0 (ts.length + 1), .slice ob 0 bs.length]), some (1, L), some (4, [vint x.op, vu x.n, vl vint x.args, vl vint x.outs])]) ps.length ?_ ?_
  · exact ⟨0, ⟨256, 9, [], [(ts.length : Int)]⟩, by omega, rfl, by rw [hXd]; rfl, by simp [Fr.only], rfl⟩
  · rintro c σ T1 ⟨k, x, hk, rfl, hfx, rfl, rfl⟩
    by_cases hkt : k < ps.length
    · have hw := wrapNat hkt (by omega)
      obtain ⟨p, hp⟩ : ∃ p, ps[k] = p := ⟨_, rfl⟩
      rw [Ss.foldl_one F hkt, hp] at hfx
      by_cases g1 : 0 ≤ p
      case neg =>
        have hFp : F x p = x := by rw [← hF]; simp [g1]
        rw [hFp] at hfx
        repeat (first|refine QG ?_|refine QX (r:=by conv=>lhs;simp[-List.map_set,QV,hkt,hp,g1,hw]) (k:=?_))
        refine again_gc [0, 1, 2] (by conv => lhs; simp [Fr.only]) hwf (by decide) (by simp [-List.map_set, hci, hcr, renL_inss, idsL_inss, obP, obT, hLi, hLr]) (by conv => lhs; simp [-List.map_set, hci, hcr, renL_inss, idsL_inss, obP, obT, hLi, hLr]) (by conv => lhs; simp [-List.map_set, hci, hcr, renL_inss, idsL_inss, obP, obT, hLi, hLr]) (by conv => lhs; simp [-List.map_set, hci, hcr, renL_inss, idsL_inss, obP, obT, hLi, hLr]) ⟨?_, k + 1, x, hkt, rfl, hfx, by simp, by simp⟩
        omega
      obtain ⟨q, rfl⟩ : ∃ q : Nat, p = q := ⟨p.toNat, by omega⟩
      by_cases g2 : q < ts.length
      case neg =>
        have hFp : F x q = x := by rw [← hF]; simp [g2]
        rw [hFp] at hfx
        have g2' : ¬ (q : Int) < (ts.length : Int) := by omega
        repeat (first|refine QG ?_|refine QX (r:=by conv=>lhs;simp[-List.map_set,QV,hkt,hp,g1,g2,g2',hw]) (k:=?_))
        refine again_gc [0, 1, 2] (by conv => lhs; simp [Fr.only]) hwf (by decide) (by simp [-List.map_set, hci, hcr, renL_inss, idsL_inss, obP, obT, hLi, hLr]) (by conv => lhs; simp [-List.map_set, hci, hcr, renL_inss, idsL_inss, obP, obT, hLi, hLr]) (by conv => lhs; simp [-List.map_set, hci, hcr, renL_inss, idsL_inss, obP, obT, hLi, hLr]) (by conv => lhs; simp [-List.map_set, hci, hcr, renL_inss, idsL_inss, obP, obT, hLi, hLr]) ⟨?_, k + 1, x, hkt, rfl, hfx, by simp, by simp⟩
        omega
      have g2' : (q : Int) < (ts.length : Int) := by omega
      have g2s : (q : Int) < (ts.length : Int) + 1 := by omega
      have g2n : q < ts.length + 1 := by omega
      have hLq : L[q]? = some (.int .i64 ts[q]) := by
        rw [hL, List.getElem?_append_left (by simpa using g2)]; simp [g2, vint]
      by_cases g3 : ts[q] = 126
      case neg =>
        have hFp : F x q = x := by rw [← hF]; simp [g2, g3]
        rw [hFp] at hfx
        repeat (first|refine QG ?_|refine QX (r:=by conv=>lhs;simp[-List.map_set,QV,hkt,hp,g1,g2,g2',g2s,g2n,hLq,g3,hw]) (k:=?_))
        refine again_gc [0, 1, 2] (by conv => lhs; simp [Fr.only]) hwf (by decide) (by simp [-List.map_set, hci, hcr, renL_inss, idsL_inss, obP, obT, hLi, hLr]) (by conv => lhs; simp [-List.map_set, hci, hcr, renL_inss, idsL_inss, obP, obT, hLi, hLr]) (by conv => lhs; simp [-List.map_set, hci, hcr, renL_inss, idsL_inss, obP, obT, hLi, hLr]) (by conv => lhs; simp [-List.map_set, hci, hcr, renL_inss, idsL_inss, obP, obT, hLi, hLr]) ⟨?_, k + 1, x, hkt, rfl, hfx, by simp, by simp⟩
        omega
      have hFp : F x q = ⟨124, 0, [(q : Int), (q : Int)], [(ts.length : Int)]⟩ := by rw [← hF]; simp [g2, g3]
      rw [hFp] at hfx
      repeat (first|refine QG ?_|refine QX (r:=by conv=>lhs;simp[-List.map_set,QV,hkt,hp,g1,g2,g2',g2s,g2n,hLq,g3,rep0,hw]) (k:=?_))
      show Again _ _ _ _ _ _ _
      refine again_store (fun σ => Reach.frzCell (k := 2) (j := 3) (i := 2) (n := 2) (cells' := [.int .i64 (q : Int), .int .i64 (q : Int)]) (by decide) (by simp) (by simp) rfl rfl rfl rfl rfl) ?_
      simp only [List.set_cons_succ, List.set_cons_zero]
      refine again_store (fun σ => Reach.frzCell (k := 2) (j := 4) (i := 3) (n := 1) (cells' := [.int .i64 (ts.length : Int)]) (by decide) (by simp) (by simp) rfl rfl rfl rfl rfl) ?_
      simp only [List.set_cons_succ, List.set_cons_zero]
      refine again_gc [0, 1, 2] (by conv => lhs; simp [Fr.only]) hwf (by decide) (by simp [-List.map_set, hci, hcr, renL_inss, idsL_inss, obP, obT, hLi, hLr]) (by conv => lhs; simp [-List.map_set, hci, hcr, renL_inss, idsL_inss, obP, obT, hLi, hLr]) (by conv => lhs; simp [-List.map_set, hci, hcr, renL_inss, idsL_inss, obP, obT, hLi, hLr]) (by conv => lhs; simp [-List.map_set, hci, hcr, renL_inss, idsL_inss, obP, obT, hLi, hLr]) ⟨?_, k + 1, ⟨124, 0, [(q : Int), (q : Int)], [(ts.length : Int)]⟩, hkt, rfl, hfx, by simp, by simp [vl]⟩
      omega
    rw [Ss.foldl_end _ hkt] at hfx
    repeat (first|refine QG ?_|refine QX (r:=by conv=>lhs;simp[-List.map_set,QV,hkt]) (k:=?_))
    have hfl : (flatC encIns code).length = code.length * 4 := by rw [flatC_len (s := 4) (fun _ => by rw [encIns_cells]; rfl)]
    have hbc : (code.length + 1) * 64 ≤ 140737488355328 := by omega
    have hbc' : code.length + 1 ≤ 140737488355328 := by omega
    have oc3 := fun u l => @St_delOld T u l _ hocx
    have hcs : J * 6 + 1 < cells.length := by omega
    repeat refine QS ?_
    refine vw_drawW (St T [(oc, none), (ob, none), (ot, none)] [none, none, some (4, [vint x.op, vu x.n, vl vint x.args, vl vint x.outs])]) (St T [(oc, none), (ob, some (6, [])), (ot, none)] []) [104] rfl (by kernel_rfl) (by conv => lhs; reduce) (by conv => lhs; reduce) (by kernel_rfl) (by kernel_rfl) (ok_St (by simp [subU, shpU, subL, shpL])) (by conv => lhs; simp [-List.map_set,QV, oc1, ob1, n1, n2, n3, n1', n2', n3', hcell]) ?_
    refine vseg_write rfl (by conv => lhs; simp [-List.map_set,QV, rep0]) (ok_St (by simp [subU, shpU, subL, shpL])) ?_
    refine QM (by conv=>lhs;simp[-List.map_set,QV]) ?_
    refine vseg_write rfl (by conv => lhs; simp [-List.map_set,QV, oc1, oc3, n1, n2, n3, n1', n2', n3', hfl, hbc, hbc', uSet]) (ok_St (by simp [subU, shpU, subL, shpL])) ?_
    refine QM (by conv=>lhs;simp[-List.map_set,QV,ob1,n1,n2,n3,n1',n2',n3']) ?_
    refine vseg_write rfl (by conv => lhs; simp [-List.map_set,QV, ob1, ob2, n1, n2, n3, n1', n2', n3', hcs, uSet]) (ok_St (by simp [subU, shpU, subL, shpL])) ?_
    refine QM (by conv=>lhs;simp[-List.map_set,QV]) ?_
    refine QN ?_
    repeat refine QS ?_
    refine QR (r:=by conv=>lhs;simp[-List.map_set,QV]) (k:=?_)
    have hmo : Ss.more ⟨⟨fi, fo⟩, ts, bs⟩ J = ⟨⟨fi, fo⟩, ts ++ [126], bs.set J ⟨ps, code ++ [x], ⟨tk, ta, tt, az⟩⟩⟩ := by
      rw [hfx]; simp [Ss.more, Ss.addB, hJn, hx]
    have cc3 := Check_v ⟨sg, im, gl, mu, me⟩ _ he (hmf' hcl)
    rw [hmp', hmo] at cc3
    obtain ⟨z, hz⟩ : ∃ z, z = true := ⟨_, rfl⟩
    rw [← hz] at cc3
    have cc4 : VPure Try.prog 11 [.agg [vl encSig sg, .int .i64 im, vl vint gl, vl V.bool mu, .bool me], .agg [vl vint fi, vl vint fo, vl vint (ts ++ [126]), vl encBlock (bs.set J ⟨ps, code ++ [x], ⟨tk, ta, tt, az⟩⟩)]] (.bool z) := cc3
    have hnl : (code ++ [x]).length = code.length + 1 := by simp
    generalize hS1 : St T _ _ = S1
    have hsame : ∀ o, o < T.nx → o ≠ ob → o ≠ oc → o ≠ ot → S1.get o = T.get o := by
      intro o ho h1 h2 h3
      rw [← hS1, St_old ho]
      simp [uGet, h1, h2, h3]
    have hobS : S1.get ob = some (6, c1 ++ ([vl vint ps, .slice (lid T.nx 4) 0 (code ++ [x]).length, vint tk, vint ta, vl encEdge tt, vl vint az] ++ c2)) := by
      rw [← hS1, ob1]
      have : cells.set (J * 6 + 1) (.slice (lid T.nx 4) 0 (code.length + 1)) = c1 ++ ([vl vint ps, .slice (lid T.nx 4) 0 (code ++ [x]).length, vint tk, vint ta, vl encEdge tt, vl vint az] ++ c2) := by
        rw [hcells, List.set_append_right _ _ (by omega), hc1, Nat.add_sub_cancel_left, hnl]
        rfl
      rw [this]
      simp [uGet, n3]
    have hocS : S1.get (lid T.nx 4) = some (4, flatC encIns (code ++ [x])) := by
      rw [← hS1, St_get, flatC_snoc, encIns_cells]; rfl
    have hotS : S1.get (lid T.nx 1) = some (1, (ts ++ [126]).map vint) := by
      rw [← hS1, St_get, List.map_append, hL]; rfl
    have hi1 : ∀ o ∈ i1, o < T.nx ∧ o ≠ ob ∧ o ≠ oc ∧ o ≠ ot := fun o ho => ⟨(hids o (by simp [ho])).2, fun e => hd2.1 (by rw [← e]; simp [ho]), fun e => hd3.2.2 o ho oc (by simp) e, fun e => hd1.1 (by rw [← e]; simp [ho])⟩
    have hi2 : ∀ o ∈ i2, o < T.nx ∧ o ≠ ob ∧ o ≠ oc ∧ o ≠ ot := fun o ho => ⟨(hids o (by simp [ho])).2, fun e => hd2.1 (by rw [← e]; simp [ho]), fun e => hd4.1 (by rw [← e]; exact ho), fun e => hd1.1 (by rw [← e]; simp [ho])⟩
    have hown : OwL S1 (reps bs.length blkT) (c1 ++ ([vl vint ps, .slice (lid T.nx 4) 0 (code ++ [x]).length, vint tk, vint ta, vl encEdge tt, vl vint az] ++ c2)) (flatC encBlock (bs.set J ⟨ps, code ++ [x], ⟨tk, ta, tt, az⟩⟩)) (i1 ++ lid T.nx 4 :: i2) :=
      blk_join (b := ⟨ps, code ++ [x], ⟨tk, ta, tt, az⟩⟩) (hw1.mono fun o ho => hsame o (hi1 o ho).1 (hi1 o ho).2.1 (hi1 o ho).2.2.1 (hi1 o ho).2.2.2) (hw2.mono fun o ho => hsame o (hi2 o ho).1 (hi2 o ho).2.1 (hi2 o ho).2.2.1 (hi2 o ho).2.2.2) rfl hJn hocS
    have hnew : ∀ o q, o < T.nx → o ≠ lid T.nx q := fun o q ho e => by rw [e, lid] at ho; omega
    have hndS : (lid T.nx 1 :: ob :: (i1 ++ lid T.nx 4 :: i2)).Nodup := by
      refine List.nodup_cons.2 ⟨?_, List.nodup_cons.2 ⟨?_, List.nodup_append.2 ⟨hd3.1, List.nodup_cons.2 ⟨?_, hd4.2⟩, ?_⟩⟩⟩
      · simp only [List.mem_append, List.mem_cons, not_or]
        exact ⟨fun e => hnew ob 1 hobx e.symm, fun h => hnew _ 1 (hi1 _ h).1 rfl, by simp [lid], fun h => hnew _ 1 (hi2 _ h).1 rfl⟩
      · simp only [List.mem_append, List.mem_cons, not_or]
        exact ⟨fun h => hd2.1 (by simp [h]), hnew ob 4 hobx, fun h => hd2.1 (by simp [h])⟩
      · exact fun h => hnew _ 4 (hi2 _ h).1 rfl
      · intro a ha b hb
        rcases List.mem_cons.1 hb with rfl | hb
        · exact hnew a 4 (hi1 a ha).1
        · exact hd3.2.2 a ha b (by simp [hb])
    have hg := fn_ghostT (fi := fi) (fo := fo) (m := ts.length + 1) hown hobS (by simp) hotS (by simp) hndS
    have hfin : Agree S (S1.dels (lid T.nx 1 :: ob :: (i1 ++ lid T.nx 4 :: i2))) := by
      have hle := hag0.1
      refine ⟨?_, fun o ho => ?_⟩
      · rw [dels_nx, ← hS1, St_nx, lid]; omega
      · have h3 : ∀ o' ∈ ot :: ob :: (i1 ++ oc :: i2), o ≠ o' := fun o' ho' e => by
          have := (hids o' ho').1; omega
        rw [dels_at, if_neg, hsame o (by omega) (h3 ob (by simp)) (h3 oc (by simp)) (h3 ot (by simp))]
        · exact hag0.2 o ho
        · simp only [List.mem_cons, List.mem_append, not_or]
          exact ⟨hnew o 1 (by omega), h3 ob (by simp), fun h => h3 o (by simp [h]) rfl, hnew o 4 (by omega), fun h => h3 o (by simp [h]) rfl⟩
    refine vcall_useG (xs' := [.agg [vl encSig sg, .int .i64 im, vl vint gl, vl V.bool mu, .bool me], .agg [vl vint fi, vl vint fo, vl vint (ts ++ [126]), vl encBlock (bs.set J ⟨ps, code ++ [x], ⟨tk, ta, tt, az⟩⟩)]]) rfl (GhostArgs.one [_] [] hg) cc4 ?_
    refine QM (by conv=>lhs;simp[-List.map_set,QV,hz]) ?_
    refine vcall_useH (Alive8_v) (by rfl) ?_
    refine QM (by conv=>lhs;simp[-List.map_set,QV]) ?_
    refine QN ?_
    repeat (first|refine QG ?_|refine QX (r:=by conv=>lhs;simp[-List.map_set,QV]) (k:=?_))
    exact done_agree hwf0 hfin (by simp) rfl
end Go.Vw

namespace Go.Vw
open Go.Proofs Go.RowKit
set_option maxRecDepth 10000
set_option maxHeartbeats 8000000

theorem WInts_v (l m : List Int) (hl : l.length < 2^63) : VPure Try.prog 21 [vl vint l, vl vint m] (.bool (decide (l = m))) := by
  intro S
  rw [← eqF_dec]
  generalize hp : (fun x y : Int => decide (x = y)) = p
  by_cases hlm : l.length = m.length
  · have hlm' : (l.length : Int) = (m.length : Int) := by omega
    refine vcalls_start (c := bodyOf Try.f21) Try.func21 rfl rfl (by simp [Try.ntmps21]) ?_
    rw [Try.ntmps21]
    intro hwf
    repeat (first|refine QG ?_|refine QX (r:=by conv=>lhs;simp[-List.map_set,QV,hlm,hlm']) (k:=?_))
    repeat refine QS ?_
    refine vw_loopAt [0, 1, 5] rfl (fun c σ S' => ∃ (k : Nat), k ≤ l.length ∧ c = l.length - k ∧ eqF p (l.drop k) (m.drop k) = eqF p l m ∧ σ = [(0, vl vint l), (1, vl vint m), (5, vnat k)] ∧ S' = St S [] []) l.length ?_ ?_
    · exact ⟨0, by omega, rfl, rfl, by simp [Fr.only], rfl⟩
    · rintro c σ T ⟨k, hk, rfl, hd, rfl, rfl⟩
      by_cases hkt : k < l.length
      · have hkm : k < m.length := by omega
        have hw := wrapNat hkt hl
        have hst : eqF p (l.drop k) (m.drop k) = (p l[k] m[k] && eqF p (l.drop (k + 1)) (m.drop (k + 1))) := by rw [List.drop_eq_getElem_cons hkt, List.drop_eq_getElem_cons hkm, eqF]
        obtain ⟨x, hx⟩ : ∃ x, l[k] = x := ⟨_, rfl⟩
        obtain ⟨y, hy⟩ : ∃ y, m[k] = y := ⟨_, rfl⟩
        rw [hx, hy] at hst
        by_cases hxy : x = y
        · rw [show p x y = true by rw [← hp]; simp [hxy]] at hst
          repeat (first|refine QG ?_|refine QX (r:=by conv=>lhs;simp[-List.map_set,QV,hkt,hkm,hx,hy,hxy]) (k:=?_))
          show Again _ _ _ _ _ _ _
          exact again ⟨Nat.sub_lt_sub_left hkt (Nat.lt_succ_self k), k + 1, hkt, rfl, by rw [← hd, hst]; rfl, by simp [Fr.only, hw], rfl⟩
        · rw [show p x y = false by rw [← hp]; simp [hxy]] at hst
          repeat (first|refine QG ?_|refine QX (r:=by conv=>lhs;simp[-List.map_set,QV,hkt,hkm,hx,hy,hxy]) (k:=?_))
          exact done_pure hwf (by rw [← hd, hst]; rfl) rfl
      · have e : l.drop k = [] := by rw [List.drop_eq_nil_iff]; omega
        have e' : m.drop k = [] := by rw [List.drop_eq_nil_iff]; omega
        rw [e, e'] at hd
        have hkm : ¬ k < m.length := by omega
        repeat (first|refine QG ?_|refine QX (r:=by conv=>lhs;simp[-List.map_set,QV,hkt,hkm]) (k:=?_))
        exact done_pure hwf (by rw [← hd]; rfl) rfl
  · have hlm' : ¬ (l.length : Int) = (m.length : Int) := by omega
    have e : eqF p l m = false := eqF_len hlm
    rw [e]
    refine vcalls_start (c := bodyOf Try.f21) Try.func21 rfl rfl (by simp [Try.ntmps21]) ?_
    rw [Try.ntmps21]
    intro hwf
    repeat (first|refine QG ?_|refine QX (r:=by conv=>lhs;simp[-List.map_set,QV,hlm,hlm']) (k:=?_))
    exact done_pure hwf rfl rfl

theorem SameSig_v (a b : Ss.Sig) (h1 : a.inn.length < 2^63) (h2 : a.out.length < 2^63) : VPure Try.prog 20 [encSig a, encSig b] (.bool (decide (a = b))) := by
  intro S
  obtain ⟨a1, a2⟩ := a
  obtain ⟨b1, b2⟩ := b
  simp only [Ss.Sig.mk.injEq] at *
  refine vcalls_start (c := bodyOf Try.f20) Try.func20 rfl rfl (by simp [Try.ntmps20]) ?_
  rw [Try.ntmps20]
  intro hwf
  repeat (first|refine QG ?_|refine QX (r:=by conv=>lhs;simp[-List.map_set,QV]) (k:=?_))
  repeat refine QS ?_
  refine QR (r:=by conv=>lhs;simp[-List.map_set,QV]) (k:=?_)
  refine vcall_use rfl (WInts_v a1 b1 h1) ?_
  by_cases h : a1 = b1
  · refine QM (by conv=>lhs;simp[-List.map_set,QV,h]) ?_
    refine vcall_use rfl (WInts_v a2 b2 h2) ?_
    refine QM (by conv=>lhs;simp[-List.map_set,QV]) ?_
    refine QN ?_
    repeat (first|refine QG ?_|refine QX (r:=by conv=>lhs;simp[-List.map_set,QV]) (k:=?_))
    exact done_pure hwf (by simp [h]) rfl
  · refine QM (by conv=>lhs;simp[-List.map_set,QV,h]) ?_
    refine QN ?_
    repeat (first|refine QG ?_|refine QX (r:=by conv=>lhs;simp[-List.map_set,QV]) (k:=?_))
    exact done_pure hwf (by simp [h]) rfl

theorem SameIns_v (x y : Ss.Ins) (h : x.args.length < 2^63) (h' : x.outs.length < 2^63) : VPure Try.prog 23 [encIns x, encIns y] (.bool (decide (x = y))) := by
  intro S
  obtain ⟨a1, a2, a3, a4⟩ := x
  obtain ⟨b1, b2, b3, b4⟩ := y
  simp only [Ss.Ins.mk.injEq] at *
  refine vcalls_start (c := bodyOf Try.f23) Try.func23 rfl rfl (by simp [Try.ntmps23]) ?_
  rw [Try.ntmps23]
  intro hwf
  by_cases h1 : a1 = b1
  · by_cases h2 : a2 = b2
    · by_cases h3 : a3 = b3
      · repeat (first|refine QG ?_|refine QX (r:=by conv=>lhs;simp[-List.map_set,QV,h1,h2]) (k:=?_))
        repeat refine QS ?_
        refine QR (r:=by conv=>lhs;simp[-List.map_set,QV,h1,h2]) (k:=?_)
        refine vcall_use rfl (WInts_v a3 b3 h) ?_
        refine QM (by conv=>lhs;simp[-List.map_set,QV,h3]) ?_
        refine vcall_use rfl (WInts_v a4 b4 h') ?_
        refine QM (by conv=>lhs;simp[-List.map_set,QV]) ?_
        refine QN ?_
        repeat (first|refine QG ?_|refine QX (r:=by conv=>lhs;simp[-List.map_set,QV]) (k:=?_))
        exact done_pure hwf (by simp [h1, h2, h3]) rfl
      · repeat (first|refine QG ?_|refine QX (r:=by conv=>lhs;simp[-List.map_set,QV,h1,h2]) (k:=?_))
        repeat refine QS ?_
        refine QR (r:=by conv=>lhs;simp[-List.map_set,QV,h1,h2]) (k:=?_)
        refine vcall_use rfl (WInts_v a3 b3 h) ?_
        refine QM (by conv=>lhs;simp[-List.map_set,QV,h3]) ?_
        refine QN ?_
        repeat (first|refine QG ?_|refine QX (r:=by conv=>lhs;simp[-List.map_set,QV]) (k:=?_))
        exact done_pure hwf (by simp [h3]) rfl
    · repeat (first|refine QG ?_|refine QX (r:=by conv=>lhs;simp[-List.map_set,QV,h1,h2]) (k:=?_))
      exact done_pure hwf (by simp [h2]) rfl
  · repeat (first|refine QG ?_|refine QX (r:=by conv=>lhs;simp[-List.map_set,QV,h1]) (k:=?_))
    exact done_pure hwf (by simp [h1]) rfl

theorem eqF_one {α : Type} {p : α → α → Bool} {l m : List α} {k : Nat} (h : k < l.length) (h' : k < m.length) : eqF p (l.drop k) (m.drop k) = (p l[k] m[k] && eqF p (l.drop (k + 1)) (m.drop (k + 1))) := by
  rw [List.drop_eq_getElem_cons h, List.drop_eq_getElem_cons h', eqF]
theorem eqF_end {α : Type} {p : α → α → Bool} {l m : List α} {k : Nat} (h : ¬ k < l.length) (hl : l.length = m.length) : eqF p (l.drop k) (m.drop k) = true := by
  rw [show l.drop k = [] by rw [List.drop_eq_nil_iff]; omega, show m.drop k = [] by rw [List.drop_eq_nil_iff]; omega]; rfl

theorem sameTerm_v (x y : Ss.Term) (hx : x.Fits) : VPure Try.prog 22 [encTerm x, encTerm y] (.bool (decide (x = y))) := by
  intro S
  obtain ⟨a3, a4, a5, a6⟩ := x
  obtain ⟨b3, b4, b5, b6⟩ := y
  obtain ⟨_, _, ⟨f4, f5⟩, ⟨f6, _⟩⟩ := hx
  simp only at f4 f5 f6
  simp only [Ss.Term.mk.injEq] at *
  have g5 : a5.length < 2^63 := by omega
  have g6 : a6.length < 2^63 := by omega
  refine vcalls_start (c := bodyOf Try.f22) Try.func22 rfl rfl (by simp [Try.ntmps22]) ?_
  rw [Try.ntmps22]
  intro hwf
  by_cases h3 : a3 = b3
  · by_cases h4 : a4 = b4
    · repeat (first|refine QG ?_|refine QX (r:=by conv=>lhs;simp[-List.map_set,QV,h3,h4]) (k:=?_))
      repeat refine QS ?_
      refine QR (r:=by conv=>lhs;simp[-List.map_set,QV,h3,h4]) (k:=?_)
      refine vcall_use rfl (WInts_v a6 b6 g6) ?_
      by_cases h6 : a6 = b6
      · by_cases hlm : a5.length = b5.length
        · have hlm' : (a5.length : Int) = (b5.length : Int) := by omega
          refine QM (by conv=>lhs;simp[-List.map_set,QV,h6,hlm,hlm']) ?_
          refine QN ?_
          repeat (first|refine QG ?_|refine QX (r:=by conv=>lhs;simp[-List.map_set,QV]) (k:=?_))
          rw [show decide (a3 = b3 ∧ a4 = b4 ∧ a5 = b5 ∧ a6 = b6) = eqF (fun x y => decide (x = y)) a5 b5 by rw [eqF_dec]; simp [h3, h4, h6]]
          generalize hp : (fun x y : Ss.Edge => decide (x = y)) = p
          repeat refine QS ?_
          refine vw_loopAt [2, 3, 5] rfl (fun c σ S' => ∃ (k : Nat), k ≤ a5.length ∧ c = a5.length - k ∧ eqF p (a5.drop k) (b5.drop k) = eqF p a5 b5 ∧ σ = [(2, .ptr (lid S.nx 0) 0), (3, .ptr (lid S.nx 1) 0), (5, vnat k)] ∧ S' = St S [] [some (4, [vint b3, vint b4, vl encEdge a5, vl vint b6]), some (4, [vint b3, vint b4, vl encEdge b5, vl vint b6])]) a5.length ?_ ?_
          · exact ⟨0, by omega, rfl, rfl, by simp [Fr.only], rfl⟩
          · rintro c σ T ⟨k, hk, rfl, hd, rfl, rfl⟩
            by_cases hkt : k < a5.length
            · have hkm : k < b5.length := by omega
              have hw := wrapNat hkt g5
              have hst := eqF_one (p := p) hkt hkm
              have hfe := f5 _ (List.getElem_mem hkt)
              obtain ⟨⟨x1, x2⟩, hx⟩ : ∃ x, a5[k] = x := ⟨_, rfl⟩
              obtain ⟨⟨y1, y2⟩, hy⟩ : ∃ y, b5[k] = y := ⟨_, rfl⟩
              rw [hx] at hfe
              obtain ⟨_, ⟨q1, _⟩⟩ := hfe
              simp only at q1
              rw [hx, hy] at hst
              have hpp : p ⟨x1, x2⟩ ⟨y1, y2⟩ = decide (x1 = y1 ∧ x2 = y2) := by rw [← hp]; simp
              by_cases e1 : x1 = y1
              · repeat (first|refine QG ?_|refine QX (r:=by conv=>lhs;simp[-List.map_set,QV,hkt,hkm,hx,hy,e1]) (k:=?_))
                repeat refine QS ?_
                refine QD (r:=by conv=>lhs;simp[-List.map_set,QV,hkt,hkm,hx,hy,e1]) (k:=?_)
                refine vcall_use rfl (WInts_v x2 y2 (by omega)) ?_
                by_cases e2 : x2 = y2
                · rw [hpp, show decide (x1 = y1 ∧ x2 = y2) = true by simp [e1, e2]] at hst
                  refine QM (by conv=>lhs;simp[-List.map_set,QV,e2]) ?_
                  refine QN ?_
                  repeat (first|refine QG ?_|refine QX (r:=by conv=>lhs;simp[-List.map_set,QV]) (k:=?_))
                  show Again _ _ _ _ _ _ _
                  exact again ⟨Nat.sub_lt_sub_left hkt (Nat.lt_succ_self k), k + 1, hkt, rfl, by rw [← hd, hst]; rfl, by simp [Fr.only, hw], rfl⟩
                · rw [hpp, show decide (x1 = y1 ∧ x2 = y2) = false by simp [e2]] at hst
                  refine QM (by conv=>lhs;simp[-List.map_set,QV,e2]) ?_
                  refine QN ?_
                  repeat (first|refine QG ?_|refine QX (r:=by conv=>lhs;simp[-List.map_set,QV]) (k:=?_))
                  exact done_pure hwf (by rw [← hd, hst]; rfl) rfl
              · rw [hpp, show decide (x1 = y1 ∧ x2 = y2) = false by simp [e1]] at hst
                repeat (first|refine QG ?_|refine QX (r:=by conv=>lhs;simp[-List.map_set,QV,hkt,hkm,hx,hy,e1]) (k:=?_))
                exact done_pure hwf (by rw [← hd, hst]; rfl) rfl
            · rw [eqF_end hkt hlm] at hd
              have hkm : ¬ k < b5.length := by omega
              repeat (first|refine QG ?_|refine QX (r:=by conv=>lhs;simp[-List.map_set,QV,hkt,hkm]) (k:=?_))
              exact done_pure hwf (by rw [← hd]; rfl) rfl
        · have hne : ¬ a5 = b5 := by rintro rfl; exact hlm rfl
          have hlm' : ¬ (a5.length : Int) = (b5.length : Int) := by omega
          refine QM (by conv=>lhs;simp[-List.map_set,QV,h6,hlm,hlm']) ?_
          refine QN ?_
          repeat (first|refine QG ?_|refine QX (r:=by conv=>lhs;simp[-List.map_set,QV]) (k:=?_))
          exact done_pure hwf (by simp [hne]) rfl
      · refine QM (by conv=>lhs;simp[-List.map_set,QV,h6]) ?_
        refine QN ?_
        repeat (first|refine QG ?_|refine QX (r:=by conv=>lhs;simp[-List.map_set,QV]) (k:=?_))
        exact done_pure hwf (by simp [h6]) rfl
    · repeat (first|refine QG ?_|refine QX (r:=by conv=>lhs;simp[-List.map_set,QV,h3,h4]) (k:=?_))
      exact done_pure hwf (by simp [h4]) rfl
  · repeat (first|refine QG ?_|refine QX (r:=by conv=>lhs;simp[-List.map_set,QV,h3]) (k:=?_))
    exact done_pure hwf (by simp [h3]) rfl
end Go.Vw
