import Derived.Test.YtmfpoangempgaaaC32
import Derived.Test.YtmfpoangempgaaaC37
import Derived.Test.YtmfpoangempgaaaC38
/-
  Part of the proof (texts SLItself).
-/
set_option linter.unusedVariables false
set_option linter.unusedSimpArgs false
namespace Ss
theorem putv_self {to : List Int} (h : ∀ (i : Nat) v, to[i]? = some v → v = i) (v : Int) : putv to v = v := by
  unfold putv
  split
  · rename_i hv
    have hlt : v.toNat < to.length := by omega
    rw [List.getD_eq_getElem?_getD, List.getElem?_eq_getElem hlt, Option.getD_some]
    have := h v.toNat _ (List.getElem?_eq_getElem hlt)
    omega
  · rfl
theorem replace_self {to : List Int} (h : ∀ (i : Nat) v, to[i]? = some v → v = i) (f : Fn) : replace f to = f := by
  have e : putv to = putv [] := by funext v; rw [putv_self h, putv_nil]
  have e1 : repIns to = repIns [] := by funext x; simp [repIns, e]
  have e2 : repEdge to = repEdge [] := by funext x; simp [repEdge, e]
  have e3 : repTerm to = repTerm [] := by funext x; simp [repTerm, e, e2]
  have e4 : repBlock to = repBlock [] := by funext x; simp [repBlock, e1, e3]
  have e5 : replace f to = replace f [] := by simp only [replace, e4]
  rw [e5, replace_nil]
end Ss
namespace Go.Vw
open Go.Proofs Go.RowKit
set_option maxRecDepth 10000
set_option maxHeartbeats 2000000

theorem RCopyP_v (f : Ss.Fn) (hf : f.Fits) (hs : f.small = true) : VPure Try.prog 13 [encFn f] (encFn f) := by
  intro S
  refine vcalls_wf fun hwf => vcalls_postB ((RCopyT_v S f hf hs).mono ?_)
  rintro r T ⟨hag, hwT, ot, ob, cells, ids, rfl, hot, hob, how, hnd, hids⟩
  have hg := fn_ghostT (fi := f.sig.inn) (fo := f.sig.out) how hob rfl hot rfl hnd
  have hfin : Agree S (T.dels (ot :: ob :: ids)) := by
    refine ⟨by rw [dels_nx]; exact hag.1, fun o ho => ?_⟩
    rw [dels_at, if_neg]
    · exact hag.2 o ho
    · intro hm
      have := (hids o hm).1; omega
  exact done_ghost hwf (hg.toB _) hfin (by simp [encFn])
theorem fn_ghostD {S : Store} {fi fo ts : List Int} {bs : List Ss.Block} {cells : List V} {ot ob n m : Nat} {ids : List Nat} (h : OwL S (reps n blkD) cells (flatC encBlock bs) ids) (hb : S.get ob = some (6, cells)) (hn : bs.length = n) (ht : S.get ot = some (1, ts.map vint)) (hm : ts.length = m) (hd : (ot :: ob :: ids).Nodup) :
    Ghost (.agg [vl vint fi, vl vint fo, .slice ot 0 m, .slice ob 0 n]) S (.agg [vl vint fi, vl vint fo, vl vint ts, vl encBlock bs]) (S.dels (ot :: ob :: ids)) := by
  subst hn
  subst hm
  refine ghost_agg ?_
  have hw : OwL S [.c, .c, .s (List.replicate 1 .c), .s blkD] [vl vint fi, vl vint fo, .slice ot 0 ts.length, .slice ob 0 bs.length] [vl vint fi, vl vint fo, vl vint ts, vl encBlock bs] (ot :: ob :: ids) := by
    refine .c rfl (.c rfl (OwL.slice (enc := vint) (fun _ => rfl) (fun _ => rfl) ts (by rw [flatC_vint]; exact ht) ?_))
    have := OwL.s (S := S) (o := ob) (tys := blkD) (cells := cells) (ys := bs.map encBlock) (i := ids) (j := []) hb (fun y hy => (by
      obtain ⟨b, _, rfl⟩ := List.mem_map.1 hy
      exact ⟨by rw [encBlock_cells]; rfl, encBlock_closed b⟩)) (by rw [List.length_map, flatC_map]; exact h) .nil
    rw [List.length_map, List.append_nil] at this
    exact this
  exact hw.freeze hd S fun _ _ => rfl

theorem Itself_v (f : Ss.Fn) (hf : f.Fits) : VPure Try.prog 6 [encFn f] (.bool true) := by
  intro S
  have csm := RSmall_v f hf
  have csa := RSame_v f f hf hf
  have e3 : (f.small && f.small && decide (f = f)) = f.small := by simp
  rw [e3] at csa
  have ccp := RCopyP_v f hf
  have crp := fun S to => SReplace_v S f to hf
  have hsm2 := Ss.small_iff f
  have hrs := fun to h => @Ss.replace_self to h f
  have hfb : ∀ b ∈ f.blocks, b.Fits := hf.2.2.2
  generalize hsm : f.small = sm at *
  obtain ⟨⟨fi, fo⟩, ts, bs⟩ := f
  simp only at *
  have csm' : VPure Try.prog 9 [.agg [vl vint fi, vl vint fo, vl vint ts, vl encBlock bs]] (.bool sm) := csm
  refine vcalls_start (c := bodyOf Try.f6) Try.func6 rfl rfl (by simp [Try.ntmps6]) ?_
  rw [Try.ntmps6]
  intro hwf
  repeat refine QS ?_
  refine QR (r:=by conv=>lhs;simp[-List.map_set,QV]) (k:=?_)
  refine QN ?_
  refine vw_ghost' 1 rfl ((refSt (k := 0) (by simp) (by rfl) (by rfl) (by simp))) (by conv => lhs; simp [Fr.set]) ?_
  simp only [List.set_cons_succ, List.set_cons_zero]
  refine vw_only' [1, 2] (by conv => lhs; simp [Fr.only, Fr.look]) ?_
  refine vw_gc [] hwf (by decide) (by simp [-List.map_set]) (by conv => lhs; simp [-List.map_set]) (by conv => lhs; simp [-List.map_set]) (by conv => lhs; simp [-List.map_set]) ?_
  repeat refine QS ?_
  refine QR (r:=by conv=>lhs;simp[-List.map_set,QV]) (k:=?_)
  refine vcall_useH (csm') (by rfl) ?_
  by_cases h2 : sm = true
  case neg =>
    have h2' : sm = false := by simpa using h2
    refine QM (by conv=>lhs;simp[-List.map_set,QV,h2']) ?_
    refine QN ?_
    repeat (first|refine QG ?_|refine QX (r:=by conv=>lhs;simp[-List.map_set,QV]) (k:=?_))
    repeat refine QS ?_
    refine QR (r:=by conv=>lhs;simp[-List.map_set,QV]) (k:=?_)
    refine vcall_useH (Alive8_v) (by rfl) ?_
    refine QM (by conv=>lhs;simp[-List.map_set,QV]) ?_
    refine QN ?_
    repeat (first|refine QG ?_|refine QX (r:=by conv=>lhs;simp[-List.map_set,QV]) (k:=?_))
    exact done_pure hwf rfl rfl
  obtain ⟨hh, hbk, hcnt⟩ := hsm2.1 h2
  simp only [Ss.Fn.heads, Bool.and_eq_true, decide_eq_true_eq] at hh
  have ccp' : VPure Try.prog 13 [.agg [vl vint fi, vl vint fo, vl vint ts, vl encBlock bs]] (.agg [vl vint fi, vl vint fo, vl vint ts, vl encBlock bs]) := ccp h2
  have csa' : VPure Try.prog 8 [.agg [vl vint fi, vl vint fo, vl vint ts, vl encBlock bs], .agg [vl vint fi, vl vint fo, vl vint ts, vl encBlock bs]] (.bool sm) := csa
  have htb : ts.length * 8 ≤ 140737488355328 := by omega
  have htb' : ts.length ≤ 140737488355328 := by omega
  refine QM (by conv=>lhs;simp[-List.map_set,QV,h2]) ?_
  refine QN ?_
  repeat (first|refine QG ?_|refine QX (r:=by conv=>lhs;simp[-List.map_set,QV,h2,htb,htb']) (k:=?_))
  have hr0 : ∀ p, V.idsL p (List.replicate ts.length (V.int .i64 0)) = true := fun p => by rw [rep_vint, idsL_vint]
  have hr1 : ∀ p, V.renL p (List.replicate ts.length (V.int .i64 0)) = List.replicate ts.length (V.int .i64 0) := fun p => by rw [rep_vint, renL_vint]
  repeat refine QS ?_
  refine vw_loopAt [1, 3, 19, 20, 21] rfl (fun c σ S' => ∃ (k : Nat) (l : List Int), k ≤ ts.length ∧ c = ts.length - k ∧ l.length = ts.length ∧ (∀ (i : Nat) v, i < k → l[i]? = some v → v = i) ∧ σ = [(1, .ref (.agg [vl vint fi, vl vint fo, vl vint ts, vl encBlock bs])), (3, .slice (lid S.nx 0) 0 ts.length), (19, .slice (lid S.nx 0) 0 ts.length), (20, vnat ts.length), (21, vnat k)] ∧ S' = St S [] [some (1, l.map vint)]) ts.length ?_ ?_
  · exact ⟨0, List.replicate ts.length 0, by omega, rfl, by simp, fun i v h => by omega, by simp [Fr.only], by simp [rep0, vint]⟩
  · rintro c σ T ⟨k, l, hk, rfl, hll, hlk, rfl, rfl⟩
    by_cases hkt : k < ts.length
    · have hw := wrapNat hkt (by omega)
      have hkl : k < l.length := by omega
      repeat (first|refine QG ?_|refine QX (r:=by conv=>lhs;simp[-List.map_set,QV,hkt,hkl,hll,hw]) (k:=?_))
      refine QA [0] (h:=⟨?_, k + 1, l.set k (k : Int), hkt, rfl, by simp [hll], fun i v hi hv => ?_, by simp, by simp⟩)
      · omega
      · by_cases e : k = i
        · subst e
          rw [List.getElem?_set_self hkl] at hv
          exact (Option.some.inj hv).symm
        · rw [List.getElem?_set_ne e] at hv
          exact hlk i v (by omega) hv
    have hke : k = ts.length := by omega
    subst hke
    have hself : ∀ (i : Nat) v, l[i]? = some v → v = i := fun i v hv => hlk i v (by have := (List.getElem?_eq_some_iff.1 hv).1; omega) hv
    have crp' := fun S => crp S l h2 (by omega)
    have hre := hrs l hself
    repeat refine QS ?_
    refine QR (r:=by conv=>lhs;simp[-List.map_set,QV,hkt]) (k:=?_)
    refine QN ?_
    repeat refine QS ?_
    refine vw_condF rfl rfl rfl ?_
    repeat refine QS ?_
    refine vw_exitAt 0 rfl rfl ?_
    refine vw_ghost' 3 rfl ((frz1 (k := 0) (len := ts.length) (by simp) (by rfl) (all_closed1 vint (fun _ => rfl) _) (by simpa using hll))) (by conv => lhs; simp [Fr.set]) ?_
    simp only [List.set_cons_succ, List.set_cons_zero]
    refine vw_only' [1, 3] (by conv => lhs; simp [Fr.only, Fr.look]) ?_
    refine vw_gc [] hwf (by decide) (by simp [-List.map_set]) (by conv => lhs; simp [-List.map_set]) (by conv => lhs; simp [-List.map_set]) (by conv => lhs; simp [-List.map_set]) ?_
    repeat (first|refine QG ?_|refine QX (r:=by conv=>lhs;simp[-List.map_set,QV]) (k:=?_))
    repeat refine QS ?_
    refine QR (r:=by conv=>lhs;simp[-List.map_set,QV]) (k:=?_)
    refine vcall_useH (ccp') (by rfl) ?_
    refine QM (by conv=>lhs;simp[-List.map_set,QV]) ?_
    refine QN ?_
    refine vw_ghost' 5 rfl ((refSt (k := 0) (by simp) (by rfl) (by rfl) (by simp))) (by conv => lhs; simp [Fr.set]) ?_
    simp only [List.set_cons_succ, List.set_cons_zero]
    refine vw_only' [1, 3, 5] (by conv => lhs; simp [Fr.only, Fr.look]) ?_
    refine vw_gc [] hwf (by decide) (by simp [-List.map_set]) (by conv => lhs; simp [-List.map_set]) (by conv => lhs; simp [-List.map_set]) (by conv => lhs; simp [-List.map_set]) ?_
    rw [hre] at crp'
    have crp2 : ∀ S, VCalls Try.prog 15 [.agg [vl vint fi, vl vint fo, vl vint ts, vl encBlock bs], .list (l.map vint)] S (CopiedD S ⟨⟨fi, fo⟩, ts, bs⟩) := crp'
    repeat refine QS ?_
    refine QR (r:=by conv=>lhs;simp[-List.map_set,QV]) (k:=?_)
    refine vcall_any rfl (crp2 _) ?_
    rintro X T ⟨hag0, hwT, ot, ob, cells, ids, rfl, hotg, hob, how, hnd, hids⟩
    rw [St_nil hwf] at hag0 hids
    refine vseg_nil hwT ?_
    refine QM (by conv=>lhs;simp[-List.map_set,QV]) ?_
    refine QN ?_
    refine vw_base (b' := T.nx) hag0.1 ?_
    have hwf0 := hwf
    clear hwf
    have hwf := hwT
    have hS1 : ∀ o ∈ ot :: ob :: ids, (St T [] [some (4, [vl vint fi, vl vint fo, .slice ot 0 ts.length, .slice ob 0 bs.length])]).get o = T.get o := fun o ho => by rw [St_old (hids o ho).2]; rfl
    have hg := fn_ghostD (fi := fi) (fo := fo) (how.mono fun o ho => hS1 o (by simp [ho])) ((hS1 ob (by simp)).trans hob) rfl ((hS1 ot (by simp)).trans hotg) rfl hnd
    repeat refine QS ?_
    refine QR (r:=by conv=>lhs;simp[-List.map_set,QV]) (k:=?_)
    refine vcall_any rfl (VPure.thaw (b := sm) csa' (GhostArgs.one [_] [] hg) (by simp [V.closed, V.closed1, vl])) ?_
    rintro X T1 ⟨rfl, rfl⟩
    have obP := fun ks => gcP_old (n := T.nx) ks (hids ob (by simp)).2
    have ob1 := fun u l => @St_old T u l _ (hids ob (by simp)).2
    refine QM (by conv=>lhs;simp[-List.map_set,QV,h2]) ?_
    refine QN ?_
    repeat (first|refine QG ?_|refine QX (r:=by conv=>lhs;simp[-List.map_set,QV,ob1,hob]) (k:=?_))
    have hidO : ∀ o ∈ ob :: ids, S.nx ≤ o ∧ o < T.nx := fun o ho => hids o (by simp only [List.mem_cons] at ho ⊢; exact .inr ho)
    have hid0 : ∀ o ∈ ob :: ids, S.nx ≤ o ∧ o < T.nx := hidO
    have hndO : (ob :: ids).Nodup := (List.nodup_cons.1 hnd).2
    have hbl : bs.length < 2^62 := by omega
    have hlimb : ∀ z ∈ flatC encBlock bs, Lim z := fun z hz => by
      obtain ⟨b, hb, hz⟩ := List.mem_flatMap.1 hz
      exact lim_block (hfb b hb) z hz
    refine vw_only' [1, 5, 6, 40, 41] (by conv => lhs; simp [Fr.only, Fr.look]) ?_
    repeat refine QS ?_
    refine vw_loopAt [1, 5, 6, 40, 41] rfl (fun c σ S' => ∃ (T1 : Store) (k : Nat), Shp S T ob bs.length ids T1 ∧ k ≤ bs.length ∧ c = bs.length - k ∧ σ = [(1, .ref (.agg [vl vint fi, vl vint fo, vl vint ts, vl encBlock bs])), (5, .ref (.agg [vl vint fi, vl vint fo, vl vint ts, vl encBlock bs])), (6, .ptr (lid T1.nx 0) 0), (40, vnat bs.length), (41, vnat k)] ∧ S' = St T1 [] [some (4, [vl vint fi, vl vint fo, .slice ot 0 ts.length, .slice ob 0 bs.length])]) bs.length ?_ ?_
    · exact ⟨T, 0, ⟨rfl, hwT, hag0.2, ⟨cells, _, hob, how⟩, how.lim hlimb⟩, by omega, rfl, by simp [Fr.only], rfl⟩
    · rintro c σ T' ⟨T1, k, hsh, hk, rfl, rfl, rfl⟩
      have hwf1 := hwf
      clear hwf
      have hwf := hsh.wf
      have hn1 := hsh.nx
      refine vw_base (b' := T1.nx) (by omega) ?_
      by_cases hkt : k < bs.length
      case neg =>
        have hfin : Agree S (St T1 [] [some (4, [vl vint fi, vl vint fo, .slice ot 0 ts.length, .slice ob 0 bs.length])]) := by
          refine ⟨by have := hag0.1; rw [St_nx, lid]; omega, fun o ho => ?_⟩
          have := hag0.1
          rw [St_old (by omega)]
          exact hsh.old o ho
        repeat (first|refine QG ?_|refine QX (r:=by conv=>lhs;simp[-List.map_set,QV,hkt]) (k:=?_))
        repeat refine QS ?_
        refine QR (r:=by conv=>lhs;simp[-List.map_set,QV]) (k:=?_)
        refine vcall_useH (csa') (by rfl) ?_
        refine QM (by conv=>lhs;simp[-List.map_set,QV,h2]) ?_
        refine vcall_useH (Alive8_v) (by rfl) ?_
        refine QM (by conv=>lhs;simp[-List.map_set,QV]) ?_
        refine QN ?_
        repeat (first|refine QG ?_|refine QX (r:=by conv=>lhs;simp[-List.map_set,QV]) (k:=?_))
        exact done_agree hwf0 hfin (by simp) rfl
      have hw := wrapNat hkt (by omega)
      obtain ⟨cells1, oc, nc, oe, ne, u0, cc1, ce1, hob1, hcl1, _, _, hcl4, hocm, hoc1, hoem, hoe1, hncb, hneb, _, _⟩ := hsh.block hkt
      have b1 := fun u l => @St_old T1 u l ob (by have := hidO ob (by simp); omega)
      have b2 := fun u l => @St_old T1 u l oc (by have := hidO oc (by simp [hocm]); omega)
      have gob := fun ks => gcP_old (n := T1.nx) ks (o := ob) (by have := hidO ob (by simp); omega)
      have tob := fun ks => gcTo_old (n := T1.nx) ks (o := ob) (by have := hidO ob (by simp); omega)
      repeat (first|refine QG ?_|refine QX (r:=by conv=>lhs;simp[-List.map_set,QV,hkt,b1,hob1,hcl1,b2,hoc1]) (k:=?_))
      refine vw_only' [1, 5, 6, 7, 40, 41, 50, 51] (by conv => lhs; simp [Fr.only, Fr.look]) ?_
      repeat refine QS ?_
      refine vw_loopAt [1, 5, 6, 7, 40, 41, 50, 51] rfl (fun c σ S' => ∃ (T2 : Store) (j : Nat), Shp S T ob bs.length ids T2 ∧ At T2 ob (k * 6 + 1) (.slice oc 0 nc) ∧ j ≤ nc ∧ c = nc - j ∧ σ = [(1, .ref (.agg [vl vint fi, vl vint fo, vl vint ts, vl encBlock bs])), (5, .ref (.agg [vl vint fi, vl vint fo, vl vint ts, vl encBlock bs])), (6, .ptr (lid T2.nx 0) 0), (7, vnat k), (40, vnat bs.length), (41, vnat k), (50, vnat nc), (51, vnat j)] ∧ S' = St T2 [] [some (4, [vl vint fi, vl vint fo, .slice ot 0 ts.length, .slice ob 0 bs.length])]) nc ?_ ?_
      · exact ⟨T1, 0, hsh, ⟨_, _, hob1, hcl1⟩, by omega, rfl, by simp [Fr.only], rfl⟩
      · rintro c σ T' ⟨T2, j, hs2, hat2, hj, rfl, rfl, rfl⟩
        have hwf2 := hwf
        clear hwf
        have hwf := hs2.wf
        have hn2 := hs2.nx
        refine vw_base (b' := T2.nx) (by omega) ?_
        obtain ⟨cells2, oc2, nc2, oe2, ne2, u2, cc2, ce2, hob2, hcl21, hu2, hu2c, hcl24, hocm2, hoc2, hoem2, hoe2, hncb2, hneb2, hin2, hed2⟩ := hs2.block hkt
        have b12 := fun u l => @St_old T2 u l ob (by have := hidO ob (by simp); omega)
        have b22 := fun u l => @St_old T2 u l oc2 (by have := hidO oc2 (by simp [hocm2]); omega)
        have heq := hat2.same hob2 hcl21
        simp only [V.slice.injEq, true_and] at heq
        obtain ⟨rfl, rfl⟩ := heq
        by_cases hjt : j < nc2
        case neg =>
          have b22e := fun u l => @St_old T2 u l oe2 (by have := hidO oe2 (by simp [hoem2]); omega)
          have hcl24' : cells2[k * 6 + 2 + 2]? = some (.slice oe2 0 ne2) := hcl24
          repeat (first|refine QG ?_|refine QX (r:=by conv=>lhs;simp[-List.map_set,QV,hkt,hjt,b12,hob2,hcl24,hcl24',b22e,hoe2]) (k:=?_))
          refine vw_only' [1, 5, 6, 7, 40, 41, 98, 99] (by conv => lhs; simp [Fr.only, Fr.look]) ?_
          repeat refine QS ?_
          refine vw_loopAt [1, 5, 6, 7, 40, 41, 98, 99] rfl (fun c σ S' => ∃ (T3 : Store) (q : Nat), Shp S T ob bs.length ids T3 ∧ At T3 ob (k * 6 + 4) (.slice oe2 0 ne2) ∧ q ≤ ne2 ∧ c = ne2 - q ∧ σ = [(1, .ref (.agg [vl vint fi, vl vint fo, vl vint ts, vl encBlock bs])), (5, .ref (.agg [vl vint fi, vl vint fo, vl vint ts, vl encBlock bs])), (6, .ptr (lid T3.nx 0) 0), (7, vnat k), (40, vnat bs.length), (41, vnat k), (98, vnat ne2), (99, vnat q)] ∧ S' = St T3 [] [some (4, [vl vint fi, vl vint fo, .slice ot 0 ts.length, .slice ob 0 bs.length])]) ne2 ?_ ?_
          · exact ⟨T2, 0, hs2, ⟨_, _, hob2, hcl24⟩, by omega, rfl, by simp [Fr.only, Fr.look], rfl⟩
          · rintro c σ T' ⟨T3, q, hs3, hat3, hq, rfl, rfl, rfl⟩
            have hwf3 := hwf
            clear hwf
            have hwf := hs3.wf
            have hn3 := hs3.nx
            refine vw_base (b' := T3.nx) (by omega) ?_
            obtain ⟨cells3, oc3, nc3, oe3, ne3, u4, cc3, ce3, hob3, hcl31, hu3, hu3c, hcl34, hocm3, hoc3, hoem3, hoe3, hncb3, hneb3, hin3, hed3⟩ := hs3.block hkt
            have heq := hat3.same hob3 hcl34
            simp only [V.slice.injEq, true_and] at heq
            obtain ⟨rfl, rfl⟩ := heq
            have b13 := fun u l => @St_old T3 u l ob (by have := hidO ob (by simp); omega)
            have b23 := fun u l => @St_old T3 u l oe3 (by have := hidO oe3 (by simp [hoem3]); omega)
            have hcl34' : cells3[k * 6 + 2 + 2]? = some (.slice oe3 0 ne3) := hcl34
            have hku := (List.getElem?_eq_some_iff.1 hu3).1
            by_cases hqt : q < ne3
            case neg =>
              repeat (first|refine QG ?_|refine QX (r:=by conv=>lhs;simp[-List.map_set,QV,hkt,hjt,hqt,b13,hob3,hku,hw]) (k:=?_))
              show Again _ _ _ _ _ _ _
              exact again ⟨Nat.sub_lt_sub_left hkt (Nat.lt_succ_self k), T3.upd ob (6, cells3.set (k * 6 + 2) (V.int .i64 99)), k + 1, hs3.write hndO hid0 (by simp) hob3 hu3 hu3c rfl,
                hkt, rfl, by simp [Fr.only, Fr.look]; rfl, St_updB (by have := (hid0 ob (by simp)).2; omega)⟩
            have hwq := wrapNat hqt (by omega)
            obtain ⟨u6, hce0, hce0c⟩ := hed3 q hqt
            have hqc := (List.getElem?_eq_some_iff.1 hce0).1
            repeat (first|refine QG ?_|refine QX (r:=by conv=>lhs;simp[-List.map_set,QV,hkt,hjt,hqt,b13,hob3,hcl34,hcl34',b23,hoe3,hqc,hwq]) (k:=?_))
            show Again _ _ _ _ _ _ _
            exact again ⟨Nat.sub_lt_sub_left hqt (Nat.lt_succ_self q), T3.upd oe3 (2, ce3.set (q * 2) (V.int .i64 (-1))), q + 1, hs3.write hndO hid0 (by simp [hoem3]) hoe3 hce0 hce0c rfl,
              hat3.write hoe3 hce0 hce0c, hqt, rfl, by simp [Fr.only, Fr.look]; rfl, St_updB (by have := (hid0 oe3 (by simp [hoem3])).2; omega)⟩
        have hwj := wrapNat hjt (by omega)
        obtain ⟨u3, oa, na, ca, hcj0, hcj0c, hcj2, hoam, hoa, hcal, hnab, hcac⟩ := hin2 j hjt
        have b32 := fun u l => @St_old T2 u l oa (by have := hidO oa (by simp [hoam]); omega)
        repeat (first|refine QG ?_|refine QX (r:=by conv=>lhs;simp[-List.map_set,QV,hkt,hjt,b12,hob2,hcl21,b22,hoc2,hcj2,b32,hoa]) (k:=?_))
        refine vw_only' [1, 5, 6, 7, 8, 40, 41, 50, 51, 64, 65] (by conv => lhs; simp [Fr.only, Fr.look]) ?_
        repeat refine QS ?_
        refine vw_loopAt [1, 5, 6, 7, 8, 40, 41, 50, 51, 64, 65] rfl (fun c σ S' => ∃ (T3 : Store) (q : Nat), Shp S T ob bs.length ids T3 ∧ At T3 ob (k * 6 + 1) (.slice oc2 0 nc2) ∧ At T3 oc2 (j * 4 + 2) (.slice oa 0 na) ∧ q ≤ na ∧ c = na - q ∧ σ = [(1, .ref (.agg [vl vint fi, vl vint fo, vl vint ts, vl encBlock bs])), (5, .ref (.agg [vl vint fi, vl vint fo, vl vint ts, vl encBlock bs])), (6, .ptr (lid T3.nx 0) 0), (7, vnat k), (8, vnat j), (40, vnat bs.length), (41, vnat k), (50, vnat nc2), (51, vnat j), (64, vnat na), (65, vnat q)] ∧ S' = St T3 [] [some (4, [vl vint fi, vl vint fo, .slice ot 0 ts.length, .slice ob 0 bs.length])]) na ?_ ?_
        · exact ⟨T2, 0, hs2, hat2, ⟨_, _, hoc2, hcj2⟩, by omega, rfl, by simp [Fr.only], rfl⟩
        · rintro c σ T' ⟨T3, q, hs3, hat3, hau3, hq, rfl, rfl, rfl⟩
          have hwf3 := hwf
          clear hwf
          have hwf := hs3.wf
          have hn3 := hs3.nx
          refine vw_base (b' := T3.nx) (by omega) ?_
          obtain ⟨cells3, oc3, nc3, oe3, ne3, u4, cc3, ce3, hob3, hcl31, hu3, hu3c, hcl34, hocm3, hoc3, hoem3, hoe3, hncb3, hneb3, hin3, hed3⟩ := hs3.block hkt
          have heq := hat3.same hob3 hcl31
          simp only [V.slice.injEq, true_and] at heq
          obtain ⟨rfl, rfl⟩ := heq
          obtain ⟨u5, oa3, na3, ca3, hdj0, hdj0c, hdj2, hoam3, hoa3, hcal3, hnab3, hcac3⟩ := hin3 j hjt
          have heq := hau3.same hoc3 hdj2
          simp only [V.slice.injEq, true_and] at heq
          obtain ⟨rfl, rfl⟩ := heq
          have b13 := fun u l => @St_old T3 u l ob (by have := hidO ob (by simp); omega)
          have b23 := fun u l => @St_old T3 u l oc3 (by have := hidO oc3 (by simp [hocm3]); omega)
          have b33 := fun u l => @St_old T3 u l oa3 (by have := hidO oa3 (by simp [hoam3]); omega)
          by_cases hqt : q < na3
          case neg =>
            have hjc := (List.getElem?_eq_some_iff.1 hdj0).1
            repeat (first|refine QG ?_|refine QX (r:=by conv=>lhs;simp[-List.map_set,QV,hkt,hjt,hqt,b13,hob3,hcl31,b23,hoc3,hjc,hwj]) (k:=?_))
            show Again _ _ _ _ _ _ _
            exact again ⟨Nat.sub_lt_sub_left hjt (Nat.lt_succ_self j), T3.upd oc3 (4, cc3.set (j * 4) (V.int .i64 (-1))), j + 1, hs3.write hndO hid0 (by simp [hocm3]) hoc3 hdj0 hdj0c rfl,
              hat3.write hoc3 hdj0 hdj0c, hjt, rfl, by simp [Fr.only, Fr.look]; rfl, St_updB (by have := (hid0 oc3 (by simp [hocm3])).2; omega)⟩
          have hwq := wrapNat hqt (by omega)
          have hqc : q < ca3.length := by omega
          repeat (first|refine QG ?_|refine QX (r:=by conv=>lhs;simp[-List.map_set,QV,hkt,hjt,hqt,b13,hob3,hcl31,b23,hoc3,hdj2,b33,hoa3,hqc,hwq]) (k:=?_))
          show Again _ _ _ _ _ _ _
          have hidT := fun o ho => (hid0 o ho).2
          exact again ⟨Nat.sub_lt_sub_left hqt (Nat.lt_succ_self q), T3.upd oa3 (1, ca3.set q (V.int .i64 (-7))), q + 1, hs3.write hndO hid0 (by simp [hoam3]) hoa3 (List.getElem?_eq_getElem hqc) (hcac3 _ (List.getElem_mem hqc)) rfl,
            hat3.write hoa3 (List.getElem?_eq_getElem hqc) (hcac3 _ (List.getElem_mem hqc)), hau3.write hoa3 (List.getElem?_eq_getElem hqc) (hcac3 _ (List.getElem_mem hqc)), hqt, rfl, by simp [Fr.only, Fr.look]; rfl, St_updB (by have := hidT oa3 (by simp [hoam3]); omega)⟩
end Go.Vw
