import Derived.Test.YtcpncecdegmliaaC30
import Derived.Test.YtcpncecdegmliaaC31
import Derived.Test.YtcpncecdegmliaaC22
import Derived.Test.YtcpncecdegmliaaC16
import Derived.Test.YtcpncecdegmliaaC17
/-
  Part of the proof (texts BRun, SMoreP, SMoreQ, SLMore, SRSame, SRSame2).
-/
set_option linter.unusedVariables false
set_option linter.unusedSimpArgs false
namespace Go.Vw
open Go.Proofs Go.RowKit
set_option maxRecDepth 10000
set_option maxHeartbeats 4000000
theorem succs_fits {f : Ss.Fn} (hf : f.Fits) : Fits (Ss.succs f.blocks) := by
 refine ⟨by rw [Ss.succs, List.length_map]; have := hf.2.2.1; omega, fun l hl => ?_⟩
 obtain ⟨b, hb, rfl⟩ := List.mem_map.1 hl
 have := (hf.2.2.2 b hb).2.2.2.2.1.1
 rw [Ss.rowOf, List.length_map]; omega
theorem vcalls_cut {P : Program} {f : FuncId} {args : List V} {S S' : Store} {X : V} (hw : S'.Wf) (hn : S'.nx = S.nx) (hX : X.ids (fun o => decide (o < S.nx)) = true)
  (h : VCalls P f args S fun r T => r = X ∧ S'.nx ≤ T.nx ∧ ∀ o, o < S'.nx → T.get o = S'.get o) : VCalls P f args S fun r T => r = X ∧ T = S' := by
 refine vcalls_postB (h.mono ?_)
 rintro r T ⟨rfl, h1, h2⟩
 refine ⟨r, S', ?_, rfl, rfl⟩
 rw [← hn]
 exact GhostB.cut hw ⟨h1, h2⟩ (by rw [hn]; exact hX)
def vToInt : V → Int
 | .int _ n => n
 | _ => 0
theorem map_vToInt (l : List Int) : (l.map vint).map vToInt = l := by
 rw [List.map_map]; exact (List.map_congr_left fun x _ => rfl).trans (List.map_id _)
def insOf (S : Store) : List V → Ss.Ins
 | [.int _ op, .int _ n, .slice oa _ _, _] => ⟨op, n, ((S.get oa).getD (0, [])).2.map vToInt, []⟩
 | _ => default
theorem insOf_row {S : Store} {x : Ss.Ins} {oa : Nat} {o1 o2 : Nat} {k1 k2 : Nat} {z : V} (h : S.get oa = some (1, x.args.map vint)) : insOf S [vint x.op, vu x.n, .slice oa k1 k2, z] = ⟨x.op, x.n, x.args, []⟩ := by
 simp only [vint, vu, insOf, h, Option.getD_some, map_vToInt]
theorem del_pcode (near : List Int) (n : Int) : ∀ (code : List Ss.Ins) (M : Ss.Far), delG (Ss.pcov near n) (Ss.pnext near n) M code = Ss.pcode near n M code
 | [], M => rfl
 | x :: r, M => by simp only [delG, Ss.pcode, del_pcode near n r]
theorem delG_sub {κ ρ : Type} (p : κ → ρ → Bool) (nx : κ → ρ → κ) : ∀ (rs : List ρ) (a : κ), ∀ r ∈ (delG p nx a rs).1, r ∈ rs
 | [], a, r, h => by simp [delG] at h
 | x :: rs, a, r, h => by
  rw [delG] at h
  split at h
  ·exact List.mem_cons_of_mem _ (delG_sub p nx rs _ r h)
  ·rcases List.mem_cons.1 h with rfl | h
   ·simp
   ·exact List.mem_cons_of_mem _ (delG_sub p nx rs _ r h)
theorem DelBce_v (S : Store) (near : List Int) (n : Int) (M : Ss.Far) (code : List Ss.Ins) (rs : List (List V)) (pn pr pf om oc : Nat) (ic : List Nat) (hx : ∀ x ∈ code, x.Fits) (hx1 : ∀ x ∈ code, x.op = 257 → x.args ≠ [] ∧ x.n ≤ 8589934592) (hup : Ss.UpEnds near 256 n) (hn : near.length < 2^62) (hcl : code.length < 2^62)
  (hr : Rows S insD encIns code rs ic) (gn : S.get pn = some (1, [vint n])) (gr : S.get pr = some (1, [vl vint near])) (gf : S.get pf = some (1, [.map om])) (gm : S.get om = some (0, encFar M)) (goc : S.get oc = some (4, rs.flatten))
  (hdj : (pn :: pr :: pf :: om :: oc :: ic).Nodup) (hwS : S.Wf) : ∃ rs' ic', Rows S insD encIns (Ss.pcode near n M code).1 rs' ic' ∧ ic'.Sublist ic ∧ VCalls Try.prog 22 [.slice oc 0 code.length, .func 23 [.ptr pn 0, .ptr pr 0, .ptr pf 0]] S fun v T => v = .slice oc 0 (Ss.pcode near n M code).1.length ∧ T = (S.upd om (0, encFar (Ss.pcode near n M code).2)).upd oc (4, rs'.flatten) := by
 obtain ⟨hrl, hr4⟩ := hr.len
 have lt : ∀ {o c}, S.get o = some c → o < S.nx := fun h => old_lt hwS h
 obtain ⟨icn, hdel1, hdel2, hdel3⟩ := hr.del (fun M r => Ss.pcov near n M (insOf S r)) (fun M r => Ss.pnext near n M (insOf S r)) (Ss.pcov near n) (Ss.pnext near n) (fun x r ii hxm ho hi M => by
  obtain ⟨oa, ou, rfl, rfl, h1, h2⟩ := ins_row ho
  rw [insOf_row (o1 := 0) (o2 := 0) h1]
  exact ⟨rfl, rfl⟩) M
 rw [del_pcode] at hdel1 hdel3
 have hdl := (hdel1.len).1
 refine ⟨_, icn, hdel1, hdel2, ?_⟩
 generalize hres : delG (fun M r => Ss.pcov near n M (insOf S r)) (fun M r => Ss.pnext near n M (insOf S r)) M rs = res at *
 have hresub : ∀ r ∈ res.1, r ∈ rs := by rw [← hres]; exact delG_sub _ _ _ _
 simp only [List.nodup_cons, List.mem_cons, not_or] at hdj
 obtain ⟨⟨d1, d2, d3, d4, d5⟩, ⟨d6, d7, d8, d9⟩, ⟨d10, d11, d12⟩, ⟨d13, d14⟩, d15, d16⟩ := hdj
 have hw' : ((S.upd om (0, encFar (Ss.pcode near n M code).2)).upd oc (4, res.1.flatten)).Wf := by
  refine upd_wf (upd_wf hwS (lt gm) (encFar_ids _ _)) (lt goc) ?_
  have := hwS.ids oc _ goc
  simp only [idsL_eq, List.all_eq_true, List.mem_flatten] at this ⊢
  rintro x ⟨r, hr1, hr2⟩
  exact this x ⟨r, hresub r hr1, hr2⟩
 have hrowsin : ∀ r ∈ rs, ∃ x ∈ code, ∃ oa ou, r = [vint x.op, vu x.n, .slice oa 0 x.args.length, .slice ou 0 x.outs.length] ∧ S.get oa = some (1, x.args.map vint) ∧ oa ∈ ic := by
  clear hres hdel1 hdel2 hdel3 hdl hresub hw' hr4 hrl goc d15 d16 d14 d12 d9 d5 hcl
  induction hr with
  | nil => simp
  | cons h t ih =>
   intro r hr
   rcases List.mem_cons.1 hr with rfl | hr
   ·obtain ⟨oa, ou, h1, h2, h3, h4⟩ := ins_row h
    exact ⟨_, by simp, oa, ou, h1, h3, by simp [h2]⟩
   ·obtain ⟨x, hx, oa, ou, h1, h2, h3⟩ := ih (fun y hy => hx y (by simp [hy])) (fun y hy => hx1 y (by simp [hy])) r hr
    exact ⟨x, by simp [hx], oa, ou, h1, h2, by simp [h3]⟩
 refine vcalls_cut hw' rfl (by simp [V.ids, lt goc]) ?_
 have cd := Delete_v (fun M T => ∀ o, o < S.nx → o ≠ oc → T.get o = (S.upd om (0, encFar M)).get o) (fun M r => Ss.pcov near n M (insOf S r)) (fun M r => Ss.pnext near n M (insOf S r)) (oc := oc) (N := S.nx) (rows := rs) (fid := 23) (caps := [.ptr pn 0, .ptr pr 0, .ptr pf 0]) (by rfl) (fun r hr => hr4 r hr) (by omega) (lt goc)
  (fun a T T' h1 h2 o ho hne => (h1 o ho hne).trans (h2 o ho hne)) (fun a T r hrm hI hT => by
   obtain ⟨x, hxm, oa, ou, rfl, ha, hai⟩ := hrowsin r hrm
   have hoc : oa ≠ oc := fun e => d15 (e ▸ hai)
   have hom : oa ≠ om := fun e => d14 (e ▸ hai)
   rw [insOf_row (o1 := 0) (o2 := 0) ha]
   refine (Clo_v T near n a x pn pr pf om oa (.slice ou 0 x.outs.length) (hx x hxm) (hx1 x hxm) hup hn rfl ?_ ?_ ?_ ?_ ?_).mono ?_
   ·rw [hI pn (lt gn) d4, upd_old d3]; exact gn
   ·rw [hI pr (lt gr) d8, upd_old d7]; exact gr
   ·rw [hI pf (lt gf) d11, upd_old d10]; exact gf
   ·rw [hI om (lt gm) d13, upd_new]
   ·rw [hI oa (lt ha) hoc, upd_old hom]; exact ha
   ·rintro v T' ⟨rfl, rfl⟩
    refine ⟨rfl, fun o ho hne => ?_, Nat.le_refl _, fun o _ ho => ?_⟩
    ·rw [upd_at, upd_at]
     by_cases e : o = om
     ·rw [if_pos e, if_pos e]; rfl
     ·rw [if_neg e, if_neg e, hI o ho hne, upd_old e]
    ·rw [upd_old]
     rintro rfl
     have := lt gm
     rcases ho with ho | ho
     ·omega
     ·exact d13 ho) (a := M) (S := S) (fun o ho hne => by
   rw [upd_at]; split
   ·rename_i e; subst e; exact gm
   ·rfl) (Nat.le_refl _) goc
 rw [hres] at cd
 rw [hrl] at cd
 refine cd.mono ?_
 rintro v T ⟨rfl, h1, h2, h3⟩
 refine ⟨by rw [hdl], h2, fun o ho => ?_⟩
 have ho' : o < S.nx := ho
 rw [upd_at]
 split
 ·rename_i e; subst e; exact h3
 ·rename_i e
  rw [h1 o ho' e, hdel3]
structure RunInv (S : Store) (p4 pg pr pm pf ot ob : Nat) (hd : List V) (ts near : List Int) (bs : List Ss.Block) (M : Ss.Far) (T : Store) (rs : List (List V)) (ids : List Nat) : Prop where
 old : Agree S T
 c4 : T.get p4 = some (4, [V.nils, V.nils, V.nils, V.nils])
 cg : T.get pg = some (4, hd)
 cr : T.get pr = some (1, [vl vint near])
 cm : T.get pm = some (0, encFar M)
 cf : T.get pf = some (1, [.map pm])
 ct : T.get ot = some (1, ts.map vint)
 cb : T.get ob = some (6, rs.flatten)
 own : Rows T blkD encBlock bs rs ids
 nd : (p4 :: pg :: pr :: pf :: pm :: ot :: ob :: ids).Nodup
 lt : ∀ o ∈ p4 :: pg :: pr :: pf :: pm :: ot :: ob :: ids, S.nx ≤ o
 fits : ∀ b ∈ bs, ∀ x ∈ b.code, x.Fits ∧ (x.op = 257 → x.args ≠ [] ∧ x.n ≤ 8589934592)
 len : ∀ b ∈ bs, b.code.length < 2^62
theorem pcode_len (near : List Int) (n : Int) : ∀ (code : List Ss.Ins) (M : Ss.Far), (Ss.pcode near n M code).1.length ≤ code.length
 | [], M => by simp [Ss.pcode]
 | x :: r, M => by
  rw [Ss.pcode]; split
  ·have := pcode_len near n r (Ss.pnext near n M x); simp; omega
  ·have := pcode_len near n r (Ss.pnext near n M x); simp; omega
theorem pcode_sub (near : List Int) (n : Int) : ∀ (code : List Ss.Ins) (M : Ss.Far), ∀ x ∈ (Ss.pcode near n M code).1, x ∈ code := fun code M x h => by
 rw [← del_pcode] at h; exact delG_sub _ _ _ _ x h
theorem RunInv.step {S : Store} {p4 pg pr pm pf ot ob : Nat} {hd : List V} {ts near : List Int} {bs : List Ss.Block} {M : Ss.Far} {T : Store} {rs : List (List V)} {ids : List Nat} (h : RunInv S p4 pg pr pm pf ot ob hd ts near bs M T rs ids) (hwT : T.Wf) {n : Nat} (hn : n < bs.length) (hup : Ss.UpEnds near 256 n) (hnl : near.length < 2^62)
  {S0 : Store} (hS0 : S0 = St T [] [some (1, [vint n])]) (hw0 : S0.Wf) :
  ∃ (oc : Nat) (T5 : Store), rs.flatten[n * 6 + 1]? = some (.slice oc 0 bs[n].code.length) ∧ VCalls Try.prog 22 [.slice oc 0 bs[n].code.length, .func 23 [.ptr (lid T.nx 0) 0, .ptr pr 0, .ptr pf 0]] S0 (fun v T' => v = .slice oc 0 (Ss.pcode near n M bs[n].code).1.length ∧ T' = T5) ∧
   T5.get pg = S0.get pg ∧ T5.get (lid T.nx 0) = S0.get (lid T.nx 0) ∧ T5.get ob = S0.get ob ∧ T5.nx = S0.nx ∧ ∃ rs' ids', rs'.flatten = rs.flatten.set (n * 6 + 1) (.slice oc 0 (Ss.pcode near n M bs[n].code).1.length) ∧
   RunInv S p4 pg pr pm pf ot ob hd ts near (Ss.pstep near (bs, M) n).1 (Ss.pstep near (bs, M) n).2 (T5.upd ob (6, rs'.flatten)) rs' ids' := by
 obtain ⟨old, c4, cg, cr, cm, cf, ct, cb, own, nd, lt, fits, len⟩ := h
 obtain ⟨r1, r, r2, i1, ii, i2, rfl, hr1, rfl, hb, hmk⟩ := own.at (List.getElem?_eq_getElem hn)
 have hr6 := own.len.2
 obtain ⟨op, oc, oe, rc, ce, ip, ic, ie, rfl, rfl, hop, hoc, hrc, hoe, hie⟩ := block_row hb
 have olt : ∀ {o c}, T.get o = some c → o < T.nx := fun h => old_lt hwT h
 have g0 : ∀ o, o < T.nx → S0.get o = T.get o := fun o ho => by rw [hS0, St_old ho]; rfl
 have gnn : S0.get (lid T.nx 0) = some (1, [vint n]) := by rw [hS0, St_get]; rfl
 have hnx0 : S0.nx = T.nx + 1 := by rw [hS0, St_nx]; simp [lid]
 have hmem : bs[n] ∈ bs := List.getElem_mem hn
 have alive := own.owl.alive
 have icl : ∀ o ∈ i1 ++ (op :: oc :: (ic ++ oe :: ie) ++ i2), o < T.nx := fun o ho => by
  have := alive o ho
  cases hg : T.get o with
  | none => rw [hg] at this; cases this
  | some c => exact olt hg
 have nd2 := nd
 simp only [List.nodup_cons, List.mem_cons, not_or] at nd2
 obtain ⟨⟨a1, a2, a3, a4, a5, a6, a7⟩, ⟨b1, b2, b3, b4, b5, b6⟩, ⟨e1, e2, e3, e4, e5⟩, ⟨f1, f2, f3, f4⟩, ⟨g1, g2, g3⟩, ⟨k1, k2⟩, k3, nd3⟩ := nd2
 have hoci : oc ∈ i1 ++ (op :: oc :: (ic ++ oe :: ie) ++ i2) := by simp
 have ne : ∀ {o : Nat}, o ∉ i1 ++ (op :: oc :: (ic ++ oe :: ie) ++ i2) → o ≠ oc := fun h e => h (e ▸ hoci)
 have s1 : List.Sublist (oc :: ic) (i1 ++ (op :: oc :: (ic ++ oe :: ie) ++ i2)) := by
  refine List.Sublist.trans ?_ (List.sublist_append_right _ _)
  refine List.Sublist.trans ?_ (List.sublist_append_left _ _)
  exact .cons _ (.cons_cons _ (List.sublist_append_left _ _))
 have hcn : lid T.nx 0 = T.nx := by simp [lid]
 obtain ⟨rc', ic', q1, q2, q3⟩ := DelBce_v S0 near n M bs[n].code rc (lid T.nx 0) pr pf pm oc ic (fun x hx => (fits _ hmem x hx).1) (fun x hx => (fits _ hmem x hx).2) hup hnl (len _ hmem)
  (hrc.mono fun o ho => g0 o (icl o (by simp [ho]))) gnn (by rw [g0 pr (olt cr)]; exact cr) (by rw [g0 pf (olt cf)]; exact cf) (by rw [g0 pm (olt cm)]; exact cm) (by rw [g0 oc (olt hoc)]; exact hoc)
  (by
   rw [hcn]
   have x1 := olt cr
   have x2 := olt cf
   have x3 := olt cm
   have x4 := olt hoc
   refine List.nodup_cons.2 ⟨?_, List.Sublist.nodup (.cons _ (.cons _ (.cons_cons _ (.cons_cons _ (.cons_cons _ (.cons _ (.cons _ s1))))))) nd⟩
   simp only [List.mem_cons, not_or]
   exact ⟨by omega, by omega, by omega, by omega, fun hm => by have := icl T.nx (by simp [hm]); omega⟩) hw0
 have hgd : bs.getD n default = bs[n] := by rw [List.getD_eq_getElem?_getD, List.getElem?_eq_getElem hn]; rfl
 have hr1m : ∀ s ∈ r1, s.length = 6 := fun s hs => hr6 s (by simp [hs])
 have hfs := flat_set (m := 6) (r := [V.slice op 0 bs[n].params.length, .slice oc 0 bs[n].code.length, vint bs[n].term.kind, vint bs[n].term.arg, .slice oe 0 bs[n].term.to.length, vl vint bs[n].term.args]) (r2 := r2) (q := 1) (w := .slice oc 0 (Ss.pcode near n M bs[n].code).1.length) hr1m hr1 (by simp)
 have gT : ∀ o, o < T.nx → o ≠ pm → o ≠ oc → o ≠ ob → ∀ c, (((S0.upd pm (0, encFar (Ss.pcode near n M bs[n].code).2)).upd oc (4, rc'.flatten)).upd ob c).get o = T.get o := fun o h1 h2 h3 h4 c => by rw [upd_old h4, upd_old h3, upd_old h2, g0 o h1]
 have hb' : ∀ o, o ∈ i1 ++ i2 ∨ o = op ∨ o ∈ ic' ∨ o = oe ∨ o ∈ ie → o ≠ oc := by
  have hnd := nd3
  intro o ho e
  subst e
  have hcount := List.nodup_iff_count.1 hnd o
  simp only [List.count_append, List.count_cons, beq_self_eq_true, if_true] at hcount
  have pos : ∀ {l : List Nat}, o ∈ l → 1 ≤ l.count o := fun h => List.count_pos_iff.2 h
  rcases ho with h | h | h | h | h
  ·rcases List.mem_append.1 h with h | h
   ·have := pos h; omega
   ·have := pos h; omega
  ·subst h; simp at hcount; omega
  ·have := pos (q2.subset h); omega
  ·subst h; simp at hcount; omega
  ·have := pos h; omega
 have s2 : List.Sublist (i1 ++ (op :: oc :: (ic' ++ oe :: ie) ++ i2)) (i1 ++ (op :: oc :: (ic ++ oe :: ie) ++ i2)) := by
  refine (List.Sublist.refl _).append (List.Sublist.append ?_ (List.Sublist.refl _))
  exact .cons_cons _ (.cons_cons _ (q2.append (List.Sublist.refl _)))
 have gI : ∀ o, o ∈ i1 ++ (op :: oc :: (ic ++ oe :: ie) ++ i2) → o ≠ oc → ∀ c, (((S0.upd pm (0, encFar (Ss.pcode near n M bs[n].code).2)).upd oc (4, rc'.flatten)).upd ob c).get o = T.get o := fun o h1 h2 c => gT o (icl o h1) (fun e => g3 (e ▸ h1)) h2 (fun e => k3 (e ▸ h1)) c
 refine ⟨oc, _, flat_mid hr1m hr1 rfl, q3, ?_, ?_, ?_, rfl, r1 ++ [V.slice op 0 bs[n].params.length, .slice oc 0 (Ss.pcode near n M bs[n].code).1.length, vint bs[n].term.kind, vint bs[n].term.arg, .slice oe 0 bs[n].term.to.length, vl vint bs[n].term.args] :: r2, i1 ++ (op :: oc :: (ic' ++ oe :: ie) ++ i2), hfs.symm, ?_⟩
 ·rw [upd_old (ne b6), upd_old b3]
 ·rw [upd_old (by rw [hcn]; exact fun e => by have := olt hoc; omega), upd_old (by rw [hcn]; exact fun e => by have := olt cm; omega)]
 ·rw [upd_old (ne k3), upd_old (fun e => g2 e.symm)]
 ·have hlt : ∀ o, o < T.nx → o < S0.nx := fun o h => by omega
  refine ⟨⟨by show S.nx ≤ S0.nx; have := old.1; omega, fun o ho => ?_⟩, ?_, ?_, ?_, ?_, ?_, ?_, upd_new, ?_, List.Sublist.nodup (.cons_cons _ (.cons_cons _ (.cons_cons _ (.cons_cons _ (.cons_cons _ (.cons_cons _ (.cons_cons _ s2))))))) nd, fun o ho => lt o ?_, ?_, ?_⟩
  ·have l1 := lt pm (by simp)
   have l2 := lt ob (by simp)
   have l3 := lt oc (by simp)
   rw [gT o (by have := old.1; omega) (by omega) (by omega) (by omega), old.2 o ho]
  ·rw [gT p4 (olt c4) a4 (ne a7) a6]; exact c4
  ·rw [gT pg (olt cg) b3 (ne b6) b5]; exact cg
  ·rw [gT pr (olt cr) e2 (ne e5) e4]; exact cr
  ·rw [upd_old g2, upd_old (ne g3), upd_new]
   simp only [Ss.pstep, hgd]
  ·rw [gT pf (olt cf) f1 (ne f4) f3]; exact cf
  ·rw [gT ot (olt ct) (fun e => g1 e.symm) (ne k2) k1]; exact ct
  ·simp only [Ss.pstep, hgd]
   have hg5 : ∀ o, o ∈ i1 ++ i2 → o ∈ i1 ++ (op :: oc :: (ic ++ oe :: ie) ++ i2) := fun o ho => by
    rcases List.mem_append.1 ho with h | h <;> simp [h]
   refine hmk _ _ ⟨bs[n].params, (Ss.pcode near n M bs[n].code).1, bs[n].term⟩ _ (fun o ho => gI o (hg5 o ho) (hb' o (.inl ho)) _) ?_
   refine block_mk (b := ⟨bs[n].params, (Ss.pcode near n M bs[n].code).1, bs[n].term⟩) (rs := rc') (ce := ce) ?_ ?_ ?_ ?_ ?_
   ·rw [gI op (by simp) (hb' op (.inr (.inl rfl)))]; exact hop
   ·have hcb : oc ≠ ob := fun e => k3 (by rw [← e]; exact hoci)
    rw [upd_old hcb, upd_new]
   ·refine q1.mono fun o ho => ?_
    have ho2 : o ∈ i1 ++ (op :: oc :: (ic ++ oe :: ie) ++ i2) := by simp [q2.subset ho]
    rw [gI o ho2 (hb' o (.inr (.inr (.inl ho)))), g0 o (icl o ho2)]
   ·rw [gI oe (by simp) (hb' oe (.inr (.inr (.inr (.inl rfl)))))]; exact hoe
   ·exact hie.mono fun o ho => gI o (by simp [ho]) (hb' o (.inr (.inr (.inr (.inr ho))))) _
  ·simp only [List.mem_cons] at ho ⊢
   rcases ho with h | h | h | h | h | h | h | h
   ·exact .inl h
   ·exact .inr (.inl h)
   ·exact .inr (.inr (.inl h))
   ·exact .inr (.inr (.inr (.inl h)))
   ·exact .inr (.inr (.inr (.inr (.inl h))))
   ·exact .inr (.inr (.inr (.inr (.inr (.inl h)))))
   ·exact .inr (.inr (.inr (.inr (.inr (.inr (.inl h))))))
   ·exact .inr (.inr (.inr (.inr (.inr (.inr (.inr (s2.subset h)))))))
  ·intro b hb x hx
   simp only [Ss.pstep, hgd] at hb
   rcases List.mem_or_eq_of_mem_set hb with hb | rfl
   ·exact fits b hb x hx
   ·exact fits _ hmem x (pcode_sub _ _ _ _ x hx)
  ·intro b hb
   simp only [Ss.pstep, hgd] at hb
   rcases List.mem_or_eq_of_mem_set hb with hb | rfl
   ·exact len b hb
   ·exact Nat.lt_of_le_of_lt (pcode_len _ _ _ _) (len _ hmem)
theorem BceRun_v (S : Store) (e : Ss.Env) (f : Ss.Fn) (he : e.Fits) (hf : f.Fits) (hc : Ss.check e f = true) : VCalls Try.prog 6 [encEnv e, encFn f] S fun r T => ∃ r', r = .tuple [r', vint 0] ∧ CopiedD S (Ss.pbce (G.rNear (G.nats (Ss.succs f.blocks))) (G.order (G.nats (Ss.succs f.blocks))) f) r' T := by
 have hgr := Ss.graphic hc
 have hs := Ss.check_small hc
 have h257 := fun b hb x hx ho => @Ss.check_257 e f hc b hb x hx ho
 have cck := Check_v e f he hf
 have crp := fun S => SReplace_v S f [] hf hs (by simp)
 have csu := Succ_v f hf
 have cor := OrderAll_v (Ss.succs f.blocks) (succs_fits hf)
 have cne := NearestAll_v (Ss.succs f.blocks) (succs_fits hf)
 have hfb : ∀ b ∈ f.blocks, b.Fits := hf.2.2.2
 rw [if_pos hs] at csu
 simp only [Ss.replace_nil] at crp
 rw [hgr.ord, G.err, if_pos hgr.right] at cor
 rw [hgr.near, G.err, if_pos hgr.right] at cne
 obtain ⟨_, _, _, _, hol, holt, hnl, hends, hbl⟩ := hgr
 generalize Ss.check e f = ck at *
 generalize G.order (G.nats (Ss.succs f.blocks)) = order at *
 generalize G.rNear (G.nats (Ss.succs f.blocks)) = near at *
 generalize Ss.succs f.blocks = sc at *
 obtain ⟨⟨fi, fo⟩, ts, bs⟩ := f
 obtain ⟨sg, im, gl, mu, me⟩ := e
 simp only at *
 have cck' : VPure Try.prog 17 [.agg [vl encSig sg, vint im, vl vint gl, vl V.bool mu, .bool me], .agg [vl vint fi, vl vint fo, vl vint ts, vl encBlock bs]] (.bool ck) := cck
 have csu' : VPure Try.prog 20 [.agg [vl vint fi, vl vint fo, vl vint ts, vl encBlock bs]] (vl (vl vint) sc) := csu
 have crp' : ∀ S, VCalls Try.prog 18 [.agg [vl vint fi, vl vint fo, vl vint ts, vl encBlock bs], .nils] S (CopiedD S ⟨⟨fi, fo⟩, ts, bs⟩) := fun S => by
  refine vcalls_ghostArgs (GhostArgs.one [_] [] (Ghost.nils_list S)) ?_
  exact crp S
 refine vcalls_startC (c := bodyOf Try.f6) Try.func6 rfl (by conv => lhs; reduce) (by simp [Try.ntmps6]) ?_
 rw [Try.ntmps6]
 intro hwf
 repeat refine QS ?_
 refine QR (r:=by conv=>lhs;simp[-List.map_set,QV]) (k:=?_)
 refine QN ?_
 refine vw_ghost' 2 rfl ((refSt (k := 0) (by simp) (by rfl) (by rfl) (by simp))) (by conv => lhs; simp [Fr.set]) ?_
 simp only [List.set_cons_succ, List.set_cons_zero]
 refine vw_ghost' 3 rfl ((refSt (k := 1) (by simp) (by rfl) (by rfl) (by simp))) (by conv => lhs; simp [Fr.set]) ?_
 simp only [List.set_cons_succ, List.set_cons_zero]
 refine vw_only' [2, 3, 4, 5] (by conv => lhs; simp [Fr.only, Fr.look]) ?_
 refine vw_gc [2] hwf (by decide) (by simp [-List.map_set]) (by conv => lhs; simp [-List.map_set]) (by conv => lhs; simp [-List.map_set]) (by conv => lhs; simp [-List.map_set]) ?_
 repeat refine QS ?_
 refine QR (r:=by conv=>lhs;simp[-List.map_set,QV]) (k:=?_)
 refine vcall_useH (cck') (by rfl) ?_
 refine QM (by conv=>lhs;simp[-List.map_set,QV,hc]) ?_
 refine QN ?_
 repeat (first|refine QG ?_|refine QX (r:=by conv=>lhs;simp[-List.map_set,QV,hc]) (k:=?_))
 repeat refine QS ?_
 refine QR (r:=by conv=>lhs;simp[-List.map_set,QV]) (k:=?_)
 refine vcall_any rfl (crp' _) ?_
 rintro X T ⟨hag0, hwT, ot, ob, cells, ids, rfl, hotg, hob, how, hnd, hids⟩
 simp only at hotg how
 refine vseg_nil hwT ?_
 refine QM (by conv=>lhs;simp[-List.map_set,QV]) ?_
 refine QN ?_
 have hag1 := hag0.1
 rw [St_nx] at hag1 hids
 simp only [List.length_cons, List.length_nil, Nat.zero_add, lid] at hag1 hids
 have h4 : T.get (lid S.nx 0) = some (4, [V.nils, V.nils, V.nils, V.nils]) := by
  rw [hag0.2 (lid S.nx 0) (by rw [St_nx]; simp [lid]), St_get]; rfl
 have h4lt : lid S.nx 0 < T.nx := by simp only [lid]; omega
 refine vw_base (b' := T.nx) (by omega) ?_
 have hwf0 := hwf
 clear hwf
 have hwf := hwT
 repeat refine QS ?_
 refine QR (r:=by conv=>lhs;simp[-List.map_set,QV]) (k:=?_)
 refine vcall_useH (csu') (by rfl) ?_
 refine QM (by conv=>lhs;simp[-List.map_set,QV]) ?_
 refine vcall_useH (cor) (by rfl) ?_
 refine QM (by conv=>lhs;simp[-List.map_set,QV]) ?_
 refine QN ?_
 repeat refine QS ?_
 refine QR (r:=by conv=>lhs;simp[-List.map_set,QV]) (k:=?_)
 refine vcall_useH (csu') (by rfl) ?_
 refine QM (by conv=>lhs;simp[-List.map_set,QV]) ?_
 refine vcall_useH (cne) (by rfl) ?_
 refine QM (by conv=>lhs;simp[-List.map_set,QV]) ?_
 refine QN ?_
 repeat (first|refine QG ?_|refine QX (r:=by conv=>lhs;simp[-List.map_set,QV]) (k:=?_))
 obtain ⟨rs0, rfl, hrl0, hrows0⟩ := rows_of (fun x => by rw [encBlock_cells]; rfl) how
 have g0 : ∀ o l, o < T.nx → (St T [] l).get o = T.get o := fun o l ho => by rw [St_old ho]; rfl
 have hlt : ∀ o ∈ ot :: ob :: ids, o < T.nx := fun o ho => (hids o ho).2
 have hinv : RunInv S (lid S.nx 0) (lid T.nx 0) (lid T.nx 1) (lid T.nx 2) (lid T.nx 3) ot ob [vl vint fi, vl vint fo, .slice ot 0 ts.length, .slice ob 0 bs.length] ts near bs [] (St T [] [some (4, [vl vint fi, vl vint fo, V.slice ot 0 ts.length, V.slice ob 0 bs.length]), some (1, [vl vint near]), some (0, []), some (1, [V.map (lid T.nx 2)])]) rs0 ids := by
  refine ⟨⟨by rw [St_nx, lid]; have := hag0.1; omega, fun o ho => ?_⟩, ?_, ?_, ?_, ?_, ?_, ?_, ?_, ?_, ?_, ?_, ?_, ?_⟩
  ·rw [g0 o _ (by omega), hag0.2 o (by rw [St_nx, lid]; omega), St_old ho]; rfl
  ·rw [g0 _ _ h4lt]; exact h4
  ·rw [St_get]; rfl
  ·rw [St_get]; rfl
  ·rw [St_get]; rfl
  ·rw [St_get]; rfl
  ·rw [g0 _ _ (hlt ot (by simp))]; exact hotg
  ·rw [g0 _ _ (hlt ob (by simp))]; exact hob
  ·exact hrows0.mono fun o ho => g0 o _ (hlt o (by simp [ho]))
  ·have hno : ∀ o, T.nx ≤ o → o ∉ ot :: ob :: ids := fun o ho hm => by have := hlt o hm; omega
   refine List.nodup_cons.2 ⟨?_, List.nodup_cons.2 ⟨?_, List.nodup_cons.2 ⟨?_, List.nodup_cons.2 ⟨?_, List.nodup_cons.2 ⟨hno _ (by simp only [lid]; omega), hnd⟩⟩⟩⟩⟩
   ·simp only [lid] at h4lt ⊢
    rw [List.mem_cons, List.mem_cons, List.mem_cons, List.mem_cons, not_or, not_or, not_or, not_or]
    exact ⟨by omega, by omega, by omega, by omega, fun hm => by have := (hids _ hm).1; omega⟩
   ·simp only [lid]
    rw [List.mem_cons, List.mem_cons, List.mem_cons, not_or, not_or, not_or]
    exact ⟨by omega, by omega, by omega, hno _ (by omega)⟩
   ·simp only [lid]
    rw [List.mem_cons, List.mem_cons, not_or, not_or]
    exact ⟨by omega, by omega, hno _ (by omega)⟩
   ·simp only [lid]
    rw [List.mem_cons, not_or]
    exact ⟨by omega, hno _ (by omega)⟩
  ·intro o ho
   simp only [List.mem_cons] at ho
   rcases ho with h | h | h | h | h | h | h | h
   ·subst h; simp only [lid]; omega
   ·subst h; simp only [lid]; omega
   ·subst h; simp only [lid]; omega
   ·subst h; simp only [lid]; omega
   ·subst h; simp only [lid]; omega
   ·have := (hids o (by simp [h])).1; omega
   ·have := (hids o (by simp [h])).1; omega
   ·have := (hids o (by simp [h])).1; omega
  ·exact fun b hb x hx => ⟨(hfb b hb).2.1.2 x hx, fun ho => by
    have := h257 b hb x hx ho
    exact ⟨fun e => by rw [e] at this; simp at this, this.2.1⟩⟩
  ·exact fun b hb => by have := (hfb b hb).2.1.1; omega
 generalize hp4 : lid S.nx 0 = p4 at *
 generalize hpg : lid T.nx 0 = pg at *
 generalize hpr : lid T.nx 1 = pr at *
 generalize hpm : lid T.nx 2 = pm at *
 generalize hpf : lid T.nx 3 = pf at *
 generalize hT0 : St T [] [some (4, [vl vint fi, vl vint fo, V.slice ot 0 ts.length, V.slice ob 0 bs.length]), some (1, [vl vint near]), some (0, []), some (1, [V.map pm])] = T0 at *
 have hnb : (Ss.pbce near order ⟨⟨fi, fo⟩, ts, bs⟩) = ⟨⟨fi, fo⟩, ts, (order.foldl (Ss.pstep near) (bs, [])).1⟩ := rfl
 rw [hnb]
 repeat refine QS ?_
 refine vw_loopAt [4, 6, 9, 11, 34, 35, 36] rfl (fun c σ S' => ∃ (bs1 : List Ss.Block) (M : Ss.Far) (rs : List (List V)) (ids1 : List Nat) (k : Nat), RunInv S p4 pg pr pm pf ot ob [vl vint fi, vl vint fo, .slice ot 0 ts.length, .slice ob 0 bs.length] ts near bs1 M S' rs ids1 ∧ bs1.length = bs.length ∧ k ≤ order.length ∧ c = order.length - k ∧ ((order.drop k).foldl (Ss.pstep near) (bs1, M)).1 = (order.foldl (Ss.pstep near) (bs, [])).1 ∧ σ = [(4, .ptr p4 0), (6, .ptr pg 0), (9, .ptr pr 0), (11, .ptr pf 0), (34, vl vnat order), (35, vnat order.length), (36, vnat k)]) order.length ?_ ?_
 ·exact ⟨bs, [], rs0, ids, 0, hinv, rfl, by omega, rfl, rfl, by simp [Fr.only, Fr.look]⟩
 ·rintro c σ T1 ⟨bs1, M, rs, ids1, k, hI, hbl1, hk, rfl, hfold, rfl⟩
  refine vw_wf fun hwT1 => vw_nil hwT1 ?_
  by_cases hkt : k < order.length
  ·have hw := wrapNat hkt (by omega)
   obtain ⟨n, hn⟩ : ∃ n, order[k] = n := ⟨_, rfl⟩
   have hnm : n ∈ order := hn ▸ List.getElem_mem hkt
   have hnl1 : n < bs1.length := by rw [hbl1]; exact holt n hnm
   rw [List.drop_eq_getElem_cons hkt, List.foldl_cons, hn] at hfold
   repeat (first|refine QG ?_|refine QX (r:=by conv=>lhs;simp[-List.map_set,QV,hkt]) (k:=?_))
   rw [hn]
   have hw0 : (St T1 [] [some (1, [V.int .i64 (n : Int)])]).Wf := St_wf hwT1 (by simp)
   obtain ⟨oc, T5, hcell, hcall, h5g, h5n, h5b, h5nx, rs', ids', hset, hI'⟩ := hI.step hwT1 hnl1 (hends n hnm) (by omega) (S0 := St T1 [] [some (1, [V.int .i64 (n : Int)])]) rfl hw0
   have lg := old_lt hwT1 hI.cg
   have lb := old_lt hwT1 hI.cb
   have bg := fun u l => @St_old T1 u l pg lg
   have bb := fun u l => @St_old T1 u l ob lb
   have hIg := hI.cg
   have hIb := hI.cb
   have gpn : (St T1 [] [some (1, [V.int .i64 (n : Int)])]).get (lid T1.nx 0) = some (1, [V.int .i64 (n : Int)]) := by rw [St_get]; rfl
   have hnb2 : (n : Int) < (bs.length : Int) := by omega
   have hbo : pg ≠ ob := fun e => by have := hI.nd; simp [e] at this
   obtain ⟨zc, zs, hzg, hzn, hsg, hsn, hsb, hok⟩ : ∃ zc zs : Store, zc.get pg = some (4, [vl vint fi, vl vint fo, V.slice ot 0 ts.length, V.slice ob 0 bs.length]) ∧ zc.get (lid T1.nx 0) = some (1, [V.int .i64 (n : Int)]) ∧ zs.get pg = some (4, [vl vint fi, vl vint fo, V.slice ot 0 ts.length, V.slice ob 0 bs.length]) ∧ zs.get (lid T1.nx 0) = some (1, [V.int .i64 (n : Int)]) ∧ zs.get ob = some (6, rs.flatten) ∧
     ∀ (es : List Nat) (S' : Store), S'.get pg = (St T1 [] [some (1, [V.int .i64 (n : Int)])]).get pg → S'.get (lid T1.nx 0) = (St T1 [] [some (1, [V.int .i64 (n : Int)])]).get (lid T1.nx 0) → (∃ c, S'.get ob = some (6, c)) → (ZZ.mk (St T1 [] [some (1, [V.int .i64 (n : Int)])]) zc zs es).ok S' := by
    refine ⟨⟨fun o => if o = pg ∨ o = lid T1.nx 0 then (St T1 [] [some (1, [V.int .i64 (n : Int)])]).get o else none, 0⟩, ⟨fun o => if o = pg ∨ o = lid T1.nx 0 ∨ o = ob then (St T1 [] [some (1, [V.int .i64 (n : Int)])]).get o else none, 0⟩, ?_, ?_, ?_, ?_, ?_, ?_⟩
    ·simp only [true_or, if_true]; rw [bg]; exact hIg
    ·simp only [or_true, if_true]; exact gpn
    ·simp only [true_or, if_true]; rw [bg]; exact hIg
    ·simp only [true_or, or_true, if_true]; exact gpn
    ·simp only [or_true, if_true]; rw [bb]; exact hIb
    ·rintro es S' k1 k2 ⟨c, k3⟩
     refine ⟨fun o c' hc' => ?_, fun o c' hc' => ?_⟩
     ·simp only at hc'
      split at hc'
      ·rename_i ho
       rcases ho with rfl | rfl
       ·rw [k1]; exact hc'
       ·rw [k2]; exact hc'
      ·cases hc'
     ·simp only at hc'
      split at hc'
      ·rename_i ho
       rcases ho with rfl | rfl | rfl
       ·rw [k1]; exact ⟨c', hc', rfl⟩
       ·rw [k2]; exact ⟨c', hc', rfl⟩
       ·rw [bb] at hc'
        have h6 := hIb.symm.trans hc'
        cases h6
        exact ⟨_, k3, rfl⟩
      ·cases hc'
   have h5b' : T5.get ob = some (6, rs.flatten) := by rw [h5b, bb]; exact hIb
   have hpno : lid T1.nx 0 ≠ ob := fun e => by rw [← e] at lb; simp [lid] at lb
   generalize hpn : lid T1.nx 0 = pn at *
   have hS0g := (bg [] [some (1, [V.int .i64 (n : Int)])]).trans hIg
   have hS0b := (bb [] [some (1, [V.int .i64 (n : Int)])]).trans hIb
   try simp only [uGet] at hS0g hS0b
   generalize hS0 : St T1 [] [some (1, [V.int .i64 (n : Int)])] = S0 at *
   repeat refine QS ?_
   refine vw_drawW (zc) (zs) [48, 20050] rfl (by kernel_rfl) (by conv => lhs; reduce) (by conv => lhs; reduce) (by kernel_rfl) (by kernel_rfl) (hok _ _ rfl rfl ⟨_, hS0b⟩) (by conv => lhs; simp [-List.map_set,QV, hzg, hzn, hsg, hsn, hsb, hnb2, hS0g, gpn, hS0b, hcell]) ?_
   refine vcall_t rfl hcall (by rfl) (by rfl) (hok _ _ h5g h5n ⟨_, h5b'⟩) ?_
   have hcl : n * 6 + 1 < rs.flatten.length := (List.getElem?_eq_some_iff.1 hcell).1
   rw [List.length_flatten] at hcl
   refine QM (by conv=>lhs;simp[-List.map_set,QV,hzg,hzn,hsg,hsn,hsb,hnb2]) ?_
   refine vseg_write rfl (by conv => lhs; simp [-List.map_set,QV, h5b', hcl]) (hok _ _ (by rw [upd_old hbo]; exact h5g) (by rw [upd_old hpno]; exact h5n) ⟨_, upd_new⟩) ?_
   refine QN ?_
   repeat (first|refine QG ?_|refine QX (r:=by conv=>lhs;simp[-List.map_set,QV,hw]) (k:=?_))
   rw [← hset]
   show Again _ _ _ _ _ _ _
   exact again ⟨Nat.sub_lt_sub_left hkt (Nat.lt_succ_self k), (Ss.pstep near (bs1, M) n).1, (Ss.pstep near (bs1, M) n).2, rs', ids', k + 1, hI', by rw [← hbl1]; simp [Ss.pstep], hkt, rfl, hfold, by simp [Fr.only, Fr.look]⟩
  ·have hke : k = order.length := by omega
   subst hke
   rw [List.drop_length, List.foldl_nil] at hfold
   simp only at hfold
   have hIg := hI.cg
   have hI4 := hI.c4
   have lg := old_lt hwT1 hI.cg
   have l4 := old_lt hwT1 hI.c4
   have bg := fun u l => @St_old T1 u l pg lg
   have b4 := fun u l => @St_old T1 u l p4 l4
   have h4g : pg ≠ p4 := fun e => by have := hI.nd; simp [e] at this
   repeat (first|refine QG ?_|refine QX (r:=by conv=>lhs;simp[-List.map_set,QV,hkt,bg,b4,hIg,hI4,h4g]) (k:=?_))
   rw [St_nil hwT1]
   have hg4 : (T1.upd p4 (4, [vl vint fi, vl vint fo, V.slice ot 0 ts.length, V.slice ob 0 bs.length])).get p4 = some (4, [vl vint fi, vl vint fo, V.slice ot 0 ts.length, V.slice ob 0 bs.length]) := upd_new
   refine doneC (xs := [.agg [vl vint fi, vl vint fo, .slice ot 0 ts.length, .slice ob 0 bs.length], .int .i64 0]) (by simp [hg4]) ?_
   obtain ⟨old, c4, cg, cr, cm, cf, ct, cb, own, nd, lt, _, _⟩ := hI
   have nd2 := nd
   simp only [List.nodup_cons, List.mem_cons, not_or] at nd2
   obtain ⟨⟨a1, a2, a3, a4, a5, a6, a7⟩, _, _, _, _, ⟨k1, k2⟩, k3, nd3⟩ := nd2
   have alive := own.owl.alive
   have hw5 : (T1.upd p4 (4, [vl vint fi, vl vint fo, V.slice ot 0 ts.length, V.slice ob 0 bs.length])).Wf := upd_wf hwT1 l4 (hwT1.ids pg _ hIg)
   refine done_as ⟨_, rfl, ⟨old.1, fun o ho => ?_⟩, hw5, ot, ob, rs.flatten, ids1, ?_, ?_, ?_, ?_, ?_, ?_⟩
   ·have := lt p4 (by simp)
    rw [upd_old (by omega)]; exact old.2 o ho
   ·rw [← hfold, hbl1]
   ·rw [upd_old (fun e => a5 e.symm)]; exact ct
   ·rw [upd_old (fun e => a6 e.symm)]; exact cb
   ·rw [← hfold]
    exact own.owl.mono fun o ho => upd_old fun e => a7 (e ▸ ho)
   ·exact List.Sublist.nodup (.cons _ (.cons _ (.cons _ (.cons _ (.cons _ (List.Sublist.refl _)))))) nd
   ·intro o ho
    refine ⟨lt o ?_, ?_⟩
    ·simp only [List.mem_cons] at ho ⊢
     rcases ho with h | h | h
     ·exact .inr (.inr (.inr (.inr (.inr (.inl h)))))
     ·exact .inr (.inr (.inr (.inr (.inr (.inr (.inl h))))))
     ·exact .inr (.inr (.inr (.inr (.inr (.inr (.inr h))))))
    ·show o < T1.nx
     simp only [List.mem_cons] at ho
     rcases ho with rfl | rfl | h
     ·exact old_lt hwT1 ct
     ·exact old_lt hwT1 cb
     ·have h2 := alive o h
      cases hg : T1.get o with
      | none => rw [hg] at h2; cases h2
      | some c => exact old_lt hwT1 hg
end Go.Vw

namespace Ss
/-! ### An instruction more -/
def moreX (ts : List Int) (b : Block) : Ins := b.params.foldl (fun (x : Ins) (p : Int) => if 0 ≤ p ∧ p < (ts.length : Int) ∧ ts.getD p.toNat 0 = 126 then ⟨124, 0, [p, p], [(ts.length : Int)]⟩ else x) ⟨256, 9, [], [(ts.length : Int)]⟩
def addB (b : Block) (x : Ins) : Block := ⟨b.params, b.code ++ [x], b.term⟩
def more (f : Fn) (j : Nat) : Fn := ⟨f.sig, f.types ++ [126], f.blocks.set j (addB (f.blocks.getD j default) (moreX f.types (f.blocks.getD j default)))⟩
theorem putCode_len' {i : Int} : ∀ {l : List Ins} {k : Nat} {ds d : List Def}, putCode i k ds l = some d → d.length = ds.length := fun h => (putCode_in h).1
theorem putBlocks_params : ∀ {l : List Block} {i : Nat} {ds d : List Def}, putBlocks i ds l = some d → ∀ (j : Nat) (b : Block), l[j]? = some b → ∀ v ∈ b.params, dAt d v = ⟨true, ((i + j : Nat) : Int), -1⟩
 | [], i, ds, d, h => by simp
 | b :: l, i, ds, d, h => by
  simp only [putBlocks] at h
  obtain ⟨d2, h1, h2⟩ := Option.bind_eq_some_iff.1 h
  obtain ⟨d1, h3, h4⟩ := Option.bind_eq_some_iff.1 h1
  obtain ⟨p1, q1⟩ := put_puts h3
  obtain ⟨p2, _⟩ := putCode_puts h4
  obtain ⟨p3, _⟩ := putBlocks_puts h2
  intro j y hj v hv
  cases j with
  | zero =>
   simp only [List.getElem?_cons_zero, Option.some.injEq] at hj
   subst hj
   have n2 : v ∉ outsC b.code := fun hm => by
    have := p2.new v hm
    rw [p1.made v hv] at this; cases this
   have e2 : dAt d2 v = dAt d1 v := p2.keep v (p1.pos v hv) n2
   have n3 : v ∉ allL l := fun hm => by
    have := p3.new v hm
    rw [e2, p1.made v hv] at this; cases this
   rw [p3.keep v (p1.pos v hv) n3, e2, q1 v hv]; simp
  | succ j =>
   have := putBlocks_params h2 j y (by simpa using hj) v hv
   rw [this]; congr 2; omega
theorem eqF_mono {α : Type} {p q : α → α → Bool} : ∀ {l m : List α}, (∀ x ∈ l, ∀ y, p x y = true → q x y = true) → Go.Vw.eqF p l m = true → Go.Vw.eqF q l m = true
 | [], [], _, _ => rfl
 | [], _ :: _, _, h => by simp [Go.Vw.eqF] at h
 | _ :: _, [], _, h => by simp [Go.Vw.eqF] at h
 | a :: l, b :: m, hp, h => by
  simp only [Go.Vw.eqF, Bool.and_eq_true] at h ⊢
  exact ⟨hp a (by simp) b h.1, eqF_mono (fun x hx => hp x (by simp [hx])) h.2⟩
end Ss

namespace Ss
theorem set_same {α : Type} {l : List α} {j : Nat} {a : α} (h : l[j]? = some a) : l.set j a = l := by
 refine List.ext_getElem? fun i => ?_
 by_cases e : j = i
 ·subst e
  rw [List.getElem?_set_self (List.getElem?_eq_some_iff.1 h).1, h]
 ·rw [List.getElem?_set_ne e]
def NewX (ts ps : List Int) (x : Ins) : Prop := x = ⟨256, 9, [], [(ts.length : Int)]⟩ ∨ ∃ p ∈ ps, 0 ≤ p ∧ p < ts.length ∧ ts.getD p.toNat 0 = 126 ∧ x = ⟨124, 0, [p, p], [(ts.length : Int)]⟩
theorem NewX.op {ts ps : List Int} {x : Ins} (h : NewX ts ps x) : x.op ≠ 258 ∧ x.outs = [(ts.length : Int)] ∧ x.args.length ≤ 2 := by
 rcases h with rfl | ⟨p, _, _, _, _, rfl⟩ <;> simp
theorem checkBlocks_mk {e : Env} {f : Fn} {ds : List Def} {near : List Int} : ∀ {l : List Block} {i : Nat}, (∀ (j : Nat) (b : Block), l[j]? = some b → checkCode e f ds near ((i + j : Nat) : Int) 0 b.code = true ∧ termOk f ds near ((i + j : Nat) : Int) b = true) → checkBlocks e f ds near i l = true
 | [], i, _ => rfl
 | b :: l, i, h => by
  simp only [checkBlocks, Bool.and_eq_true]
  refine ⟨h 0 b rfl, checkBlocks_mk fun j y hy => ?_⟩
  have := h (j + 1) y (by simpa using hy)
  rw [show i + 1 + j = i + (j + 1) by omega]; exact this
end Ss

namespace Go.Vw
open Go.Proofs Go.RowKit
set_option maxRecDepth 10000
set_option maxHeartbeats 2000000
end Go.Vw

namespace Go.Vw
open Go.Proofs Go.RowKit
set_option maxRecDepth 10000
set_option maxHeartbeats 8000000
theorem WInts_v (l m : List Int) (hl : l.length < 2^63) : VPure Try.prog 31 [vl vint l, vl vint m] (.bool (decide (l = m))) := by
 intro S
 rw [← eqF_dec]
 generalize hp : (fun x y : Int => decide (x = y)) = p
 by_cases hlm : l.length = m.length
 ·have hlm' : (l.length : Int) = (m.length : Int) := by omega
  refine vcalls_start (c := bodyOf Try.f31) Try.func31 rfl rfl (by simp [Try.ntmps31]) ?_
  rw [Try.ntmps31]
  intro hwf
  repeat (first|refine QG ?_|refine QX (r:=by conv=>lhs;simp[-List.map_set,QV,hlm,hlm']) (k:=?_))
  repeat refine QS ?_
  refine vw_loopAt [0, 1, 5] rfl (fun c σ S' => ∃ (k : Nat), k ≤ l.length ∧ c = l.length - k ∧ eqF p (l.drop k) (m.drop k) = eqF p l m ∧ σ = [(0, vl vint l), (1, vl vint m), (5, vnat k)] ∧ S' = St S [] []) l.length ?_ ?_
  ·exact ⟨0, by omega, rfl, rfl, by simp [Fr.only], rfl⟩
  ·rintro c σ T ⟨k, hk, rfl, hd, rfl, rfl⟩
   by_cases hkt : k < l.length
   ·have hkm : k < m.length := by omega
    have hw := wrapNat hkt hl
    have hst : eqF p (l.drop k) (m.drop k) = (p l[k] m[k] && eqF p (l.drop (k + 1)) (m.drop (k + 1))) := by rw [List.drop_eq_getElem_cons hkt, List.drop_eq_getElem_cons hkm, eqF]
    obtain ⟨x, hx⟩ : ∃ x, l[k] = x := ⟨_, rfl⟩
    obtain ⟨y, hy⟩ : ∃ y, m[k] = y := ⟨_, rfl⟩
    rw [hx, hy] at hst
    by_cases hxy : x = y
    ·rw [show p x y = true by rw [← hp]; simp [hxy]] at hst
     repeat (first|refine QG ?_|refine QX (r:=by conv=>lhs;simp[-List.map_set,QV,hkt,hkm,hx,hy,hxy]) (k:=?_))
     show Again _ _ _ _ _ _ _
     exact again ⟨Nat.sub_lt_sub_left hkt (Nat.lt_succ_self k), k + 1, hkt, rfl, by rw [← hd, hst]; rfl, by simp [Fr.only, hw], rfl⟩
    ·rw [show p x y = false by rw [← hp]; simp [hxy]] at hst
     repeat (first|refine QG ?_|refine QX (r:=by conv=>lhs;simp[-List.map_set,QV,hkt,hkm,hx,hy,hxy]) (k:=?_))
     exact done_pure hwf (by rw [← hd, hst]; rfl) rfl
   ·have e : l.drop k = [] := by rw [List.drop_eq_nil_iff]; omega
    have e' : m.drop k = [] := by rw [List.drop_eq_nil_iff]; omega
    rw [e, e'] at hd
    have hkm : ¬ k < m.length := by omega
    repeat (first|refine QG ?_|refine QX (r:=by conv=>lhs;simp[-List.map_set,QV,hkt,hkm]) (k:=?_))
    exact done_pure hwf (by rw [← hd]; rfl) rfl
 ·have hlm' : ¬ (l.length : Int) = (m.length : Int) := by omega
  have e : eqF p l m = false := eqF_len hlm
  rw [e]
  refine vcalls_start (c := bodyOf Try.f31) Try.func31 rfl rfl (by simp [Try.ntmps31]) ?_
  rw [Try.ntmps31]
  intro hwf
  repeat (first|refine QG ?_|refine QX (r:=by conv=>lhs;simp[-List.map_set,QV,hlm,hlm']) (k:=?_))
  exact done_pure hwf rfl rfl
end Go.Vw

namespace Go.Vw
open Go.Proofs Go.RowKit
set_option maxRecDepth 10000
set_option maxHeartbeats 4000000
end Go.Vw
