import Derived.Test.YtcpncecdegmliaaGreatC34
import Derived.Test.YtcpncecdegmliaaGreatC40
import Derived.Test.YtcpncecdegmliaaGreatC41
import Derived.Test.YtcpncecdegmliaaGreatC38
/-
  Part of the proof (texts BRRun).
-/
set_option linter.unusedVariables false
set_option linter.unusedSimpArgs false
namespace Go.Vw
open Go.Proofs Go.RowKit
set_option maxRecDepth 10000
set_option maxHeartbeats 4000000
def encKept (p : Ss.Ins × Int) : V := .agg [vint p.1.op, vu p.1.n, vl vint p.1.args, vl vint p.1.outs, vint p.2]
theorem encKept_cells (p : Ss.Ins × Int) : (encKept p).cells = [vint p.1.op, vu p.1.n, vl vint p.1.args, vl vint p.1.outs, vint p.2] := nr rfl
theorem encKept_closed (p : Ss.Ins × Int) : (encKept p).closed = true := rfl
theorem flatC_flatten {α : Type} (enc : α → V) (l : List α) : flatC enc l = (l.map fun x => (enc x).cells).flatten := by rw [flatC, List.flatMap_def]
theorem flatC_at {α : Type} {enc : α → V} {s : Nat} (hs : ∀ x, (enc x).cells.length = s) {l : List α} {k : Nat} (hk : k < l.length) : k * s + s ≤ (flatC enc l).length ∧ ((flatC enc l).drop (k * s)).take s = (enc l[k]).cells := by
 refine ⟨?_, ?_⟩
 ·rw [flatC_len hs]
  have : (k + 1) * s ≤ l.length * s := Nat.mul_le_mul_right _ hk
  rw [Nat.succ_mul] at this; exact this
 ·rw [flatC_flatten, flat_row (m := s) (fun r hr => by obtain ⟨x, _, rfl⟩ := List.mem_map.1 hr; exact hs x) (by simpa using hk)]
  simp
theorem St_wf1 {B : Store} (hw : B.Wf) {o : Nat} {c : Nat × List V} {l : List (Option (Nat × List V))} (ho : o < B.nx) (hc : V.idsL (fun o => decide (o < lid B.nx l.length)) c.2 = true) (h : l.all (fun c => match c with | some c => V.idsL (fun o => decide (o < lid B.nx l.length)) c.2 | none => true) = true) : (St B [(o, some c)] l).Wf := by
 have e : St B [(o, some c)] l = (St B [] l).upd o c := (St_updOld (u := []) ho).symm
 rw [e]
 exact upd_wf (St_wf hw h) (by rw [St_nx, lid]; omega) (by rw [St_nx]; exact hc)
theorem idsL_lid {B : Store} (hw : B.Wf) {o s : Nat} {cs : List V} (h : B.get o = some (s, cs)) (m : Nat) : V.idsL (fun o => decide (o < lid B.nx m)) cs = true := by
 have := hw.ids o _ h
 exact idsL_mono (fun o ho => by rw [decide_eq_true_eq] at ho ⊢; simp only [lid]; omega) _ this
theorem idsL_set {p : Nat → Bool} {cs : List V} {k : Nat} {v : V} (h : V.idsL p cs = true) (hv : v.ids p = true) : V.idsL p (cs.set k v) = true := by
 simp only [idsL_eq, List.all_eq_true] at h ⊢
 intro x hx
 rcases List.mem_or_eq_of_mem_set hx with hx | rfl
 ·exact h x hx
 ·exact hv
structure RInv (S : Store) (p4 pg ot ob : Nat) (hd : List V) (ts : List Int) (bs : List Ss.Block) (T : Store) (cells : List V) (ids : List Nat) : Prop where
 old : Agree S T
 c4 : T.get p4 = some (4, [V.nils, V.nils, V.nils, V.nils])
 cg : T.get pg = some (4, hd)
 ct : T.get ot = some (1, ts.map vint)
 cb : T.get ob = some (6, cells)
 own : OwL T (reps bs.length blkT) cells (flatC encBlock bs) ids
 nd : (p4 :: pg :: ot :: ob :: ids).Nodup
 lt : ∀ o ∈ p4 :: pg :: ot :: ob :: ids, S.nx ≤ o
 args : ∀ b ∈ bs, ∀ x ∈ b.code, x.op = 257 → x.args ≠ []
 len : ∀ b ∈ bs, b.code.length ≤ 4096
theorem rcode_len (near : List Int) (n : Int) : ∀ (code : List Ss.Ins) (all : Ss.Kept), (Ss.rcode near n all code).1.length ≤ code.length
 | [], all => by simp [Ss.rcode]
 | x :: r, all => by
  rw [Ss.rcode]; split
  ·have := rcode_len near n r all; simp; omega
  ·have := rcode_len near n r (if x.op = 257 then all ++ [(x, n)] else all); simp; omega
theorem RInv.put {S : Store} {p4 pg ot ob : Nat} {hd : List V} {ts : List Int} {bs : List Ss.Block} {T : Store} {cells : List V} {ids : List Nat} (h : RInv S p4 pg ot ob hd ts bs T cells ids) (hwT : T.Wf) {n : Nat} (hn : n < bs.length) :
  ∃ (oc : Nat), cells[n * 6 + 1]? = some (.slice oc 0 bs[n].code.length) ∧ T.get oc = some (4, flatC encIns bs[n].code) ∧ oc < T.nx ∧ ob < T.nx ∧ oc ≠ ob ∧ ∀ (code' : List Ss.Ins), (∀ x ∈ code', x ∈ bs[n].code) → code'.length ≤ 4096 → ∃ ids',
   RInv S p4 pg ot ob hd ts (bs.set n ⟨bs[n].params, code', bs[n].term⟩) (St T [(ob, some (6, cells.set (n * 6 + 1) (.slice (lid T.nx 0) 0 code'.length)))] [some (4, flatC encIns code')]) (cells.set (n * 6 + 1) (.slice (lid T.nx 0) 0 code'.length)) ids' := by
 obtain ⟨old, c4, cg, ct, cb, own, nd, lt, args, len⟩ := h
 have olt : ∀ {o c}, T.get o = some c → o < T.nx := fun h => old_lt hwT h
 have hmem : bs[n] ∈ bs := List.getElem_mem hn
 obtain ⟨c1, c2, oc, i1, i2, rfl, hl, rfl, hoc, k1, k2⟩ := blk_split own rfl hn (List.getElem?_eq_getElem hn)
 have nd2 := nd
 simp only [List.nodup_cons, List.mem_cons, not_or] at nd2
 obtain ⟨⟨a1, a2, a3, a4⟩, ⟨b1, b2, b3⟩, ⟨e1, e2⟩, f1, nd3⟩ := nd2
 have hcb : oc ≠ ob := fun e => f1 (by rw [← e]; simp)
 have icl : ∀ o ∈ i1 ++ oc :: i2, o < T.nx := fun o ho => by
  have := own.alive o ho
  cases hg : T.get o with
  | none => rw [hg] at this; cases this
  | some c => exact olt hg
 have lb := olt cb
 refine ⟨oc, mid_get (m := 6) (p := 1) hl rfl, hoc, olt hoc, lb, hcb, fun code' hsub hlen' => ⟨i1 ++ lid T.nx 0 :: i2, ?_⟩⟩
 have hset : (c1 ++ ([vl vint bs[n].params, V.slice oc 0 bs[n].code.length, vint bs[n].term.kind, vint bs[n].term.arg, vl encEdge bs[n].term.to, vl vint bs[n].term.args] ++ c2)).set (n * 6 + 1) (.slice (lid T.nx 0) 0 code'.length) =
   c1 ++ ([vl vint bs[n].params, V.slice (lid T.nx 0) 0 code'.length, vint bs[n].term.kind, vint bs[n].term.arg, vl encEdge bs[n].term.to, vl vint bs[n].term.args] ++ c2) := by
  rw [← hl, List.set_append_right _ _ (by omega), Nat.add_sub_cancel_left]; rfl
 rw [hset]
 have gT : ∀ o u l, o < T.nx → o ≠ ob → (St T [(ob, u)] l).get o = T.get o := fun o u l h1 h2 => by
  rw [St_old h1]; simp [uGet, h2]
 have hnid : lid T.nx 0 ∉ i1 ++ oc :: i2 := fun hm => by have := icl _ hm; simp [lid] at this
 refine ⟨⟨by rw [St_nx, lid]; have := old.1; simp; omega, fun o ho => ?_⟩, ?_, ?_, ?_, ?_, ?_, ?_, ?_, ?_, ?_⟩
 ·have := lt ob (by simp)
  rw [gT o _ _ (by have := old.1; omega) (by omega)]; exact old.2 o ho
 ·rw [gT _ _ _ (olt c4) a3]; exact c4
 ·rw [gT _ _ _ (olt cg) b2]; exact cg
 ·rw [gT _ _ _ (olt ct) e1]; exact ct
 ·rw [St_old lb]; simp [uGet]
 ·simp only [List.length_set]
  refine blk_join (b := ⟨bs[n].params, code', bs[n].term⟩) (k1.mono fun o ho => gT o _ _ (icl o (by simp [ho])) (fun e => f1 (by rw [← e]; simp [ho]))) (k2.mono fun o ho => gT o _ _ (icl o (by simp [ho])) (fun e => f1 (by rw [← e]; simp [ho]))) rfl hn ?_
  rw [St_get]; rfl
 ·obtain ⟨m1, m2, m3⟩ := List.nodup_append.1 nd3
  have m4 := (List.nodup_cons.1 m2)
  have hcn : lid T.nx 0 = T.nx := by simp [lid]
  have hmm : ∀ o, o < T.nx → o ∉ i1 ++ oc :: i2 → o ∉ i1 ++ lid T.nx 0 :: i2 := fun o h1 h2 h3 => by
   simp only [List.mem_append, List.mem_cons, not_or] at h2 h3
   rcases h3 with h3 | h3 | h3
   ·exact h2.1 h3
   ·omega
   ·exact h2.2.2 h3
  refine List.nodup_cons.2 ⟨?_, List.nodup_cons.2 ⟨?_, List.nodup_cons.2 ⟨?_, List.nodup_cons.2 ⟨hmm ob lb f1, ?_⟩⟩⟩⟩
  ·simp only [List.mem_cons, not_or]
   exact ⟨a1, a2, a3, hmm _ (olt c4) a4⟩
  ·simp only [List.mem_cons, not_or]
   exact ⟨b1, b2, hmm _ (olt cg) b3⟩
  ·simp only [List.mem_cons, not_or]
   exact ⟨e1, hmm _ (olt ct) e2⟩
  ·refine List.nodup_append.2 ⟨m1, List.nodup_cons.2 ⟨fun hm => hnid (by simp [hm]), m4.2⟩, fun a ha b hb => ?_⟩
   rcases List.mem_cons.1 hb with rfl | hb
   ·exact fun e => hnid (by rw [← e]; simp [ha])
   ·exact m3 a ha b (by simp [hb])
 ·intro o ho
  simp only [List.mem_cons, List.mem_append] at ho
  rcases ho with h | h | h | h | h | h | h
  ·exact lt o (by simp [h])
  ·exact lt o (by simp [h])
  ·exact lt o (by simp [h])
  ·exact lt o (by simp [h])
  ·exact lt o (by simp [h])
  ·have := old.1; simp only [lid] at h; omega
  ·exact lt o (by simp [h])
 ·intro b hb x hx
  rcases List.mem_or_eq_of_mem_set hb with hb | rfl
  ·exact args b hb x hx
  ·exact args _ hmem x (hsub x hx)
 ·intro b hb
  rcases List.mem_or_eq_of_mem_set hb with hb | rfl
  ·exact len b hb
  ·exact hlen'
theorem RInv.step {S : Store} {p4 pg ot ob : Nat} {hd : List V} {ts near : List Int} {bs : List Ss.Block} {T : Store} {cells : List V} {ids : List Nat} (h : RInv S p4 pg ot ob hd ts bs T cells ids) (hwT : T.Wf) {n : Nat} (hn : n < bs.length) :
  ∃ (oc : Nat), cells[n * 6 + 1]? = some (.slice oc 0 bs[n].code.length) ∧ T.get oc = some (4, flatC encIns bs[n].code) ∧ oc < T.nx ∧ ob < T.nx ∧ oc ≠ ob ∧ ∀ (all : Ss.Kept), ∃ ids',
   RInv S p4 pg ot ob hd ts (Ss.rstep near (bs, all) n).1 (St T [(ob, some (6, cells.set (n * 6 + 1) (.slice (lid T.nx 0) 0 (Ss.rcode near n all bs[n].code).1.length)))] [some (4, flatC encIns (Ss.rcode near n all bs[n].code).1)]) (cells.set (n * 6 + 1) (.slice (lid T.nx 0) 0 (Ss.rcode near n all bs[n].code).1.length)) ids' := by
 obtain ⟨oc, h1, h2, h3, h4, h5, h6⟩ := h.put hwT hn
 have hgd : bs.getD n default = bs[n] := by rw [List.getD_eq_getElem?_getD, List.getElem?_eq_getElem hn]; rfl
 refine ⟨oc, h1, h2, h3, h4, h5, fun all => ?_⟩
 obtain ⟨ids', h7⟩ := h6 (Ss.rcode near n all bs[n].code).1 (fun x hx => Ss.code_sub _ _ _ _ x hx) (Nat.le_trans (rcode_len _ _ _ _) (h.len _ (List.getElem_mem hn)))
 refine ⟨ids', ?_⟩
 simp only [Ss.rstep, hgd]
 exact h7
theorem ROrderI_v (g : List (List Int)) (h : Fits g) (hr : G.right g = true) : VPure Tryz.prog 23 [vl (vl vint) g] (.tuple [vl vnat (G.ordI g), vint 0]) := by
 have h1 : VPure Tryz.prog 42 [vl (vl vnat) (G.nats g)] (.bool true) := by
  have := RRight_v g h.1 h.2
  rw [hr, G.right_enc hr] at this
  exact this
 simp only [G.ordI, hr, if_true]
 rw [G.right_enc hr]
 have hg := G.right_ok hr
 obtain ⟨t, h1', h2, h3⟩ := G.order_ends hg
 have := ROrder_v (G.nats g) hg (G.nats g).length t h1 h1' (by have := hg.max; omega)
 simpa [G.order, h1'] using this
theorem RBce_v (S : Store) (e : Ss.Env) (f : Ss.Fn) (he : e.Fits) (hf : f.Fits) (hc : Ss.check e f = true) : VCalls Tryz.prog 7 [encEnv e, encFn f] S fun r T => ∃ r', r = .tuple [r', vint 0] ∧ CopiedT S (Ss.bce (G.rNear (G.nats (Ss.succs f.blocks))) (G.order (G.nats (Ss.succs f.blocks))) f) r' T := by
 have hgr := Ss.graphic hc
 have hs := Ss.check_small hc
 have h257 := fun b hb x hx ho => @Ss.check_257 e f hc b hb x hx ho
 have cck := RCheck_v e f he hf
 rw [Ss.check_agrees hf] at cck
 have crp := fun S => RCopyT_v S f hf hs
 have csu := RSucc_v f hf hs
 have cor := ROrderI_v (Ss.succs f.blocks) (succs_fits hf) hgr.right
 have cne := RNearI_v (Ss.succs f.blocks) (succs_fits hf).1 (succs_fits hf).2 hgr.right
 have hfb : ∀ b ∈ f.blocks, b.Fits := hf.2.2.2
 have hsm := (Ss.small_iff f).1 hs
 rw [hgr.ord] at cor
 rw [hgr.near] at cne
 obtain ⟨_, _, _, _, hol, holt, hnl, hends, hbl⟩ := hgr
 have hlen : ∀ b ∈ f.blocks, b.code.length ≤ 4096 := fun b hb => by
  have h1 := hsm.2.2
  have := count_mem hb
  omega
 generalize Ss.check e f = ck at *
 generalize G.order (G.nats (Ss.succs f.blocks)) = order at *
 generalize G.rNear (G.nats (Ss.succs f.blocks)) = near at *
 generalize Ss.succs f.blocks = sc at *
 obtain ⟨⟨fi, fo⟩, ts, bs⟩ := f
 obtain ⟨sg, im, gl, mu, me⟩ := e
 simp only at *
 have cck' : VPure Tryz.prog 14 [.agg [vl encSig sg, vint im, vl vint gl, vl V.bool mu, .bool me], .agg [vl vint fi, vl vint fo, vl vint ts, vl encBlock bs]] (.bool ck) := cck
 have csu' : VPure Tryz.prog 24 [.agg [vl vint fi, vl vint fo, vl vint ts, vl encBlock bs]] (vl (vl vint) sc) := csu
 have crp' : ∀ S, VCalls Tryz.prog 15 [.agg [vl vint fi, vl vint fo, vl vint ts, vl encBlock bs]] S (CopiedT S ⟨⟨fi, fo⟩, ts, bs⟩) := crp
 refine vcalls_startC (c := bodyOf Tryz.f7) Tryz.func7 rfl (by conv => lhs; reduce) (by simp [Tryz.ntmps7]) ?_
 rw [Tryz.ntmps7]
 intro hwf
 repeat refine QS ?_
 refine QR (r:=by conv=>lhs;simp[-List.map_set,QV]) (k:=?_)
 refine QN ?_
 refine vw_ghost' 2 rfl ((refSt (k := 0) (by simp) (by rfl) (by rfl) (by simp))) (by conv => lhs; simp [Fr.set]) ?_
 simp only [List.set_cons_succ, List.set_cons_zero]
 refine vw_ghost' 3 rfl ((refSt (k := 1) (by simp) (by rfl) (by rfl) (by simp))) (by conv => lhs; simp [Fr.set]) ?_
 simp only [List.set_cons_succ, List.set_cons_zero]
 refine vw_only' [2, 3, 4, 5] (by conv => lhs; simp [Fr.only, Fr.look]) ?_
 refine vw_gc [2] hwf (by decide) (by simp [-List.map_set]) (by conv => lhs; simp [-List.map_set]) (by conv => lhs; simp [-List.map_set]) (by conv => lhs; simp [-List.map_set]) ?_
 repeat refine QS ?_
 refine QR (r:=by conv=>lhs;simp[-List.map_set,QV]) (k:=?_)
 refine vcall_useH (cck') (by rfl) ?_
 refine QM (by conv=>lhs;simp[-List.map_set,QV,hc]) ?_
 refine QN ?_
 repeat (first|refine QG ?_|refine QX (r:=by conv=>lhs;simp[-List.map_set,QV,hc]) (k:=?_))
 repeat refine QS ?_
 refine QR (r:=by conv=>lhs;simp[-List.map_set,QV]) (k:=?_)
 refine vcall_any rfl (crp' _) ?_
 rintro X T ⟨hag0, hwT, ot, ob, cells, ids, rfl, hotg, hob, how, hnd, hids⟩
 simp only at hotg how
 refine vseg_nil hwT ?_
 refine QM (by conv=>lhs;simp[-List.map_set,QV]) ?_
 refine QN ?_
 have hag1 := hag0.1
 rw [St_nx] at hag1 hids
 simp only [List.length_cons, List.length_nil, Nat.zero_add, lid] at hag1 hids
 have h4 : T.get (lid S.nx 0) = some (4, [V.nils, V.nils, V.nils, V.nils]) := by
  rw [hag0.2 (lid S.nx 0) (by rw [St_nx]; simp [lid]), St_get]; rfl
 have h4lt : lid S.nx 0 < T.nx := by simp only [lid]; omega
 refine vw_base (b' := T.nx) (by omega) ?_
 have hwf0 := hwf
 clear hwf
 have hwf := hwT
 repeat refine QS ?_
 refine QR (r:=by conv=>lhs;simp[-List.map_set,QV]) (k:=?_)
 refine vcall_useH (csu') (by rfl) ?_
 refine QM (by conv=>lhs;simp[-List.map_set,QV]) ?_
 refine vcall_useH (cor) (by rfl) ?_
 refine QM (by conv=>lhs;simp[-List.map_set,QV]) ?_
 refine QN ?_
 repeat refine QS ?_
 refine QR (r:=by conv=>lhs;simp[-List.map_set,QV]) (k:=?_)
 refine vcall_useH (csu') (by rfl) ?_
 refine QM (by conv=>lhs;simp[-List.map_set,QV]) ?_
 refine vcall_useH (cne) (by rfl) ?_
 refine QM (by conv=>lhs;simp[-List.map_set,QV]) ?_
 refine QN ?_
 repeat (first|refine QG ?_|refine QX (r:=by conv=>lhs;simp[-List.map_set,QV]) (k:=?_))
 refine vw_void 11 5 rfl (by conv => lhs; simp [Fr.set]) ?_
 simp only [List.cons_append, List.nil_append, List.length_cons, List.length_nil, Nat.zero_add]
 rw [St_sink1]
 have hlt : ∀ o ∈ ot :: ob :: ids, o < T.nx := fun o ho => (hids o ho).2
 have g0 : ∀ o l, o < T.nx → (St T [] l).get o = T.get o := fun o l ho => by rw [St_old ho]; rfl
 have hinv : RInv S (lid S.nx 0) (lid T.nx 0) ot ob [vl vint fi, vl vint fo, .slice ot 0 ts.length, .slice ob 0 bs.length] ts bs (St T [] [some (4, [vl vint fi, vl vint fo, V.slice ot 0 ts.length, V.slice ob 0 bs.length])]) cells ids := by
  refine ⟨⟨by rw [St_nx, lid]; have := hag0.1; omega, fun o ho => ?_⟩, ?_, ?_, ?_, ?_, ?_, ?_, ?_, ?_, ?_⟩
  ·rw [g0 o _ (by omega), hag0.2 o (by rw [St_nx, lid]; omega), St_old ho]; rfl
  ·rw [g0 _ _ h4lt]; exact h4
  ·rw [St_get]; rfl
  ·rw [g0 _ _ (hlt ot (by simp))]; exact hotg
  ·rw [g0 _ _ (hlt ob (by simp))]; exact hob
  ·exact how.mono fun o ho => g0 o _ (hlt o (by simp [ho]))
  ·refine List.nodup_cons.2 ⟨?_, List.nodup_cons.2 ⟨fun hm => by have := hlt _ hm; simp [lid] at this, hnd⟩⟩
   simp only [lid] at h4lt ⊢
   rw [List.mem_cons, not_or]
   exact ⟨by omega, fun hm => by have := (hids _ hm).1; omega⟩
  ·intro o ho
   rcases List.mem_cons.1 ho with h | h
   ·subst h; simp only [lid]; omega
   ·rcases List.mem_cons.1 h with h | h
    ·subst h; simp only [lid]; omega
    ·have := (hids o h).1; omega
  ·exact fun b hb x hx ho => by
    have := h257 b hb x hx ho
    exact fun e => by rw [e] at this; simp at this
  ·exact hlen
 have hT0w : (St T [] [some (4, [vl vint fi, vl vint fo, V.slice ot 0 ts.length, V.slice ob 0 bs.length])]).Wf := St_wf hwT (by
  have h1 := hlt ot (by simp)
  have h2 := hlt ob (by simp)
  simp [V.idsL, V.ids, vl, lid]; omega)
 have e11 : lid T.nx 1 = lid (St T [] [some (4, [vl vint fi, vl vint fo, V.slice ot 0 ts.length, V.slice ob 0 bs.length])]).nx 0 := by rw [St_nx]; simp [lid]
 have e12 : T.nx ≤ (St T [] [some (4, [vl vint fi, vl vint fo, V.slice ot 0 ts.length, V.slice ob 0 bs.length])]).nx := by rw [St_nx]; simp [lid]
 rw [e11]
 generalize hp4 : lid S.nx 0 = p4 at *
 generalize hpg : lid T.nx 0 = pg at *
 generalize hT0 : St T [] [some (4, [vl vint fi, vl vint fo, V.slice ot 0 ts.length, V.slice ob 0 bs.length])] = T0 at *
 have hnb : (Ss.bce near order ⟨⟨fi, fo⟩, ts, bs⟩) = ⟨⟨fi, fo⟩, ts, (order.foldl (Ss.rstep near) (bs, [])).1⟩ := rfl
 rw [hnb]
 repeat refine QS ?_
 refine vw_loopAt [4, 6, 7, 9, 11, 12] rfl (fun c σ S' => ∃ (T1 : Store) (bs1 : List Ss.Block) (all : Ss.Kept) (cells : List V) (ids : List Nat) (k : Nat), RInv S p4 pg ot ob [vl vint fi, vl vint fo, .slice ot 0 ts.length, .slice ob 0 bs.length] ts bs1 T1 cells ids ∧ T1.Wf ∧ T.nx ≤ T1.nx ∧ bs1.length = bs.length ∧ k ≤ order.length ∧ c = order.length - k ∧ (∀ p ∈ all, p.1.op = 257 → p.1.args ≠ []) ∧ all.length ≤ k * 4096 ∧ ((order.drop k).foldl (Ss.rstep near) (bs1, all)).1 = (order.foldl (Ss.rstep near) (bs, [])).1 ∧ σ = [(4, .ptr p4 0), (6, .ptr pg 0), (7, vl vnat order), (9, vl vint near), (11, .slice (lid T1.nx 0) 0 all.length), (12, vnat k)] ∧ S' = St T1 [] [some (5, flatC encKept all)]) order.length ?_ ?_
 ·exact ⟨T0, bs, [], cells, ids, 0, hinv, hT0w, e12, rfl, by omega, rfl, by simp, by simp, rfl, by simp [Fr.only, Fr.look], rfl⟩
 ·rintro c σ S' ⟨T1, bs1, all, cells1, ids1, k, hI, hwT1, hle1, hbl1, hk, rfl, haa, hall, hfold, rfl, rfl⟩
  have hwf1 := hwf
  clear hwf
  have hwf := hwT1
  have lg := old_lt hwT1 hI.cg
  have l4 := old_lt hwT1 hI.c4
  have hIg := hI.cg
  have hI4 := hI.c4
  have bg := fun u l => @St_old T1 u l pg lg
  have b4 := fun u l => @St_old T1 u l p4 l4
  by_cases hkt : k < order.length
  case neg =>
   have hke : k = order.length := by omega
   subst hke
   rw [List.drop_length, List.foldl_nil] at hfold
   simp only at hfold
   have hupd := fun u l c => @St_updOld T1 u l c p4 l4
   repeat (first|refine QG ?_|refine QX (r:=by conv=>lhs;simp[-List.map_set,QV,hkt,bg,b4,hIg,hI4,hupd]) (k:=?_))
   have hg4 : (St T1 [(p4, some (4, [vl vint fi, vl vint fo, V.slice ot 0 ts.length, V.slice ob 0 bs.length]))] [some (5, flatC encKept all)]).get p4 = some (4, [vl vint fi, vl vint fo, V.slice ot 0 ts.length, V.slice ob 0 bs.length]) := by rw [b4]; simp [uGet]
   refine doneC (xs := [.agg [vl vint fi, vl vint fo, .slice ot 0 ts.length, .slice ob 0 bs.length], .int .i64 0]) (by simp [hg4]) ?_
   obtain ⟨old, c4, cg, ct, cb, own, nd, lt, _, _⟩ := hI
   have nd2 := nd
   simp only [List.nodup_cons, List.mem_cons, not_or] at nd2
   obtain ⟨⟨a1, a2, a3, a4⟩, ⟨b1, b2, b3⟩, ⟨e1, e2⟩, f1, nd3⟩ := nd2
   have alive := own.alive
   have olt : ∀ {o c}, T1.get o = some c → o < T1.nx := fun h => old_lt hwT1 h
   have icl : ∀ o ∈ ids1, o < T1.nx := fun o ho => by
    have := alive o ho
    cases hg : T1.get o with
    | none => rw [hg] at this; cases this
    | some c => exact olt hg
   have gT : ∀ o, o < T1.nx → o ≠ p4 → (St T1 [(p4, some (4, [vl vint fi, vl vint fo, V.slice ot 0 ts.length, V.slice ob 0 bs.length]))] [some (5, flatC encKept all)]).get o = T1.get o := fun o h1 h2 => by
    rw [St_old h1]; simp [uGet, h2]
   have hw5 : (St T1 [(p4, some (4, [vl vint fi, vl vint fo, V.slice ot 0 ts.length, V.slice ob 0 bs.length]))] [some (5, flatC encKept all)]).Wf := St_wf1 hwT1 l4 (idsL_lid hwT1 hIg _) (by simp [flatC_ids encKept_closed])
   have hnx : (St T1 [(p4, some (4, [vl vint fi, vl vint fo, V.slice ot 0 ts.length, V.slice ob 0 bs.length]))] [some (5, flatC encKept all)]).nx = T1.nx + 1 := by rw [St_nx]; simp [lid]
   refine done_as ⟨_, rfl, ⟨by rw [hnx]; have := old.1; omega, fun o ho => ?_⟩, hw5, ot, ob, cells1, ids1, ?_, ?_, ?_, ?_, ?_, ?_⟩
   ·have := lt p4 (by simp)
    rw [gT o (by have := old.1; omega) (by omega)]; exact old.2 o ho
   ·rw [← hfold, hbl1]
   ·rw [gT ot (olt ct) (fun e => a2 e.symm)]; exact ct
   ·rw [gT ob (olt cb) (fun e => a3 e.symm)]; exact cb
   ·rw [← hfold]
    exact own.mono fun o ho => gT o (icl o ho) fun e => a4 (e ▸ ho)
   ·exact List.Sublist.nodup (.cons _ (.cons _ (List.Sublist.refl _))) nd
   ·intro o ho
    refine ⟨lt o ?_, ?_⟩
    ·simp only [List.mem_cons] at ho ⊢
     rcases ho with h | h | h
     ·exact .inr (.inr (.inl h))
     ·exact .inr (.inr (.inr (.inl h)))
     ·exact .inr (.inr (.inr (.inr h)))
    ·rw [hnx]
     simp only [List.mem_cons] at ho
     rcases ho with rfl | rfl | h
     ·have := olt ct; omega
     ·have := olt cb; omega
     ·have := icl o h; omega
  refine vw_base (b' := T1.nx) hle1 ?_
  have hw := wrapNat hkt (by omega)
  obtain ⟨n, hn⟩ : ∃ n, order[k] = n := ⟨_, rfl⟩
  have hnm : n ∈ order := hn ▸ List.getElem_mem hkt
  have hnl1 : n < bs1.length := by rw [hbl1]; exact holt n hnm
  rw [List.drop_eq_getElem_cons hkt, List.foldl_cons, hn] at hfold
  obtain ⟨oc, hcell, hoc, loc, lb, hcb, hstep⟩ := hI.step (near := near) hwT1 hnl1
  have hIb := hI.cb
  have bb := fun u l => @St_old T1 u l ob lb
  have bc := fun u l => @St_old T1 u l oc loc
  have hnb2 : (n : Int) < (bs.length : Int) := by omega
  have gt4 := fun ks => gcTo_old (n := T1.nx) ks l4
  have gp4 := fun ks => gcP_old (n := T1.nx) ks l4
  have gtg := fun ks => gcTo_old (n := T1.nx) ks lg
  have gpg := fun ks => gcP_old (n := T1.nx) ks lg
  have gtb := fun ks => gcTo_old (n := T1.nx) ks lb
  have gpb := fun ks => gcP_old (n := T1.nx) ks lb
  have hkr : ∀ f (l : List (Ss.Ins × Int)), V.renL f (flatC encKept l) = flatC encKept l := fun f l => flatC_ren encKept_closed f l
  have hki : ∀ p (l : List (Ss.Ins × Int)), V.idsL p (flatC encKept l) = true := fun p l => flatC_ids encKept_closed p l
  have hir : ∀ f (l : List Ss.Ins), V.renL f (flatC encIns l) = flatC encIns l := fun f l => flatC_ren encIns_closed f l
  have hii : ∀ p (l : List Ss.Ins), V.idsL p (flatC encIns l) = true := fun p l => flatC_ids encIns_closed p l
  repeat (first|refine QG ?_|refine QX (r:=by conv=>lhs;simp[-List.map_set,QV,hkt,bg,hIg,hn,hnb2,bb,hIb]) (k:=?_))
  refine vw_void 14 4 rfl (by conv => lhs; simp [Fr.set]) ?_
  simp only [List.cons_append, List.nil_append, List.length_cons, List.length_nil, Nat.zero_add]
  refine vw_only' [4, 6, 7, 9, 11, 12, 13, 14, 15] (by conv => lhs; simp [Fr.only, Fr.look]) ?_
  refine vw_gc [1, 0] hwf (by decide) (by simp [-List.map_set, hkr, hki, gt4, gp4, gtg, gpg, gtb, gpb]) (by conv => lhs; simp [-List.map_set, hkr, hki, gt4, gp4, gtg, gpg, gtb, gpb]) (by conv => lhs; simp [-List.map_set, hkr, hki, gt4, gp4, gtg, gpg, gtb, gpb]) (by conv => lhs; simp [-List.map_set, hkr, hki, gt4, gp4, gtg, gpg, gtb, gpb]) ?_
  obtain ⟨code, hcode⟩ : ∃ code, bs1[n].code = code := ⟨_, rfl⟩
  rw [hcode] at hcell hoc
  have hclen : code.length ≤ 4096 := by rw [← hcode]; exact hI.len _ (List.getElem_mem hnl1)
  have hargs : ∀ x ∈ code, x.op = 257 → x.args ≠ [] := by rw [← hcode]; exact hI.args _ (List.getElem_mem hnl1)
  have hkk : k * 4096 ≤ 1048576 := by omega
  repeat refine QS ?_
  refine vw_loopAt [4, 6, 7, 9, 11, 12, 13, 14, 15] rfl (fun c σ S' => ∃ (kk : Nat) (codeK : List Ss.Ins) (allK : Ss.Kept), kk ≤ code.length ∧ c = code.length - kk ∧ (codeK ++ (Ss.rcode near n allK (code.drop kk)).1, (Ss.rcode near n allK (code.drop kk)).2) = Ss.rcode near n all code ∧ codeK.length ≤ kk ∧ allK.length ≤ all.length + kk ∧ (∀ p ∈ allK, p.1.op = 257 → p.1.args ≠ []) ∧ σ = [(4, .ptr p4 0), (6, .ptr pg 0), (7, vl vnat order), (9, vl vint near), (11, .slice (lid T1.nx 1) 0 allK.length), (12, vnat k), (13, .ptr ob (n * 6)), (14, .slice (lid T1.nx 0) 0 codeK.length), (15, vnat kk)] ∧ S' = St T1 [] [some (4, flatC encIns codeK), some (5, flatC encKept allK)]) code.length ?_ ?_
  ·exact ⟨0, [], all, by omega, rfl, rfl, by simp, by omega, haa, by simp [Fr.only, Fr.look], rfl⟩
  ·rintro c σ S' ⟨kk, codeK, allK, hkk2, rfl, hrc, hck, hak, haK, rfl, rfl⟩
   by_cases hkt2 : kk < code.length
   case neg =>
    have hke : kk = code.length := by omega
    subst hke
    have hlc : n * 6 + 1 < cells1.length := (List.getElem?_eq_some_iff.1 hcell).1
    have hupd := fun u l c => @St_updOld T1 u l c ob lb
    rw [List.drop_length] at hrc
    simp only [Ss.rcode, List.append_nil] at hrc
    obtain ⟨ids', hI'⟩ := hstep all
    rw [hcode, ← hrc] at hI'
    simp only at hI'
    repeat (first|refine QG ?_|refine QX (r:=by conv=>lhs;simp[-List.map_set,QV,hkt2,bb,hIb,hcell,bc,hoc]) (k:=?_))
    repeat refine QS ?_
    refine QR (r:=by conv=>lhs;simp[-List.map_set,QV,bb,hIb,hlc,hupd]) (k:=?_)
    refine QN ?_
    repeat (first|refine QG ?_|refine QX (r:=by conv=>lhs;simp[-List.map_set,QV,hw]) (k:=?_))
    show Again _ _ _ _ _ _ _
    refine again ⟨Nat.sub_lt_sub_left hkt (Nat.lt_succ_self k), St T1 [(ob, some (6, cells1.set (n * 6 + 1) (.slice (lid T1.nx 0) 0 codeK.length)))] [some (4, flatC encIns codeK)], (Ss.rstep near (bs1, all) n).1, allK, _, ids', k + 1, hI', ?_, ?_, by rw [← hbl1]; simp [Ss.rstep], hkt, rfl, haK, by omega, ?_, ?_, ?_⟩
    ·refine St_wf1 hwT1 lb (idsL_set (idsL_lid hwT1 hIb _) (by simp [V.ids, lid])) (by simp [hii])
    ·rw [St_nx]; simp only [lid]; omega
    ·rw [← hfold]
     have : (Ss.rstep near (bs1, all) n).2 = allK := by
      have hgd : bs1.getD n default = bs1[n] := by rw [List.getD_eq_getElem?_getD, List.getElem?_eq_getElem hnl1]; rfl
      simp only [Ss.rstep, hgd, hcode, ← hrc]
     rw [← this]
    ·simp [Fr.only, Fr.look, St_nx, lid_lid']
    ·exact St_sink1
   have hw2 := wrapNat hkt2 (by omega)
   obtain ⟨x, hx⟩ : ∃ x, code[kk] = x := ⟨_, rfl⟩
   have hat := flatC_at (enc := encIns) (s := 4) (fun x => by rw [encIns_cells]; rfl) hkt2
   rw [hx, encIns_cells] at hat
   have hargx : x.op = 257 → x.args ≠ [] := hx ▸ hargs _ (List.getElem_mem hkt2)
   rw [List.drop_eq_getElem_cons hkt2, hx] at hrc
   obtain ⟨xo, xn, xa, xu⟩ := x
   obtain ⟨hat1, hat2⟩ := hat
   simp only at hat2
   repeat (first|refine QG ?_|refine QX (r:=by conv=>lhs;simp[-List.map_set,QV,hkt2,bb,hIb,hcell,bc,hoc,hat1,hat2]) (k:=?_))
   repeat refine QS ?_
   refine vw_loopAt [4, 6, 7, 9, 11, 12, 13, 14, 15, 16, 17, 18] rfl (fun c σ S' => ∃ (j : Nat) (cov : Bool), j ≤ allK.length ∧ c = allK.length - j ∧ cov = (allK.take j).any (fun p => Ss.covers p.1 ⟨xo, xn, xa, xu⟩ && G.dominates near p.2 n) ∧ σ = [(4, .ptr p4 0), (6, .ptr pg 0), (7, vl vnat order), (9, vl vint near), (11, .slice (lid T1.nx 1) 0 allK.length), (12, vnat k), (13, .ptr ob (n * 6)), (14, .slice (lid T1.nx 0) 0 codeK.length), (15, vnat kk), (16, .ptr (lid T1.nx 2) 0), (17, .bool cov), (18, vnat j)] ∧ S' = St T1 [] [some (4, flatC encIns codeK), some (5, flatC encKept allK), some (4, [V.int .i64 xo, .int .u64 xn, vl vint xa, vl vint xu])]) allK.length ?_ ?_
   ·exact ⟨0, false, by omega, rfl, by simp, by simp [Fr.only, Fr.look], rfl⟩
   ·rintro c σ S' ⟨j, cov, hj, rfl, hcov, rfl, rfl⟩
    by_cases hjt : j < allK.length
    ·have hwj := wrapNat hjt (by omega)
     have haj := flatC_at (enc := encKept) (s := 5) (fun x => by rw [encKept_cells]; rfl) hjt
     obtain ⟨p, hp⟩ : ∃ p, allK[j] = p := ⟨_, rfl⟩
     have hpm : p ∈ allK := hp ▸ List.getElem_mem hjt
     have htk : allK.take (j + 1) = allK.take j ++ [p] := by rw [List.take_succ_eq_append_getElem hjt, hp]
     rw [hp, encKept_cells] at haj
     have hap := haK p hpm
     have haj3 : (flatC encKept allK)[j * 5 + 4]? = some (.int .i64 p.2) := flatC_get (enc := encKept) (s := 5) (fun x => by rw [encKept_cells]; rfl) allK j 4 p _ (by rw [List.getElem?_eq_getElem hjt, hp]) rfl
     obtain ⟨⟨po, pn, pa, pu⟩, pb⟩ := p
     simp only at haj haj3 hap
     have haj2 : List.take 4 (List.drop (j * 5) (flatC encKept allK)) = [.int .i64 po, .int .u64 pn, vl vint pa, vl vint pu] := by
      have : List.take 4 (List.take 5 (List.drop (j * 5) (flatC encKept allK))) = List.take 4 [vint po, vu pn, vl vint pa, vl vint pu, vint pb] := by rw [haj.2]
      rw [List.take_take] at this
      exact this
     have haj1 : j * 5 + 4 ≤ (flatC encKept allK).length := by have := haj.1; omega
     have hcv := Covers_v ⟨po, pn, pa, pu⟩ ⟨xo, xn, xa, xu⟩ hap hargx
     have hdm := RDominates_v near pb n (by omega)
     obtain ⟨c1, hc1⟩ : ∃ c1, Ss.covers ⟨po, pn, pa, pu⟩ ⟨xo, xn, xa, xu⟩ = c1 := ⟨_, rfl⟩
     obtain ⟨c2, hc2⟩ : ∃ c2, G.dominates near pb n = c2 := ⟨_, rfl⟩
     rw [hc1] at hcv
     rw [hc2] at hdm
     have hnext : (allK.take (j + 1)).any (fun p => Ss.covers p.1 ⟨xo, xn, xa, xu⟩ && G.dominates near p.2 n) = (cov || (c1 && c2)) := by
      rw [htk, List.any_append, ← hcov, List.any_cons, List.any_nil, hc1, hc2, Bool.or_false]
     by_cases hv : cov = true
     ·repeat (first|refine QG ?_|refine QX (r:=by conv=>lhs;simp[-List.map_set,QV,hjt,hv,hwj]) (k:=?_))
      show Again _ _ _ _ _ _ _
      exact again ⟨Nat.sub_lt_sub_left hjt (Nat.lt_succ_self j), j + 1, true, hjt, rfl, by rw [hnext, hv]; simp, by simp [Fr.only, Fr.look], rfl⟩
     ·have hv' : cov = false := by simpa using hv
      repeat (first|refine QG ?_|refine QX (r:=by conv=>lhs;simp[-List.map_set,QV,hjt]) (k:=?_))
      repeat refine QS ?_
      refine QD (r:=by conv=>lhs;simp[-List.map_set,QV,hjt,hv',haj1,haj2,haj3]) (k:=?_)
      refine vcall_useH (hcv) (by rfl) ?_
      by_cases hq1 : c1 = true
      ·refine QM (by conv=>lhs;simp[-List.map_set,QV,hq1,hjt,haj1,haj2,haj3,hn,hkt]) ?_
       refine vcall_useH (hdm) (by rfl) ?_
       refine QM (by conv=>lhs;simp[-List.map_set,QV]) ?_
       refine QN ?_
       repeat (first|refine QG ?_|refine QX (r:=by conv=>lhs;simp[-List.map_set,QV,hwj]) (k:=?_))
       show Again _ _ _ _ _ _ _
       exact again ⟨Nat.sub_lt_sub_left hjt (Nat.lt_succ_self j), j + 1, c2, hjt, rfl, by rw [hnext, hv', hq1]; simp, by simp [Fr.only, Fr.look], rfl⟩
      ·have hq1' : c1 = false := by simpa using hq1
       refine QM (by conv=>lhs;simp[-List.map_set,QV,hq1']) ?_
       refine QN ?_
       repeat (first|refine QG ?_|refine QX (r:=by conv=>lhs;simp[-List.map_set,QV,hwj]) (k:=?_))
       show Again _ _ _ _ _ _ _
       exact again ⟨Nat.sub_lt_sub_left hjt (Nat.lt_succ_self j), j + 1, false, hjt, rfl, by rw [hnext, hv', hq1']; simp, by simp [Fr.only, Fr.look], rfl⟩
    have hje : j = allK.length := by omega
    subst hje
    rw [List.take_length] at hcov
    have hcov' : cov = Ss.rcov near n allK ⟨xo, xn, xa, xu⟩ := hcov
    cases cov with
    | true =>
     rw [Ss.rcode, ← hcov'] at hrc
     simp only [if_true] at hrc
     repeat (first|refine QG ?_|refine QX (r:=by conv=>lhs;simp[-List.map_set,QV,hjt,hw2]) (k:=?_))
     refine again_gc [0, 1] (by conv => lhs; simp [Fr.only]) hwf (by decide) (by simp [-List.map_set, hkr, hki, hir, hii, gt4, gp4, gtg, gpg, gtb, gpb]) (by conv => lhs; simp [-List.map_set, hkr, hki, hir, hii, gt4, gp4, gtg, gpg, gtb, gpb]) (by conv => lhs; simp [-List.map_set, hkr, hki, hir, hii, gt4, gp4, gtg, gpg, gtb, gpb]) (by conv => lhs; simp [-List.map_set, hkr, hki, hir, hii, gt4, gp4, gtg, gpg, gtb, gpb]) ⟨?_, kk + 1, codeK, allK, hkt2, rfl, hrc, by omega, by omega, haK, by simp, by simp⟩
     omega
    | false =>
     rw [Ss.rcode, ← hcov'] at hrc
     simp only [Bool.false_eq_true, if_false] at hrc
     have hal2 : allK.length ≤ 1052672 := by omega
     have hb1 : (codeK.length + 1) * 64 ≤ 140737488355328 := by omega
     have hb2 : codeK.length + 1 ≤ 140737488355328 := by omega
     have hb3 : (allK.length + 1) * 72 ≤ 140737488355328 := by omega
     have hb4 : allK.length + 1 ≤ 140737488355328 := by omega
     have hl1 : (flatC encIns codeK).length = codeK.length * 4 := flatC_len (fun x => by rw [encIns_cells]; rfl) _
     have hl2 : (flatC encKept allK).length = allK.length * 5 := flatC_len (fun x => by rw [encKept_cells]; rfl) _
     have hs1 : flatC encIns (codeK ++ [⟨xo, xn, xa, xu⟩]) = flatC encIns codeK ++ [.int .i64 xo, .int .u64 xn, vl vint xa, vl vint xu] := by rw [flatC_snoc, encIns_cells]; rfl
     have hs2 : flatC encKept (allK ++ [(⟨xo, xn, xa, xu⟩, (n : Int))]) = flatC encKept allK ++ [.int .i64 xo, .int .u64 xn, vl vint xa, vl vint xu, .int .i64 n] := by rw [flatC_snoc, encKept_cells]; rfl
     have hr4 : rep0 [V.int .i64 0, .int .u64 0, .nils, .nils] 1 = [.int .i64 0, .int .u64 0, .nils, .nils] := rfl
     have hr5 : rep0 [V.int .i64 0, .int .u64 0, .nils, .nils, .int .i64 0] 1 = [.int .i64 0, .int .u64 0, .nils, .nils, .int .i64 0] := rfl
     repeat (first|refine QG ?_|refine QX (r:=by conv=>lhs;simp[-List.map_set,QV,hjt]) (k:=?_))
     repeat refine QS ?_
     refine QR (r:=by conv=>lhs;simp[-List.map_set,QV,hr4,hl1,hb1,hb2]) (k:=?_)
     refine QN ?_
     by_cases hxo : xo = 257
     ·rw [if_pos hxo] at hrc
      repeat (first|refine QG ?_|refine QX (r:=by conv=>lhs;simp[-List.map_set,QV,hxo]) (k:=?_))
      subst hxo
      have hnew : ∀ p ∈ allK ++ [((⟨257, xn, xa, xu⟩ : Ss.Ins), (n : Int))], p.1.op = 257 → p.1.args ≠ [] := fun p hp => by
       rcases List.mem_append.1 hp with hp | hp
       ·exact haK p hp
       ·simp only [List.mem_singleton] at hp
        subst hp
        exact hargx
      repeat refine QS ?_
      refine vw_drawW (St T1 [] [none, none, some (4, [.int .i64 257, .int .u64 xn, vl vint xa, vl vint xu])]) (St T1 [] [none, none, some (4, [.int .i64 257, .int .u64 xn, vl vint xa, vl vint xu])]) [] rfl (by kernel_rfl) (by conv => lhs; reduce) (by conv => lhs; reduce) (by kernel_rfl) (by kernel_rfl) (ok_St (by simp [subU, shpU, subL, shpL])) (by conv => lhs; simp [-List.map_set,QV, hn, hkt]) ?_
      refine vseg_write rfl (by conv=>lhs;simp[-List.map_set,QV,hr5]) (ok_St (by simp [subU, shpU, subL, shpL])) ?_
      refine vseg_write rfl (by conv=>lhs;simp[-List.map_set,QV,hr5,hl2,hb3,hb4]) (ok_St (by simp [subU, shpU, subL, shpL])) ?_
      refine QM (by conv=>lhs;simp[-List.map_set,QV]) ?_
      refine QN ?_
      repeat (first|refine QG ?_|refine QX (r:=by conv=>lhs;simp[-List.map_set,QV,hw2]) (k:=?_))
      refine again_gc [4, 6] (by conv => lhs; simp [Fr.only]) hwf (by decide) (by simp [-List.map_set, hkr, hki, hir, hii, gt4, gp4, gtg, gpg, gtb, gpb]) (by conv => lhs; simp [-List.map_set, hkr, hki, hir, hii, gt4, gp4, gtg, gpg, gtb, gpb]) (by conv => lhs; simp [-List.map_set, hkr, hki, hir, hii, gt4, gp4, gtg, gpg, gtb, gpb]) (by conv => lhs; simp [-List.map_set, hkr, hki, hir, hii, gt4, gp4, gtg, gpg, gtb, gpb]) ⟨?_, kk + 1, codeK ++ [⟨257, xn, xa, xu⟩], allK ++ [(⟨257, xn, xa, xu⟩, (n : Int))], hkt2, rfl, by rw [← hrc]; simp, by simp; omega, by simp; omega, hnew, by simp, by simp [hs1, hs2]⟩
      omega
     ·rw [if_neg hxo] at hrc
      repeat (first|refine QG ?_|refine QX (r:=by conv=>lhs;simp[-List.map_set,QV,hxo,hw2]) (k:=?_))
      refine again_gc [4, 1] (by conv => lhs; simp [Fr.only]) hwf (by decide) (by simp [-List.map_set, hkr, hki, hir, hii, gt4, gp4, gtg, gpg, gtb, gpb]) (by conv => lhs; simp [-List.map_set, hkr, hki, hir, hii, gt4, gp4, gtg, gpg, gtb, gpb]) (by conv => lhs; simp [-List.map_set, hkr, hki, hir, hii, gt4, gp4, gtg, gpg, gtb, gpb]) (by conv => lhs; simp [-List.map_set, hkr, hki, hir, hii, gt4, gp4, gtg, gpg, gtb, gpb]) ⟨?_, kk + 1, codeK ++ [⟨xo, xn, xa, xu⟩], allK, hkt2, rfl, by rw [← hrc]; simp, by simp; omega, by omega, haK, by simp, by simp [hs1]⟩
      omega
end Go.Vw
