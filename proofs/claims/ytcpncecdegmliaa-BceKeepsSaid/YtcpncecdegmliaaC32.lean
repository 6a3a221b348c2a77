import Derived.Test.YtcpncecdegmliaaC31
import Derived.Test.YtcpncecdegmliaaC23
import Derived.Test.YtcpncecdegmliaaC15
/-
  Part of the proof (texts CChk, CChk2, CEq, CChk3, BRRun, BStrip, BThin).
-/
set_option linter.unusedVariables false
set_option linter.unusedSimpArgs false
namespace Ss
def rcheckCode (e : Env) (f : Fn) (ds : List Def) (near : List Int) (i : Int) : Nat → List Ins → Bool
 | _, [] => true
 | k, x :: r => rinsOk e f ds near i k x && rcheckCode e f ds near i (k + 1) r
def rcheckBlock (e : Env) (f : Fn) (ds : List Def) (near : List Int) (i : Int) (b : Block) : Bool :=
 rcheckCode e f ds near i 0 b.code && (rtermOk f ds near i b.code.length b.term && b.term.to.all (redgeOk f ds near i b.code.length))
def rcheckBlocks (e : Env) (f : Fn) (ds : List Def) (near : List Int) : Nat → List Block → Bool
 | _, [] => true
 | i, b :: bs => rcheckBlock e f ds near i b && rcheckBlocks e f ds near (i + 1) bs
def firstTick : List Ins → Bool
 | [] => false
 | x :: _ => decide (x.op = 258)
noncomputable def rshape (f : Fn) : Bool := decide (typesOf f.types (f.blocks.getD 0 default).params = f.sig.inn) && (firstTick (f.blocks.getD 0 default).code && !circ (msk f.blocks (Go.Vw.G.nats (succs f.blocks))))
noncomputable def rcheck (e : Env) (f : Fn) : Bool := checkHead e f && decide (1 ≤ f.blocks.length) && match defsOf f with
 | none => false
 | some ds => Go.Vw.G.right (succs f.blocks) && ((Go.Vw.G.without (Go.Vw.G.nats (succs f.blocks)) none).all id && (rshape f && rcheckBlocks e f ds (Go.Vw.G.nearI (succs f.blocks)) 0 f.blocks))
end Ss
namespace Go.Vw
open Go.Proofs Go.RowKit
set_option maxRecDepth 10000
set_option maxHeartbeats 8000000
end Go.Vw

namespace Ss
end Ss
namespace Go.Vw
end Go.Vw

namespace Ss
def chkF (n : Int) (t : List Int) (A : List Int → Bool) (r : FormR) : Bool := r.ok && decide (n ≤ r.most) && decide (t = r.outs) && A r.inn
def chkR (t : List Int) (A : List Int → Bool) (r : RForm) : Bool := r.ok && decide (t = r.outs) && A r.inn
inductive Walk (G : List (List Nat)) : Nat → Nat → Prop
 | one {a b : Nat} (h : b ∈ G.getD a []) : Walk G a b
 | more {a b c : Nat} (h : Walk G a b) (k : c ∈ G.getD b []) : Walk G a c
theorem Walk.cons {G : List (List Nat)} {a b c : Nat} (h : b ∈ G.getD a []) (w : Walk G b c) : Walk G a c := by
 induction w with
 | one k => exact .more (.one h) k
 | more _ k ih => exact .more ih k
theorem Walk.first {G : List (List Nat)} {a c : Nat} (w : Walk G a c) : ∃ b, b ∈ G.getD a [] ∧ (b = c ∨ Walk G b c) := by
 induction w with
 | one h => exact ⟨_, h, .inl rfl⟩
 | more _ k ih =>
  obtain ⟨b, h1, h2⟩ := ih
  refine ⟨b, h1, .inr ?_⟩
  rcases h2 with rfl | h2
  ·exact .one k
  ·exact .more h2 k
section
variable {tick : List Bool} {g M : List (List Nat)}
def DoneOk (M : List (List Nat)) (st : List Nat) : Prop := ∀ k, st.getD k 0 ≠ 0 → st.getD k 0 ≠ 1 → Ends M k
def OnesIn (s st : List Nat) : Prop := ∀ k, s.getD k 0 = 1 → st.getD k 0 = 1
def Under (M : List (List Nat)) (st : List Nat) (n : Nat) : Prop := ∀ k, st.getD k 0 = 1 → k = n ∨ Walk M k n
end
end Ss

namespace Go.Vw
open Go.Proofs Go.RowKit
set_option maxRecDepth 10000
set_option maxHeartbeats 16000000
end Go.Vw

namespace Go.Vw
open Go.Proofs Go.RowKit
set_option maxRecDepth 10000
set_option maxHeartbeats 4000000
def encKept (p : Ss.Ins × Int) : V := .agg [vint p.1.op, vu p.1.n, vl vint p.1.args, vl vint p.1.outs, vint p.2]
theorem flatC_flatten {α : Type} (enc : α → V) (l : List α) : flatC enc l = (l.map fun x => (enc x).cells).flatten := by rw [flatC, List.flatMap_def]
theorem flatC_at {α : Type} {enc : α → V} {s : Nat} (hs : ∀ x, (enc x).cells.length = s) {l : List α} {k : Nat} (hk : k < l.length) : k * s + s ≤ (flatC enc l).length ∧ ((flatC enc l).drop (k * s)).take s = (enc l[k]).cells := by
 refine ⟨?_, ?_⟩
 ·rw [flatC_len hs]
  have : (k + 1) * s ≤ l.length * s := Nat.mul_le_mul_right _ hk
  rw [Nat.succ_mul] at this; exact this
 ·rw [flatC_flatten, flat_row (m := s) (fun r hr => by obtain ⟨x, _, rfl⟩ := List.mem_map.1 hr; exact hs x) (by simpa using hk)]
  simp
theorem St_wf1 {B : Store} (hw : B.Wf) {o : Nat} {c : Nat × List V} {l : List (Option (Nat × List V))} (ho : o < B.nx) (hc : V.idsL (fun o => decide (o < lid B.nx l.length)) c.2 = true) (h : l.all (fun c => match c with | some c => V.idsL (fun o => decide (o < lid B.nx l.length)) c.2 | none => true) = true) : (St B [(o, some c)] l).Wf := by
 have e : St B [(o, some c)] l = (St B [] l).upd o c := (St_updOld (u := []) ho).symm
 rw [e]
 exact upd_wf (St_wf hw h) (by rw [St_nx, lid]; omega) (by rw [St_nx]; exact hc)
theorem idsL_lid {B : Store} (hw : B.Wf) {o s : Nat} {cs : List V} (h : B.get o = some (s, cs)) (m : Nat) : V.idsL (fun o => decide (o < lid B.nx m)) cs = true := by
 have := hw.ids o _ h
 exact idsL_mono (fun o ho => by rw [decide_eq_true_eq] at ho ⊢; simp only [lid]; omega) _ this
theorem idsL_set {p : Nat → Bool} {cs : List V} {k : Nat} {v : V} (h : V.idsL p cs = true) (hv : v.ids p = true) : V.idsL p (cs.set k v) = true := by
 simp only [idsL_eq, List.all_eq_true] at h ⊢
 intro x hx
 rcases List.mem_or_eq_of_mem_set hx with hx | rfl
 ·exact h x hx
 ·exact hv
structure RInv (S : Store) (p4 pg ot ob : Nat) (hd : List V) (ts : List Int) (bs : List Ss.Block) (T : Store) (cells : List V) (ids : List Nat) : Prop where
 old : Agree S T
 c4 : T.get p4 = some (4, [V.nils, V.nils, V.nils, V.nils])
 cg : T.get pg = some (4, hd)
 ct : T.get ot = some (1, ts.map vint)
 cb : T.get ob = some (6, cells)
 own : OwL T (reps bs.length blkT) cells (flatC encBlock bs) ids
 nd : (p4 :: pg :: ot :: ob :: ids).Nodup
 lt : ∀ o ∈ p4 :: pg :: ot :: ob :: ids, S.nx ≤ o
 args : ∀ b ∈ bs, ∀ x ∈ b.code, x.op = 257 → x.args ≠ []
 len : ∀ b ∈ bs, b.code.length ≤ 4096
theorem rcode_len (near : List Int) (n : Int) : ∀ (code : List Ss.Ins) (all : Ss.Kept), (Ss.rcode near n all code).1.length ≤ code.length
 | [], all => by simp [Ss.rcode]
 | x :: r, all => by
  rw [Ss.rcode]; split
  ·have := rcode_len near n r all; simp; omega
  ·have := rcode_len near n r (if x.op = 257 then all ++ [(x, n)] else all); simp; omega
theorem RInv.put {S : Store} {p4 pg ot ob : Nat} {hd : List V} {ts : List Int} {bs : List Ss.Block} {T : Store} {cells : List V} {ids : List Nat} (h : RInv S p4 pg ot ob hd ts bs T cells ids) (hwT : T.Wf) {n : Nat} (hn : n < bs.length) :
  ∃ (oc : Nat), cells[n * 6 + 1]? = some (.slice oc 0 bs[n].code.length) ∧ T.get oc = some (4, flatC encIns bs[n].code) ∧ oc < T.nx ∧ ob < T.nx ∧ oc ≠ ob ∧ ∀ (code' : List Ss.Ins), (∀ x ∈ code', x ∈ bs[n].code) → code'.length ≤ 4096 → ∃ ids',
   RInv S p4 pg ot ob hd ts (bs.set n ⟨bs[n].params, code', bs[n].term⟩) (St T [(ob, some (6, cells.set (n * 6 + 1) (.slice (lid T.nx 0) 0 code'.length)))] [some (4, flatC encIns code')]) (cells.set (n * 6 + 1) (.slice (lid T.nx 0) 0 code'.length)) ids' := by
 obtain ⟨old, c4, cg, ct, cb, own, nd, lt, args, len⟩ := h
 have olt : ∀ {o c}, T.get o = some c → o < T.nx := fun h => old_lt hwT h
 have hmem : bs[n] ∈ bs := List.getElem_mem hn
 obtain ⟨c1, c2, oc, i1, i2, rfl, hl, rfl, hoc, k1, k2⟩ := blk_split own rfl hn (List.getElem?_eq_getElem hn)
 have nd2 := nd
 simp only [List.nodup_cons, List.mem_cons, not_or] at nd2
 obtain ⟨⟨a1, a2, a3, a4⟩, ⟨b1, b2, b3⟩, ⟨e1, e2⟩, f1, nd3⟩ := nd2
 have hcb : oc ≠ ob := fun e => f1 (by rw [← e]; simp)
 have icl : ∀ o ∈ i1 ++ oc :: i2, o < T.nx := fun o ho => by
  have := own.alive o ho
  cases hg : T.get o with
  | none => rw [hg] at this; cases this
  | some c => exact olt hg
 have lb := olt cb
 refine ⟨oc, mid_get (m := 6) (p := 1) hl rfl, hoc, olt hoc, lb, hcb, fun code' hsub hlen' => ⟨i1 ++ lid T.nx 0 :: i2, ?_⟩⟩
 have hset : (c1 ++ ([vl vint bs[n].params, V.slice oc 0 bs[n].code.length, vint bs[n].term.kind, vint bs[n].term.arg, vl encEdge bs[n].term.to, vl vint bs[n].term.args] ++ c2)).set (n * 6 + 1) (.slice (lid T.nx 0) 0 code'.length) =
   c1 ++ ([vl vint bs[n].params, V.slice (lid T.nx 0) 0 code'.length, vint bs[n].term.kind, vint bs[n].term.arg, vl encEdge bs[n].term.to, vl vint bs[n].term.args] ++ c2) := by
  rw [← hl, List.set_append_right _ _ (by omega), Nat.add_sub_cancel_left]; rfl
 rw [hset]
 have gT : ∀ o u l, o < T.nx → o ≠ ob → (St T [(ob, u)] l).get o = T.get o := fun o u l h1 h2 => by
  rw [St_old h1]; simp [uGet, h2]
 have hnid : lid T.nx 0 ∉ i1 ++ oc :: i2 := fun hm => by have := icl _ hm; simp [lid] at this
 refine ⟨⟨by rw [St_nx, lid]; have := old.1; simp; omega, fun o ho => ?_⟩, ?_, ?_, ?_, ?_, ?_, ?_, ?_, ?_, ?_⟩
 ·have := lt ob (by simp)
  rw [gT o _ _ (by have := old.1; omega) (by omega)]; exact old.2 o ho
 ·rw [gT _ _ _ (olt c4) a3]; exact c4
 ·rw [gT _ _ _ (olt cg) b2]; exact cg
 ·rw [gT _ _ _ (olt ct) e1]; exact ct
 ·rw [St_old lb]; simp [uGet]
 ·simp only [List.length_set]
  refine blk_join (b := ⟨bs[n].params, code', bs[n].term⟩) (k1.mono fun o ho => gT o _ _ (icl o (by simp [ho])) (fun e => f1 (by rw [← e]; simp [ho]))) (k2.mono fun o ho => gT o _ _ (icl o (by simp [ho])) (fun e => f1 (by rw [← e]; simp [ho]))) rfl hn ?_
  rw [St_get]; rfl
 ·obtain ⟨m1, m2, m3⟩ := List.nodup_append.1 nd3
  have m4 := (List.nodup_cons.1 m2)
  have hcn : lid T.nx 0 = T.nx := by simp [lid]
  have hmm : ∀ o, o < T.nx → o ∉ i1 ++ oc :: i2 → o ∉ i1 ++ lid T.nx 0 :: i2 := fun o h1 h2 h3 => by
   simp only [List.mem_append, List.mem_cons, not_or] at h2 h3
   rcases h3 with h3 | h3 | h3
   ·exact h2.1 h3
   ·omega
   ·exact h2.2.2 h3
  refine List.nodup_cons.2 ⟨?_, List.nodup_cons.2 ⟨?_, List.nodup_cons.2 ⟨?_, List.nodup_cons.2 ⟨hmm ob lb f1, ?_⟩⟩⟩⟩
  ·simp only [List.mem_cons, not_or]
   exact ⟨a1, a2, a3, hmm _ (olt c4) a4⟩
  ·simp only [List.mem_cons, not_or]
   exact ⟨b1, b2, hmm _ (olt cg) b3⟩
  ·simp only [List.mem_cons, not_or]
   exact ⟨e1, hmm _ (olt ct) e2⟩
  ·refine List.nodup_append.2 ⟨m1, List.nodup_cons.2 ⟨fun hm => hnid (by simp [hm]), m4.2⟩, fun a ha b hb => ?_⟩
   rcases List.mem_cons.1 hb with rfl | hb
   ·exact fun e => hnid (by rw [← e]; simp [ha])
   ·exact m3 a ha b (by simp [hb])
 ·intro o ho
  simp only [List.mem_cons, List.mem_append] at ho
  rcases ho with h | h | h | h | h | h | h
  ·exact lt o (by simp [h])
  ·exact lt o (by simp [h])
  ·exact lt o (by simp [h])
  ·exact lt o (by simp [h])
  ·exact lt o (by simp [h])
  ·have := old.1; simp only [lid] at h; omega
  ·exact lt o (by simp [h])
 ·intro b hb x hx
  rcases List.mem_or_eq_of_mem_set hb with hb | rfl
  ·exact args b hb x hx
  ·exact args _ hmem x (hsub x hx)
 ·intro b hb
  rcases List.mem_or_eq_of_mem_set hb with hb | rfl
  ·exact len b hb
  ·exact hlen'
theorem RInv.step {S : Store} {p4 pg ot ob : Nat} {hd : List V} {ts near : List Int} {bs : List Ss.Block} {T : Store} {cells : List V} {ids : List Nat} (h : RInv S p4 pg ot ob hd ts bs T cells ids) (hwT : T.Wf) {n : Nat} (hn : n < bs.length) :
  ∃ (oc : Nat), cells[n * 6 + 1]? = some (.slice oc 0 bs[n].code.length) ∧ T.get oc = some (4, flatC encIns bs[n].code) ∧ oc < T.nx ∧ ob < T.nx ∧ oc ≠ ob ∧ ∀ (all : Ss.Kept), ∃ ids',
   RInv S p4 pg ot ob hd ts (Ss.rstep near (bs, all) n).1 (St T [(ob, some (6, cells.set (n * 6 + 1) (.slice (lid T.nx 0) 0 (Ss.rcode near n all bs[n].code).1.length)))] [some (4, flatC encIns (Ss.rcode near n all bs[n].code).1)]) (cells.set (n * 6 + 1) (.slice (lid T.nx 0) 0 (Ss.rcode near n all bs[n].code).1.length)) ids' := by
 obtain ⟨oc, h1, h2, h3, h4, h5, h6⟩ := h.put hwT hn
 have hgd : bs.getD n default = bs[n] := by rw [List.getD_eq_getElem?_getD, List.getElem?_eq_getElem hn]; rfl
 refine ⟨oc, h1, h2, h3, h4, h5, fun all => ?_⟩
 obtain ⟨ids', h7⟩ := h6 (Ss.rcode near n all bs[n].code).1 (fun x hx => Ss.code_sub _ _ _ _ x hx) (Nat.le_trans (rcode_len _ _ _ _) (h.len _ (List.getElem_mem hn)))
 refine ⟨ids', ?_⟩
 simp only [Ss.rstep, hgd]
 exact h7
end Go.Vw

namespace Ss
def notChk (x : Ins) : Bool := decide (x.op ≠ 257)
def stripB (b : Block) : Block := ⟨b.params, b.code.filter notChk, b.term⟩
def strip (f : Fn) : Fn := ⟨f.sig, f.types, f.blocks.map stripB⟩
theorem set_strip {bs bs1 : List Block} {n : Nat} (h : bs1 = (bs.take n).map stripB ++ bs.drop n) (hn : n < bs.length) (hn1 : n < bs1.length) : bs1[n] = bs[n] ∧ bs1.set n (stripB bs[n]) = (bs.take (n + 1)).map stripB ++ bs.drop (n + 1) := by
 subst h
 have hl : ((bs.take n).map stripB).length = n := by simp; omega
 constructor
 ·rw [List.getElem_append_right (by omega)]
  simp [Nat.min_eq_left (Nat.le_of_lt hn)]
 ·rw [List.set_append_right _ _ (by omega), hl, Nat.sub_self, List.drop_eq_getElem_cons hn, List.set_cons_zero, List.take_succ_eq_append_getElem hn, List.map_append, List.append_assoc]
  rfl
end Ss
namespace Go.Vw
open Go.Proofs Go.RowKit
set_option maxRecDepth 10000
set_option maxHeartbeats 4000000
theorem Strip_v (f : Ss.Fn) (hf : f.Fits) (hs : f.small = true) (hargs : ∀ b ∈ f.blocks, ∀ x ∈ b.code, x.op = 257 → x.args ≠ []) : VPure Try.prog 14 [encFn f] (encFn (Ss.strip f)) := by
 intro S
 have crp := fun S => RCopyT_v S f hf hs
 have hsm := (Ss.small_iff f).1 hs
 have hhd := hsm.1
 simp only [Ss.Fn.heads, Bool.and_eq_true, decide_eq_true_eq] at hhd
 have hlen : ∀ b ∈ f.blocks, b.code.length ≤ 4096 := fun b hb => by
  have h1 := hsm.2.2
  have := count_mem hb
  omega
 obtain ⟨⟨fi, fo⟩, ts, bs⟩ := f
 simp only at *
 have crp' : ∀ S, VCalls Try.prog 15 [.agg [vl vint fi, vl vint fo, vl vint ts, vl encBlock bs]] S (CopiedT S ⟨⟨fi, fo⟩, ts, bs⟩) := crp
 refine vcalls_startC (c := bodyOf Try.f14) Try.func14 rfl (by conv => lhs; reduce) (by simp [Try.ntmps14]) ?_
 rw [Try.ntmps14]
 intro hwf
 repeat refine QS ?_
 refine QR (r:=by conv=>lhs;simp[-List.map_set,QV]) (k:=?_)
 refine QN ?_
 refine vw_ghost' 1 rfl ((refSt (k := 0) (by simp) (by rfl) (by rfl) (by simp))) (by conv => lhs; simp [Fr.set]) ?_
 simp only [List.set_cons_succ, List.set_cons_zero]
 refine vw_only' [1, 2] (by conv => lhs; simp [Fr.only, Fr.look]) ?_
 refine vw_gc [1] hwf (by decide) (by simp [-List.map_set]) (by conv => lhs; simp [-List.map_set]) (by conv => lhs; simp [-List.map_set]) (by conv => lhs; simp [-List.map_set]) ?_
 repeat refine QS ?_
 refine QR (r:=by conv=>lhs;simp[-List.map_set,QV]) (k:=?_)
 refine vcall_any rfl (crp' _) ?_
 rintro X T ⟨hag0, hwT, ot, ob, cells, ids, rfl, hotg, hob, how, hnd, hids⟩
 simp only at hotg how
 refine vseg_nil hwT ?_
 refine QM (by conv=>lhs;simp[-List.map_set,QV]) ?_
 refine QN ?_
 have hag1 := hag0.1
 rw [St_nx] at hag1 hids
 simp only [List.length_cons, List.length_nil, Nat.zero_add, lid] at hag1 hids
 have h4 : T.get (lid S.nx 0) = some (4, [V.nils, V.nils, V.nils, V.nils]) := by
  rw [hag0.2 (lid S.nx 0) (by rw [St_nx]; simp [lid]), St_get]; rfl
 have h4lt : lid S.nx 0 < T.nx := by simp only [lid]; omega
 refine vw_base (b' := T.nx) (by omega) ?_
 have hwf0 := hwf
 clear hwf
 have hwf := hwT
 have hlt : ∀ o ∈ ot :: ob :: ids, o < T.nx := fun o ho => (hids o ho).2
 have bob := fun u l => @St_old T u l ob (hlt ob (by simp))
 repeat (first|refine QG ?_|refine QX (r:=by conv=>lhs;simp[-List.map_set,QV,bob,hob]) (k:=?_))
 have g0 : ∀ o l, o < T.nx → (St T [] l).get o = T.get o := fun o l ho => by rw [St_old ho]; rfl
 have hinv : RInv S (lid S.nx 0) (lid T.nx 0) ot ob [vl vint fi, vl vint fo, .slice ot 0 ts.length, .slice ob 0 bs.length] ts bs (St T [] [some (4, [vl vint fi, vl vint fo, V.slice ot 0 ts.length, V.slice ob 0 bs.length])]) cells ids := by
  refine ⟨⟨by rw [St_nx, lid]; have := hag0.1; omega, fun o ho => ?_⟩, ?_, ?_, ?_, ?_, ?_, ?_, ?_, hargs, hlen⟩
  ·rw [g0 o _ (by omega), hag0.2 o (by rw [St_nx, lid]; omega), St_old ho]; rfl
  ·rw [g0 _ _ h4lt]; exact h4
  ·rw [St_get]; rfl
  ·rw [g0 _ _ (hlt ot (by simp))]; exact hotg
  ·rw [g0 _ _ (hlt ob (by simp))]; exact hob
  ·exact how.mono fun o ho => g0 o _ (hlt o (by simp [ho]))
  ·refine List.nodup_cons.2 ⟨?_, List.nodup_cons.2 ⟨fun hm => by have := hlt _ hm; simp [lid] at this, hnd⟩⟩
   simp only [lid] at h4lt ⊢
   rw [List.mem_cons, not_or]
   exact ⟨by omega, fun hm => by have := (hids _ hm).1; omega⟩
  ·intro o ho
   rcases List.mem_cons.1 ho with h | h
   ·subst h; simp only [lid]; omega
   ·rcases List.mem_cons.1 h with h | h
    ·subst h; simp only [lid]; omega
    ·have := (hids o h).1; omega
 have hT0w : (St T [] [some (4, [vl vint fi, vl vint fo, V.slice ot 0 ts.length, V.slice ob 0 bs.length])]).Wf := St_wf hwT (by
  have h1 := hlt ot (by simp)
  have h2 := hlt ob (by simp)
  simp [V.idsL, V.ids, vl, lid]; omega)
 have e12 : T.nx ≤ (St T [] [some (4, [vl vint fi, vl vint fo, V.slice ot 0 ts.length, V.slice ob 0 bs.length])]).nx := by rw [St_nx]; simp [lid]
 generalize hp4 : lid S.nx 0 = p4 at *
 generalize hpg : lid T.nx 0 = pg at *
 generalize hT0 : St T [] [some (4, [vl vint fi, vl vint fo, V.slice ot 0 ts.length, V.slice ob 0 bs.length])] = T0 at *
 repeat refine QS ?_
 refine vw_loopAt [2, 3, 12, 13] rfl (fun c σ S' => ∃ (T1 : Store) (bs1 : List Ss.Block) (cells : List V) (ids : List Nat) (k : Nat), RInv S p4 pg ot ob [vl vint fi, vl vint fo, .slice ot 0 ts.length, .slice ob 0 bs.length] ts bs1 T1 cells ids ∧ T1.Wf ∧ T.nx ≤ T1.nx ∧ k ≤ bs.length ∧ c = bs.length - k ∧ bs1 = (bs.take k).map Ss.stripB ++ bs.drop k ∧ σ = [(2, .ptr p4 0), (3, .ptr pg 0), (12, vnat bs.length), (13, vnat k)] ∧ S' = St T1 [] []) bs.length ?_ ?_
 ·exact ⟨T0, bs, cells, ids, 0, hinv, hT0w, e12, by omega, rfl, rfl, by simp [Fr.only, Fr.look], by rw [St_nil hT0w]⟩
 ·rintro c σ S' ⟨T1, bs1, cells1, ids1, k, hI, hwT1, hle1, hk, rfl, hbs1, rfl, rfl⟩
  have hwf1 := hwf
  clear hwf
  have hwf := hwT1
  have lg := old_lt hwT1 hI.cg
  have l4 := old_lt hwT1 hI.c4
  have hIg := hI.cg
  have hI4 := hI.c4
  have hIb := hI.cb
  have lb := old_lt hwT1 hIb
  have bg := fun u l => @St_old T1 u l pg lg
  have b4 := fun u l => @St_old T1 u l p4 l4
  have bb := fun u l => @St_old T1 u l ob lb
  have hbl1 : bs1.length = bs.length := by rw [hbs1]; simp; omega
  by_cases hkt : k < bs.length
  case neg =>
   have hke : k = bs.length := by omega
   subst hke
   rw [List.take_length, List.drop_length, List.append_nil] at hbs1
   have hupd := fun u l c => @St_updOld T1 u l c p4 l4
   repeat (first|refine QG ?_|refine QX (r:=by conv=>lhs;simp[-List.map_set,QV,hkt,bg,b4,hIg,hI4,hupd]) (k:=?_))
   have hg4 : (St T1 [(p4, some (4, [vl vint fi, vl vint fo, V.slice ot 0 ts.length, V.slice ob 0 bs.length]))] []).get p4 = some (4, [vl vint fi, vl vint fo, V.slice ot 0 ts.length, V.slice ob 0 bs.length]) := by rw [b4]; simp [uGet]
   refine doneC (xs := [.agg [vl vint fi, vl vint fo, .slice ot 0 ts.length, .slice ob 0 bs.length]]) (by simp [hg4]) ?_
   obtain ⟨old, c4, cg, ct, cb, own, nd, lt, _, _⟩ := hI
   have nd2 := nd
   simp only [List.nodup_cons, List.mem_cons, not_or] at nd2
   obtain ⟨⟨a1, a2, a3, a4⟩, ⟨b1, b2, b3⟩, ⟨e1, e2⟩, f1, nd3⟩ := nd2
   have alive := own.alive
   have olt : ∀ {o c}, T1.get o = some c → o < T1.nx := fun h => old_lt hwT1 h
   have icl : ∀ o ∈ ids1, o < T1.nx := fun o ho => by
    have := alive o ho
    cases hg : T1.get o with
    | none => rw [hg] at this; cases this
    | some c => exact olt hg
   have gT : ∀ o, o < T1.nx → o ≠ p4 → (St T1 [(p4, some (4, [vl vint fi, vl vint fo, V.slice ot 0 ts.length, V.slice ob 0 bs.length]))] []).get o = T1.get o := fun o h1 h2 => by
    rw [St_old h1]; simp [uGet, h2]
   have hnx : (St T1 [(p4, some (4, [vl vint fi, vl vint fo, V.slice ot 0 ts.length, V.slice ob 0 bs.length]))] []).nx = T1.nx := by rw [St_nx]; simp [lid]
   have hstrip : encFn (Ss.strip ⟨⟨fi, fo⟩, ts, bs⟩) = .agg [vl vint fi, vl vint fo, vl vint ts, vl encBlock bs1] := by rw [hbs1]; rfl
   rw [hstrip]
   have how2 := own.mono (S' := St T1 [(p4, some (4, [vl vint fi, vl vint fo, V.slice ot 0 ts.length, V.slice ob 0 bs.length]))] []) fun o ho => gT o (icl o ho) fun e => a4 (e ▸ ho)
   rw [hbl1] at how2
   have hg := fn_ghostT (fi := fi) (fo := fo) (n := bs.length) how2 ((gT ob (olt cb) (fun e => a3 e.symm)).trans cb) hbl1 ((gT ot (olt ct) (fun e => a2 e.symm)).trans ct) rfl (List.Sublist.nodup (.cons _ (.cons _ (List.Sublist.refl _))) nd)
   have hfin : Agree S ((St T1 [(p4, some (4, [vl vint fi, vl vint fo, V.slice ot 0 ts.length, V.slice ob 0 bs.length]))] []).dels (ot :: ob :: ids1)) := by
    refine ⟨by rw [dels_nx, hnx]; exact old.1, fun o ho => ?_⟩
    rw [dels_at, if_neg]
    ·have := lt p4 (by simp)
     have := old.1
     rw [gT o (by omega) (by omega)]; exact old.2 o ho
    ·intro hm
     have := lt o (by
      simp only [List.mem_cons] at hm ⊢
      rcases hm with h | h | h
      ·exact .inr (.inr (.inl h))
      ·exact .inr (.inr (.inr (.inl h)))
      ·exact .inr (.inr (.inr (.inr h))))
     omega
   exact done_ghost hwf0 (hg.toB _) hfin (by simp)
  refine vw_base (b' := T1.nx) hle1 ?_
  have hw := wrapNat hkt (by omega)
  obtain ⟨hbk, hset⟩ := Ss.set_strip hbs1 hkt (by omega)
  obtain ⟨oc, hcell, hoc, loc, _, hcb, hput⟩ := hI.put hwT1 (n := k) (by omega)
  have bc := fun u l => @St_old T1 u l oc loc
  have gt4 := fun ks => gcTo_old (n := T1.nx) ks l4
  have gp4 := fun ks => gcP_old (n := T1.nx) ks l4
  have gtg := fun ks => gcTo_old (n := T1.nx) ks lg
  have gpg := fun ks => gcP_old (n := T1.nx) ks lg
  have gtc := fun ks => gcTo_old (n := T1.nx) ks loc
  have gpc := fun ks => gcP_old (n := T1.nx) ks loc
  have hir : ∀ f (l : List Ss.Ins), V.renL f (flatC encIns l) = flatC encIns l := fun f l => flatC_ren encIns_closed f l
  have hii : ∀ p (l : List Ss.Ins), V.idsL p (flatC encIns l) = true := fun p l => flatC_ids encIns_closed p l
  rw [hbk] at hcell hoc hput
  obtain ⟨code, hcode⟩ : ∃ code, bs[k].code = code := ⟨_, rfl⟩
  have hstr : Ss.stripB bs[k] = ⟨bs[k].params, code.filter Ss.notChk, bs[k].term⟩ := by rw [Ss.stripB, hcode]
  rw [hcode] at hcell hoc hput
  have hclen : code.length ≤ 4096 := by rw [← hcode]; exact hlen _ (List.getElem_mem hkt)
  have hki : (k : Int) < (bs.length : Int) := by omega
  repeat (first|refine QG ?_|refine QX (r:=by conv=>lhs;simp[-List.map_set,QV,hkt]) (k:=?_))
  refine vw_void 5 4 rfl (by conv => lhs; simp [Fr.set]) ?_
  simp only [List.cons_append, List.nil_append, List.length_cons, List.length_nil, Nat.zero_add]
  repeat (first|refine QG ?_|refine QX (r:=by conv=>lhs;simp[-List.map_set,QV,bg,hIg,bb,hIb,hcell,bc,hoc,hki]) (k:=?_))
  repeat refine QS ?_
  refine vw_loopAt [2, 3, 4, 5, 12, 13, 21, 22, 23] rfl (fun c σ S' => ∃ (j : Nat) (cs : List Ss.Ins), j ≤ code.length ∧ c = code.length - j ∧ cs ++ (code.drop j).filter Ss.notChk = code.filter Ss.notChk ∧ cs.length ≤ j ∧ σ = [(2, .ptr p4 0), (3, .ptr pg 0), (4, vnat k), (5, .slice (lid T1.nx 0) 0 cs.length), (12, vnat bs.length), (13, vnat k), (21, .slice oc 0 code.length), (22, vnat code.length), (23, vnat j)] ∧ S' = St T1 [] [some (4, flatC encIns cs)]) code.length ?_ ?_
  ·exact ⟨0, [], by omega, rfl, rfl, by simp, by simp [Fr.only, Fr.look], rfl⟩
  ·rintro c σ S' ⟨j, cs, hj, rfl, hcs, hcl, rfl, rfl⟩
   by_cases hjt : j < code.length
   case neg =>
    have hje : j = code.length := by omega
    subst hje
    rw [List.drop_length, List.filter_nil, List.append_nil] at hcs
    have hlc : k * 6 + 1 < cells1.length := (List.getElem?_eq_some_iff.1 hcell).1
    have hupd := fun u l c => @St_updOld T1 u l c ob lb
    obtain ⟨ids', hI'⟩ := hput cs (by rw [hcs]; exact fun x hx => (List.mem_filter.1 hx).1) (by omega)
    rw [hcs, ← hstr, hset] at hI'
    repeat (first|refine QG ?_|refine QX (r:=by conv=>lhs;simp[-List.map_set,QV,hjt]) (k:=?_))
    repeat refine QS ?_
    refine QR (r:=by conv=>lhs;simp[-List.map_set,QV,bg,hIg,bb,hIb,hlc,hupd,hki]) (k:=?_)
    refine QN ?_
    repeat (first|refine QG ?_|refine QX (r:=by conv=>lhs;simp[-List.map_set,QV,hw]) (k:=?_))
    show Again _ _ _ _ _ _ _
    refine again ⟨Nat.sub_lt_sub_left hkt (Nat.lt_succ_self k), St T1 [(ob, some (6, cells1.set (k * 6 + 1) (.slice (lid T1.nx 0) 0 cs.length)))] [some (4, flatC encIns cs)], _, _, ids', k + 1, by rw [hcs]; exact hI', ?_, ?_, hkt, rfl, rfl, ?_, ?_⟩
    ·refine St_wf1 hwT1 lb (idsL_set (idsL_lid hwT1 hIb _) (by simp [V.ids, lid])) (by simp [hii])
    ·rw [St_nx]; simp only [lid]; omega
    ·simp [Fr.only, Fr.look]
    ·rw [← St_sink, List.append_nil]
   have hwj := wrapNat hjt (by omega)
   obtain ⟨x, hx⟩ : ∃ x, code[j] = x := ⟨_, rfl⟩
   obtain ⟨hat1, hat2⟩ := flatC_at (enc := encIns) (s := 4) (fun x => by rw [encIns_cells]; rfl) hjt
   rw [hx, encIns_cells] at hat2
   rw [List.drop_eq_getElem_cons hjt, hx] at hcs
   have hji : (j : Int) < (code.length : Int) := by omega
   obtain ⟨xo, xn, xa, xu⟩ := x
   simp only at hat2
   have hl1 : (flatC encIns cs).length = cs.length * 4 := flatC_len (fun x => by rw [encIns_cells]; rfl) _
   have hb1 : (cs.length + 1) * 64 ≤ 140737488355328 := by omega
   have hb2 : cs.length + 1 ≤ 140737488355328 := by omega
   have hs1 : flatC encIns (cs ++ [⟨xo, xn, xa, xu⟩]) = flatC encIns cs ++ [.int .i64 xo, .int .u64 xn, vl vint xa, vl vint xu] := by rw [flatC_snoc, encIns_cells]; rfl
   have hr4 : rep0 [V.int .i64 0, .int .u64 0, .nils, .nils] 1 = [.int .i64 0, .int .u64 0, .nils, .nils] := rfl
   by_cases hxo : xo = 257
   ·have hnf : Ss.notChk ⟨xo, xn, xa, xu⟩ = false := by simp [Ss.notChk, hxo]
    rw [List.filter_cons_of_neg (by simp [hnf])] at hcs
    repeat (first|refine QG ?_|refine QX (r:=by conv=>lhs;simp[-List.map_set,QV,hjt,bc,hoc,hat1,hat2,hji,hxo,hwj]) (k:=?_))
    refine again_gc [0] (by conv => lhs; simp [Fr.only]) hwf (by decide) (by simp [-List.map_set, hir, hii, gt4, gp4, gtg, gpg, gtc, gpc]) (by conv => lhs; simp [-List.map_set, hir, hii, gt4, gp4, gtg, gpg, gtc, gpc]) (by conv => lhs; simp [-List.map_set, hir, hii, gt4, gp4, gtg, gpg, gtc, gpc]) (by conv => lhs; simp [-List.map_set, hir, hii, gt4, gp4, gtg, gpg, gtc, gpc]) ⟨?_, j + 1, cs, hjt, rfl, hcs, by omega, by simp, by simp⟩
    omega
   ·have hnf : Ss.notChk ⟨xo, xn, xa, xu⟩ = true := by simp [Ss.notChk, hxo]
    rw [List.filter_cons_of_pos hnf] at hcs
    repeat (first|refine QG ?_|refine QX (r:=by conv=>lhs;simp[-List.map_set,QV,hjt,bc,hoc,hat1,hat2,hji,hxo]) (k:=?_))
    repeat refine QS ?_
    refine QR (r:=by conv=>lhs;simp[-List.map_set,QV,hr4,hl1,hb1,hb2]) (k:=?_)
    refine QN ?_
    repeat (first|refine QG ?_|refine QX (r:=by conv=>lhs;simp[-List.map_set,QV,hwj]) (k:=?_))
    refine again_gc [3] (by conv => lhs; simp [Fr.only]) hwf (by decide) (by simp [-List.map_set, hir, hii, gt4, gp4, gtg, gpg, gtc, gpc]) (by conv => lhs; simp [-List.map_set, hir, hii, gt4, gp4, gtg, gpg, gtc, gpc]) (by conv => lhs; simp [-List.map_set, hir, hii, gt4, gp4, gtg, gpg, gtc, gpc]) (by conv => lhs; simp [-List.map_set, hir, hii, gt4, gp4, gtg, gpg, gtc, gpc]) ⟨?_, j + 1, cs ++ [⟨xo, xn, xa, xu⟩], hjt, rfl, by rw [← hcs]; simp, by simp; omega, by simp, by simp [hs1]⟩
    omega
end Go.Vw

namespace Ss
structure ThinB (b c : Block) : Prop where
 params : c.params = b.params
 term : c.term = b.term
 sub : c.code.Sublist b.code
 keep : c.code.filter (fun x => decide (x.op ≠ 257)) = b.code.filter fun x => decide (x.op ≠ 257)
theorem ThinB.refl (b : Block) : ThinB b b := ⟨rfl, rfl, List.Sublist.refl _, rfl⟩
theorem ThinB.trans {a b c : Block} (h : ThinB a b) (k : ThinB b c) : ThinB a c := ⟨k.params.trans h.params, k.term.trans h.term, k.sub.trans h.sub, k.keep.trans h.keep⟩
def ThinL (l m : List Block) : Prop := m.length = l.length ∧ ∀ (i : Nat) (b c : Block), l[i]? = some b → m[i]? = some c → ThinB b c
theorem ThinL.refl (l : List Block) : ThinL l l := ⟨rfl, fun i b c h1 h2 => by rw [h1] at h2; cases h2; exact .refl b⟩
theorem ThinL.trans {l m n : List Block} (h : ThinL l m) (k : ThinL m n) : ThinL l n := by
 refine ⟨k.1.trans h.1, fun i b c h1 h2 => ?_⟩
 have hi : i < m.length := by rw [h.1]; exact (List.getElem?_eq_some_iff.1 h1).1
 exact (h.2 i b m[i] h1 (List.getElem?_eq_getElem hi)).trans (k.2 i m[i] c (List.getElem?_eq_getElem hi) h2)
theorem pcode_thin (near : List Int) (n : Int) : ∀ (code : List Ins) (M : Far), (pcode near n M code).1.Sublist code ∧ (pcode near n M code).1.filter (fun x => decide (x.op ≠ 257)) = code.filter fun x => decide (x.op ≠ 257)
 | [], M => ⟨List.Sublist.refl _, rfl⟩
 | x :: r, M => by
  obtain ⟨h1, h2⟩ := pcode_thin near n r (pnext near n M x)
  rw [pcode]
  by_cases hp : pcov near n M x = true
  ·rw [if_pos hp]
   have ho : x.op = 257 := by
    unfold pcov at hp
    simp only [Bool.and_eq_true, decide_eq_true_eq] at hp
    exact hp.1
   exact ⟨.cons _ h1, by rw [h2, List.filter_cons_of_neg (by simp [ho])]⟩
  ·rw [if_neg hp]
   refine ⟨.cons_cons _ h1, ?_⟩
   by_cases ho : x.op = 257
   ·rw [List.filter_cons_of_neg (by simp [ho]), List.filter_cons_of_neg (by simp [ho]), h2]
   ·rw [List.filter_cons_of_pos (by simp [ho]), List.filter_cons_of_pos (by simp [ho]), h2]
theorem pstep_thin (near : List Int) (bs : List Block) (M : Far) (n : Nat) : ThinL bs (pstep near (bs, M) n).1 := by
 refine ⟨by simp [pstep], fun i b c h1 h2 => ?_⟩
 simp only [pstep] at h2
 by_cases e : n = i
 ·subst e
  have hn : n < bs.length := (List.getElem?_eq_some_iff.1 h1).1
  rw [List.getElem?_set_self hn] at h2
  have hgd : bs.getD n default = b := by rw [List.getD_eq_getElem?_getD, h1]; rfl
  cases h2
  rw [hgd]
  obtain ⟨k1, k2⟩ := pcode_thin near n b.code M
  exact ⟨rfl, rfl, k1, k2⟩
 ·rw [List.getElem?_set_ne e] at h2
  rw [h1] at h2; cases h2; exact .refl b
theorem fold_thin (near : List Int) : ∀ (order : List Nat) (bs : List Block) (M : Far), ThinL bs (order.foldl (pstep near) (bs, M)).1
 | [], bs, M => .refl bs
 | n :: r, bs, M => by
  rw [List.foldl_cons]
  exact (pstep_thin near bs M n).trans (fold_thin near r _ _)
theorem bceF_thin (f : Fn) : ThinL f.blocks (bceF f).blocks := fold_thin _ _ _ _
theorem ThinL.fits {l m : List Block} (h : ThinL l m) (hl : ∀ b ∈ l, b.Fits) : ∀ c ∈ m, c.Fits := by
 intro c hc
 obtain ⟨i, hi⟩ := List.mem_iff_getElem?.1 hc
 have hil : i < l.length := by rw [← h.1]; exact (List.getElem?_eq_some_iff.1 hi).1
 obtain ⟨h1, h2, h3, h4⟩ := h.2 i l[i] c (List.getElem?_eq_getElem hil) hi
 obtain ⟨k1, ⟨k2, k3⟩, k4⟩ := hl _ (List.getElem_mem hil)
 exact ⟨by rw [h1]; exact k1, ⟨Nat.le_trans h3.length_le k2, fun x hx => k3 x (h3.subset hx)⟩, by rw [h2]; exact k4⟩
theorem bceF_fits {f : Fn} (h : f.Fits) : (bceF f).Fits := by
 obtain ⟨h1, h2, h3, h4⟩ := h
 exact ⟨h1, h2, by rw [(bceF_thin f).1]; exact h3, (bceF_thin f).fits h4⟩
theorem ThinL.count : ∀ {l m : List Block}, ThinL l m → count m ≤ count l
 | [], m, h => by
  have : m = [] := List.eq_nil_of_length_eq_zero h.1
  subst this; exact Nat.le_refl _
 | b :: l, [], h => by simp [Ss.count]
 | b :: l, c :: m, h => by
  have h1 := (h.2 0 b c rfl rfl).sub.length_le
  have h2 : ThinL l m := ⟨by have := h.1; simpa using this, fun i x y hx hy => h.2 (i + 1) x y (by simpa using hx) (by simpa using hy)⟩
  have := ThinL.count h2
  simp only [Ss.count, List.map_cons, List.sum_cons] at this ⊢
  omega
theorem ThinL.small {f g : Fn} (h : ThinL f.blocks g.blocks) (hs : g.sig = f.sig) (ht : g.types = f.types) (k : f.small = true) : g.small = true := by
 obtain ⟨k1, k2, k3⟩ := (small_iff f).1 k
 refine (small_iff g).2 ⟨?_, fun c hc => ?_, Nat.le_trans h.count k3⟩
 ·simp only [Fn.heads, hs, ht, h.1] at k1 ⊢; exact k1
 ·obtain ⟨i, hi⟩ := List.mem_iff_getElem?.1 hc
  have hil : i < f.blocks.length := by rw [← h.1]; exact (List.getElem?_eq_some_iff.1 hi).1
  obtain ⟨h1, h2, h3, h4⟩ := h.2 i f.blocks[i] c (List.getElem?_eq_getElem hil) hi
  have hb := k2 _ (List.getElem_mem hil)
  simp only [Block.small, Bool.and_eq_true, h1, h2] at hb ⊢
  obtain ⟨⟨⟨⟨a1, a2⟩, a3⟩, a4⟩, a5⟩ := hb
  exact ⟨⟨⟨⟨a1, a2⟩, a3⟩, List.all_eq_true.2 fun x hx => List.all_eq_true.1 a4 x (h3.subset hx)⟩, a5⟩
end Ss
