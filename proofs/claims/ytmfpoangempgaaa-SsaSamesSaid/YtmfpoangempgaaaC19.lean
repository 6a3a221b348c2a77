import Derived.Test.YtmfpoangempgaaaC18
import Derived.Test.YtmfpoangempgaaaC12
import Derived.Test.YtmfpoangempgaaaC13
import Derived.Test.YtmfpoangempgaaaC17
/-
  Part of the proof (texts GNearTh, GAll, SSpec, SRingP).
-/
set_option linter.unusedVariables false
set_option linter.unusedSimpArgs false
/-
  The document's nearest dominators are those that the turns find.
-/
namespace Go.Vw.G
open Go.Vw

section
variable {g : List (List Nat)}

theorem without_none (hg : Ok g) (b : Nat) : Met (without g none) b ↔ b ∈ order g := by
  rw [(order_ok hg).mem]
  have := metFrom_iff hg (m := List.replicate g.length false) (by simp) (not_met_rep _ _) b
  show Met (metFrom g (List.replicate g.length false)) b ↔ _
  rw [this]
  constructor
  · rintro (h | h)
    · exact absurd h (not_met_rep _ _)
    · exact h
  · exact .inr

theorem without_some (hg : Ok g) {a b : Nat} (ha : a < g.length) : Met (without g (some a)) b ↔ b ≠ a ∧ ∃ k, Way g (order g) a k b := by
  simp only [without]
  by_cases h0 : a = 0
  · rw [if_pos h0]
    subst h0
    constructor
    · exact fun h => absurd h (not_met_rep _ _)
    · rintro ⟨_, k, hw⟩
      exact absurd hw (Dom.zero (order_ok hg) k)
  · rw [if_neg h0]
    have hset := met_set (m := List.replicate g.length false) (n := a) (by simpa using ha)
    have hm : ∀ b, Met ((List.replicate g.length false).set a true) b ↔ b = a := by
      intro b; rw [hset]
      constructor
      · rintro (h | h)
        · exact h
        · exact absurd h (not_met_rep _ _)
      · exact .inl
    have hmf := metFrom_iff hg (m := (List.replicate g.length false).set a true) (by simp) (fun h => h0 ((hm 0).1 h).symm) b
    have hlen := metFrom_length hg (m := (List.replicate g.length false).set a true) (by simp) (by rw [getD_set_other h0]; exact rep_getD _ _)
    unfold Met
    by_cases hb : a = b
    · subst hb
      rw [getD_set_self' (by omega)]
      simp
    · rw [getD_set_other hb]
      show Met (metFrom g ((List.replicate g.length false).set a true)) b ↔ _
      rw [hmf, hm]
      constructor
      · rintro (h | h)
        · exact absurd h.symm hb
        · exact ⟨Ne.symm hb, h.way ((hm a).2 rfl)⟩
      · rintro ⟨_, k, hw⟩
        exact .inr (hw.fromM fun x hx => (hm x).1 hx)

theorem tab_iff (hg : Ok g) (a b : Nat) : tabAt (table g) a b = true ↔ a ∈ order g ∧ b ∈ order g ∧ Dom g (order g) a b := by
  have ho := order_ok hg
  by_cases ha : a < g.length
  · have e1 : (table g).getD a [] = tableRow g a := by simp [table, ha]
    simp only [tabAt, e1, tableRow]
    by_cases hr : a ∈ order g
    · have h1 : (without g none).getD a false = true := (without_none hg a).2 hr
      rw [if_pos h1]
      by_cases hb : b < g.length
      · have e2 : ((List.range g.length).map fun b => (without g none).getD b false && !((without g (some a)).getD b false)).getD b false = ((without g none).getD b false && !((without g (some a)).getD b false)) := by
          simp [hb]
        rw [e2, Bool.and_eq_true, Bool.not_eq_true']
        have w1 := without_none hg b
        have w2 := without_some hg (b := b) ha
        unfold Met at w1 w2
        rw [w1]
        constructor
        · rintro ⟨k1, k2⟩
          refine ⟨hr, k1, fun k hw => ?_⟩
          by_cases e : b = a
          · subst e; exact hw.ne rfl
          · have := w2.2 ⟨e, k, hw⟩
            rw [k2] at this; cases this
        · rintro ⟨_, k1, k2⟩
          refine ⟨k1, ?_⟩
          cases hx : (without g (some a)).getD b false with
          | false => rfl
          | true =>
            obtain ⟨_, k, hw⟩ := w2.1 hx
            exact absurd hw (k2 k)
      · constructor
        · intro h
          rw [List.getD_eq_getElem?_getD, List.getElem?_eq_none (by simp; omega)] at h
          simp at h
        · rintro ⟨_, h, _⟩
          exact absurd (ho.lt b h) hb
    · have h1 : ¬ (without g none).getD a false = true := fun h => hr ((without_none hg a).1 h)
      rw [if_neg h1, rep_getD]
      constructor
      · intro h; cases h
      · rintro ⟨h, _⟩; exact absurd h hr
  · constructor
    · intro h
      have e : (table g).getD a [] = [] := by
        rw [List.getD_eq_getElem?_getD, List.getElem?_eq_none (by simp [table]; omega)]; rfl
      rw [tabAt, e] at h
      simp at h
    · rintro ⟨h, _⟩
      exact absurd (ho.lt a h) ha

theorem cntTo_mono {t : List (List Bool)} {a p : Nat} (h : ∀ c, tabAt t c a = true → tabAt t c p = true) : ∀ n, cntTo t a n ≤ cntTo t p n
  | 0 => Nat.le_refl _
  | n + 1 => by
    have := cntTo_mono h n
    simp only [cntTo]
    by_cases h1 : tabAt t n a = true
    · rw [if_pos h1, if_pos (h n h1)]; omega
    · rw [if_neg h1]; split <;> omega
theorem cntTo_lt {t : List (List Bool)} {a p : Nat} (h : ∀ c, tabAt t c a = true → tabAt t c p = true) {x : Nat} (h1 : tabAt t x p = true) (h2 : ¬ tabAt t x a = true) : ∀ n, x < n → cntTo t a n < cntTo t p n
  | 0, hx => by omega
  | n + 1, hx => by
    have hm := cntTo_mono h n
    simp only [cntTo]
    by_cases e : x = n
    · subst e; rw [if_neg h2, if_pos h1]; omega
    · have := cntTo_lt h h1 h2 n (by omega)
      by_cases k1 : tabAt t n a = true
      · rw [if_pos k1, if_pos (h n k1)]; omega
      · rw [if_neg k1]; split <;> omega
theorem cntTo_pos {t : List (List Bool)} {p : Nat} {x : Nat} (h1 : tabAt t x p = true) : ∀ n, x < n → 0 < cntTo t p n
  | 0, hx => by omega
  | n + 1, hx => by
    simp only [cntTo]
    by_cases e : x = n
    · subst e; rw [if_pos h1]; omega
    · have := cntTo_pos h1 n (by omega)
      split <;> omega

/-- None dominates it, but itself. -/
theorem best_none {t : List (List Bool)} {n b : Nat} (h : ∀ a, a ≠ b → ¬ tabAt t a b = true) : ∀ a, bestTo t n b a = (-1, 0)
  | 0 => rfl
  | a + 1 => by
    simp only [bestTo]
    rw [if_neg (fun hh => h a hh.1 hh.2.1)]
    exact best_none h a

theorem best_idom {t : List (List Bool)} {n b p : Nat} (hpb : p ≠ b) (hp : tabAt t p b = true) (hc : ∀ a, a ≠ b → a ≠ p → tabAt t a b = true → cntTo t a n < cntTo t p n) (h0 : 0 < cntTo t p n) :
    ∀ a, (p < a → bestTo t n b a = ((p : Int), cntTo t p n)) ∧ (¬ p < a → (bestTo t n b a).2 < cntTo t p n)
  | 0 => ⟨fun h => by omega, fun _ => h0⟩
  | a + 1 => by
    obtain ⟨h1, h2⟩ := best_idom hpb hp hc h0 a
    simp only [bestTo]
    by_cases e : a = p
    · subst e
      rw [if_pos ⟨hpb, hp, h2 (by omega)⟩]
      exact ⟨fun _ => rfl, fun h => by omega⟩
    · refine ⟨fun h => ?_, fun h => ?_⟩
      · have := h1 (by omega)
        rw [this]
        rw [if_neg (fun hh => by have := hc a hh.1 e hh.2.1; have := hh.2.2; simp only at this; omega)]
      · have k := h2 (by omega)
        split
        · rename_i hh; exact hc a hh.1 e hh.2.1
        · exact k

theorem near_eq (hg : Ok g) {nearF : List Int} (h : Idom g (order g) nearF) : rNear g = nearF.set 0 (-1) := by
  have ho := order_ok hg
  refine List.ext_getElem (by simp [rNear, h.len]) fun b h1 h2 => ?_
  have hb : b < g.length := by simpa [rNear] using h1
  have hbn : b < nearF.length := by rw [h.len]; exact hb
  have e1 : (rNear g)[b] = (bestTo (table g) g.length b g.length).1 := by simp [rNear]
  rw [e1, List.getElem_set]
  have hnd : nearF[b] = nd nearF b := by simp [nd, hbn]
  by_cases hb0 : 0 = b
  · rw [if_pos hb0]
    subst hb0
    rw [best_none (fun a ha ht => ((tab_iff hg a 0).1 ht).2.2 0 (.start 0 (Ne.symm ha)))]
  · rw [if_neg hb0, hnd]
    by_cases hbl : b ∈ order g
    · obtain ⟨p, q1, q2, q3, q4, q5⟩ := h.near b hbl (Ne.symm hb0)
      rw [q1]
      have hpt : tabAt (table g) p b = true := (tab_iff hg p b).2 ⟨q2, hbl, q4⟩
      have hpp : tabAt (table g) p p = true := (tab_iff hg p p).2 ⟨q2, q2, Dom.self p⟩
      have hpn := ho.lt p q2
      have hc : ∀ a, a ≠ b → a ≠ p → tabAt (table g) a b = true → cntTo (table g) a g.length < cntTo (table g) p g.length := by
        intro a hab hap hat
        obtain ⟨a1, _, a3⟩ := (tab_iff hg a b).1 hat
        have hdp := q5 a a3 hab
        refine cntTo_lt (x := p) (fun c hcc => ?_) hpp (fun hx => ?_) _ hpn
        · obtain ⟨c1, _, c3⟩ := (tab_iff hg c a).1 hcc
          exact (tab_iff hg c p).2 ⟨c1, q2, c3.trans hdp⟩
        · exact hap (hdp.anti ho ((tab_iff hg p a).1 hx).2.2 a1 q2)
      rw [(best_idom q3 hpt hc (cntTo_pos hpp _ hpn) g.length).1 hpn]
    · rw [best_none (fun a _ ht => hbl ((tab_iff hg a b).1 ht).2.1)]
      exact (h.out b hb hbl).symm
end
end Go.Vw.G

namespace Go.Vw
open Go.Proofs Go.RowKit
set_option maxRecDepth 10000
set_option maxHeartbeats 8000000

namespace G
def ordI (g : List (List Int)) : List Nat := if right g then order (nats g) else []
def fromI (g : List (List Int)) : List (List Nat) := if right g then froms (nats g) else []
def err (g : List (List Int)) : Int := if right g then 0 else 1
end G

/-- Lists that fit into memory. -/
def Fits (g : List (List Int)) : Prop := g.length < 2^63 ∧ ∀ l ∈ g, l.length < 2^63

theorem right_nats (g : List (List Int)) (h : Fits g) (hr : G.right g = true) : VPure Try.prog 72 [vl (vl vnat) (G.nats g)] (.bool true) := by
  have := Right_v g h.1 h.2
  rw [hr, G.right_enc hr] at this
  exact this
theorem OrderAll_v (g : List (List Int)) (h : Fits g) : VPure Try.prog 58 [vl (vl vint) g] (.tuple [vl vnat (G.ordI g), vint (G.err g)]) := by
  intro S
  cases hr : G.right g with
  | false =>
    simp only [G.ordI, G.err, hr]
    refine vcalls_start (c := bodyOf Try.f58) Try.func58 rfl rfl (by simp [Try.ntmps58]) ?_
    rw [Try.ntmps58]
    intro hwf
    repeat (first | refine vw_seqAt rfl ?_ | refine vw_scopeAt rfl ?_ | refine vw_labelAt rfl ?_ | refine vw_skipAt rfl ?_ | refine vw_exitAt _ rfl rfl ?_ | refine vw_retAt rfl ?_ | (refine vw_condT rfl rfl ?_ ?_; focus (simp [ev, Fr.look]; done)) | (refine vw_condF rfl rfl ?_ ?_; focus (simp [ev, Fr.look]; done)) | refine vw_blockAt _ rfl rfl ?_ | (apply vw_regionRun; (focus rfl); (focus ((conv => lhs; reduce); done)); (focus ((conv => lhs; simp [-List.map_set, set_vnat, set_vnat1, set_vint, set_bool]); done)); refine vseg_done ?_) | (apply vw_drawPlain; (focus rfl); (focus kernel_rfl); (focus ((conv => lhs; reduce); done)); (focus ((conv => lhs; reduce); done)); (focus (kernel_rfl)); (focus ((conv => lhs; simp [-List.map_set, set_vnat, set_vnat1, set_vint, set_bool]); done)); refine vseg_done ?_))
    repeat refine vw_seqAt rfl ?_
    refine vw_regionRun rfl (by conv => lhs; reduce) (by conv => lhs; simp [-List.map_set, set_vnat, set_vnat1, set_vint, set_bool]) ?_
    refine vcall_use rfl (Right_v g h.1 h.2) ?_
    refine vseg_more (by conv => lhs; simp [-List.map_set, set_vnat, set_vnat1, set_vint, set_bool, hr]) ?_
    refine vseg_done ?_
    repeat (first | refine vw_seqAt rfl ?_ | refine vw_scopeAt rfl ?_ | refine vw_labelAt rfl ?_ | refine vw_skipAt rfl ?_ | refine vw_exitAt _ rfl rfl ?_ | refine vw_retAt rfl ?_ | (refine vw_condT rfl rfl ?_ ?_; focus (simp [ev, Fr.look]; done)) | (refine vw_condF rfl rfl ?_ ?_; focus (simp [ev, Fr.look]; done)) | refine vw_blockAt _ rfl rfl ?_ | (apply vw_regionRun; (focus rfl); (focus ((conv => lhs; reduce); done)); (focus ((conv => lhs; simp [-List.map_set, set_vnat, set_vnat1, set_vint, set_bool]); done)); refine vseg_done ?_) | (apply vw_drawPlain; (focus rfl); (focus kernel_rfl); (focus ((conv => lhs; reduce); done)); (focus ((conv => lhs; reduce); done)); (focus (kernel_rfl)); (focus ((conv => lhs; simp [-List.map_set, set_vnat, set_vnat1, set_vint, set_bool]); done)); refine vseg_done ?_))
    exact done_via (l := []) hwf ((Ghost.tuple [] [vint 1] (Ghost.nils_list _)).toB _) rfl
  | true =>
    simp only [G.ordI, G.err, hr, if_true]
    rw [G.right_enc hr]
    have hg := G.right_ok hr
    generalize hgn : G.nats g = gn at hg
    have hrn := right_nats g h hr
    rw [hgn] at hrn
    refine vcalls_start (c := bodyOf Try.f58) Try.func58 rfl rfl (by simp [Try.ntmps58]) ?_
    rw [Try.ntmps58]
    intro hwf
    repeat (first | refine vw_seqAt rfl ?_ | refine vw_scopeAt rfl ?_ | refine vw_labelAt rfl ?_ | refine vw_skipAt rfl ?_ | refine vw_exitAt _ rfl rfl ?_ | refine vw_retAt rfl ?_ | (refine vw_condT rfl rfl ?_ ?_; focus (simp [ev, Fr.look]; done)) | (refine vw_condF rfl rfl ?_ ?_; focus (simp [ev, Fr.look]; done)) | refine vw_blockAt _ rfl rfl ?_ | (apply vw_regionRun; (focus rfl); (focus ((conv => lhs; reduce); done)); (focus ((conv => lhs; simp [-List.map_set, set_vnat, set_vnat1, set_vint, set_bool]); done)); refine vseg_done ?_) | (apply vw_drawPlain; (focus rfl); (focus kernel_rfl); (focus ((conv => lhs; reduce); done)); (focus ((conv => lhs; reduce); done)); (focus (kernel_rfl)); (focus ((conv => lhs; simp [-List.map_set, set_vnat, set_vnat1, set_vint, set_bool]); done)); refine vseg_done ?_))
    repeat refine vw_seqAt rfl ?_
    refine vw_regionRun rfl (by conv => lhs; reduce) (by conv => lhs; simp [-List.map_set, set_vnat, set_vnat1, set_vint, set_bool]) ?_
    refine vcall_use rfl (hrn) ?_
    refine vseg_more (by conv => lhs; simp [-List.map_set, set_vnat, set_vnat1, set_vint, set_bool]) ?_
    refine vseg_done ?_
    repeat (first | refine vw_seqAt rfl ?_ | refine vw_scopeAt rfl ?_ | refine vw_labelAt rfl ?_ | refine vw_skipAt rfl ?_ | refine vw_exitAt _ rfl rfl ?_ | refine vw_retAt rfl ?_ | (refine vw_condT rfl rfl ?_ ?_; focus (simp [ev, Fr.look]; done)) | (refine vw_condF rfl rfl ?_ ?_; focus (simp [ev, Fr.look]; done)) | refine vw_blockAt _ rfl rfl ?_ | (apply vw_regionRun; (focus rfl); (focus ((conv => lhs; reduce); done)); (focus ((conv => lhs; simp [-List.map_set, set_vnat, set_vnat1, set_vint, set_bool]); done)); refine vseg_done ?_) | (apply vw_drawPlain; (focus rfl); (focus kernel_rfl); (focus ((conv => lhs; reduce); done)); (focus ((conv => lhs; reduce); done)); (focus (kernel_rfl)); (focus ((conv => lhs; simp [-List.map_set, set_vnat, set_vnat1, set_vint, set_bool]); done)); refine vseg_done ?_))
    repeat refine vw_seqAt rfl ?_
    refine vw_regionRun rfl (by conv => lhs; reduce) (by conv => lhs; simp [-List.map_set, set_vnat, set_vnat1, set_vint, set_bool]) ?_
    refine vcall_use rfl (gOrd_v gn hg) ?_
    refine vseg_more (by conv => lhs; simp [-List.map_set, set_vnat, set_vnat1, set_vint, set_bool]) ?_
    refine vseg_done ?_
    repeat (first | refine vw_seqAt rfl ?_ | refine vw_scopeAt rfl ?_ | refine vw_labelAt rfl ?_ | refine vw_skipAt rfl ?_ | refine vw_exitAt _ rfl rfl ?_ | refine vw_retAt rfl ?_ | (refine vw_condT rfl rfl ?_ ?_; focus (simp [ev, Fr.look]; done)) | (refine vw_condF rfl rfl ?_ ?_; focus (simp [ev, Fr.look]; done)) | refine vw_blockAt _ rfl rfl ?_ | (apply vw_regionRun; (focus rfl); (focus ((conv => lhs; reduce); done)); (focus ((conv => lhs; simp [-List.map_set, set_vnat, set_vnat1, set_vint, set_bool]); done)); refine vseg_done ?_) | (apply vw_drawPlain; (focus rfl); (focus kernel_rfl); (focus ((conv => lhs; reduce); done)); (focus ((conv => lhs; reduce); done)); (focus (kernel_rfl)); (focus ((conv => lhs; simp [-List.map_set, set_vnat, set_vnat1, set_vint, set_bool]); done)); refine vseg_done ?_))
    exact done_pure hwf rfl rfl

theorem ordI_len (g : List (List Int)) : (G.ordI g).length ≤ 256 := by
  simp only [G.ordI]
  split
  · rename_i h
    have hg := G.right_ok h
    obtain ⟨t, h1, h2, h3⟩ := G.order_ends hg
    have := hg.max
    simp [G.order, h1]; omega
  · simp
theorem pushAll_row : ∀ (es : List (Nat × Nat)) (rows : List (List Nat)) (r : List Nat), r ∈ G.pushAll rows es → r.length ≤ G.total rows + es.length
  | [], rows, r, h => by
    have h : r ∈ rows := h
    obtain ⟨i, hi, rfl⟩ := List.getElem_of_mem h
    have := G.row_le_total rows i
    have hi' : i < rows.length := hi
    have e : rows.getD i [] = rows[i] := by simp [hi']
    rw [e] at this
    simpa using this
  | e :: es, rows, r, h => by
    have := pushAll_row es (G.push rows e.1 e.2) r h
    by_cases hk : e.1 < rows.length
    · have k := G.total_push (rows := rows) (k := e.1) (i := e.2) hk
      simp; omega
    · have k : G.push rows e.1 e.2 = rows := by simp only [G.push]; exact List.set_eq_of_length_le (by omega)
      rw [k] at this
      simp; omega
namespace G
def nearI (g : List (List Int)) : List Int := if right g then rNear (nats g) else []
theorem nearI_len (g : List (List Int)) : (nearI g).length ≤ 256 := by
  simp only [nearI]
  split
  · rename_i h
    have := (right_ok h).max
    simp [rNear]; exact this
  · simp
end G

theorem NearestAll_v (g : List (List Int)) (h : Fits g) : VPure Try.prog 60 [vl (vl vint) g] (.tuple [vl vint (G.nearI g), vint (G.err g)]) := by
  cases hr : G.right g with
  | false =>
    simp only [G.nearI, G.err, hr]
    exact NearestErr_v g h.1 h.2 hr
  | true =>
    simp only [G.nearI, G.err, hr, if_true]
    rw [G.right_enc hr]
    have hg := G.right_ok hr
    have ho := G.order_ok hg
    obtain ⟨F, K, nearF, h1, h2⟩ := G.chk_ends hg
    rw [G.near_eq hg h2]
    refine Nearest_v (G.nats g) hg (right_nats g h hr) (G.order (G.nats g)) rfl ?_ ho.lt (G.froms (G.nats g)) rfl (G.froms_length _) (fun r hr x hx => ?_) (fun r hr => ?_) ?_ F K nearF h1
    · obtain ⟨r, e⟩ := ho.head; rw [e]; simp
    · obtain ⟨i, hi, rfl⟩ := List.getElem_of_mem hr
      have hig : i < (G.nats g).length := by rw [G.froms_length] at hi; exact hi
      have := (G.mem_froms hg i x hig).1 (by simpa [hi] using hx)
      exact this.1
    · have k1 := pushAll_row _ _ r hr
      have k2 := G.edges_len hg.row 0
      have k3 := hg.max
      rw [G.total_rep] at k1
      omega
    · obtain ⟨t, k1, k2, k3⟩ := G.order_ends hg
      simp [G.order, k1]; exact k2

end Go.Vw

/-
  Functions in SSA form: how long their lists are.
-/
namespace Ss
def shortL (ls : List (List Int)) : Bool := ls.all fun l => decide (l.length ≤ 4096)
def Ins.small (x : Ins) : Bool := decide (x.args.length ≤ 4096) && decide (x.outs.length ≤ 4096)
def Edge.small (x : Edge) : Bool := decide (x.args.length ≤ 4096)
def Block.small (b : Block) : Bool := decide (b.params.length ≤ 4096) && decide (b.term.to.length ≤ 4096) && decide (b.term.args.length ≤ 4096) && b.code.all Ins.small && b.term.to.all Edge.small
/-- Blocks from one on, behind n instructions. -/
def smallFrom (n : Nat) : List Block → Bool
  | [] => true
  | b :: bs => decide (n + b.code.length ≤ 4096) && b.small && smallFrom (n + b.code.length) bs
def Fn.heads (f : Fn) : Bool := decide (f.types.length ≤ 4096) && decide (f.blocks.length ≤ 4096) && decide (f.sig.inn.length ≤ 4096) && decide (f.sig.out.length ≤ 4096)
def Fn.small (f : Fn) : Bool := f.heads && smallFrom 0 f.blocks
def count (bs : List Block) : Nat := (bs.map fun b => b.code.length).sum

theorem smallFrom_all : ∀ {bs : List Block} {n : Nat}, smallFrom n bs = true → (∀ b ∈ bs, b.small = true) ∧ (n ≤ 4096 → n + count bs ≤ 4096)
  | [], n, _ => ⟨by simp, by simp [count]⟩
  | b :: bs, n, h => by
    simp only [smallFrom, Bool.and_eq_true, decide_eq_true_eq] at h
    obtain ⟨⟨h1, h2⟩, h3⟩ := h
    obtain ⟨k1, k2⟩ := smallFrom_all h3
    refine ⟨fun x hx => ?_, fun _ => ?_⟩
    · rcases List.mem_cons.1 hx with rfl | hx
      · exact h2
      · exact k1 x hx
    · have := k2 h1
      simp only [count, List.map_cons, List.sum_cons] at this ⊢
      omega
theorem smallFrom_mk : ∀ {bs : List Block} {n : Nat}, (∀ b ∈ bs, b.small = true) → n + count bs ≤ 4096 → smallFrom n bs = true
  | [], n, _, _ => rfl
  | b :: bs, n, h, hn => by
    simp only [count, List.map_cons, List.sum_cons] at hn
    simp only [smallFrom, Bool.and_eq_true, decide_eq_true_eq]
    exact ⟨⟨by omega, h b (by simp)⟩, smallFrom_mk (fun x hx => h x (by simp [hx])) (by simp only [count]; omega)⟩
theorem small_iff (f : Fn) : f.small = true ↔ f.heads = true ∧ (∀ b ∈ f.blocks, b.small = true) ∧ count f.blocks ≤ 4096 := by
  simp only [Fn.small, Bool.and_eq_true]
  constructor
  · rintro ⟨h1, h2⟩
    obtain ⟨k1, k2⟩ := smallFrom_all h2
    exact ⟨h1, k1, by simpa using k2 (by omega)⟩
  · rintro ⟨h1, h2, h3⟩
    exact ⟨h1, smallFrom_mk h2 (by simpa using h3)⟩
theorem drop_all {α : Type} (p : α → Bool) {l : List α} {k : Nat} (h : k < l.length) : (l.drop k).all p = (p l[k] && (l.drop (k + 1)).all p) := by
  rw [List.drop_eq_getElem_cons h, List.all_cons]
theorem drop_all_end {α : Type} (p : α → Bool) {l : List α} {k : Nat} (h : ¬ k < l.length) : (l.drop k).all p = true := by
  have : l.drop k = [] := by rw [List.drop_eq_nil_iff]; omega
  rw [this]; rfl
theorem drop_small {n : Nat} {l : List Block} {k : Nat} (h : k < l.length) : smallFrom n (l.drop k) = (decide (n + l[k].code.length ≤ 4096) && l[k].small && smallFrom (n + l[k].code.length) (l.drop (k + 1))) := by
  rw [List.drop_eq_getElem_cons h, smallFrom]
theorem drop_small_end {n : Nat} {l : List Block} {k : Nat} (h : ¬ k < l.length) : smallFrom n (l.drop k) = true := by
  have : l.drop k = [] := by rw [List.drop_eq_nil_iff]; omega
  rw [this]; rfl
end Ss

/-
  Circles of blocks, by a walk in depth: the walk ends.
-/
namespace Ss
def tickB (b : Block) : Bool := b.code.any fun x => decide (x.op = 258)
mutual
/-- The walk from a node: a circle?, and the nodes' states behind it (0 not met, 1 under way, 2 done); none: out of fuel. -/
def ringW (tick : List Bool) (g : List (List Nat)) : Nat → Nat → List Nat → Option (Bool × List Nat)
  | 0, _, _ => none
  | fuel + 1, n, st => if tick.getD n false then some (false, st) else
      match ringL tick g fuel (g.getD n []) (st.set n 1) with
      | some (true, s) => some (true, s)
      | some (false, s) => some (false, s.set n 2)
      | none => none
  termination_by fuel _ _ => (fuel, 0)
def ringL (tick : List Bool) (g : List (List Nat)) : Nat → List Nat → List Nat → Option (Bool × List Nat)
  | _, [], st => some (false, st)
  | fuel, k :: ks, st => if st.getD k 0 = 1 then some (true, st) else if st.getD k 0 = 0 then
      match ringW tick g fuel k st with
      | some (true, s) => some (true, s)
      | some (false, s) => ringL tick g fuel ks s
      | none => none
    else ringL tick g fuel ks st
  termination_by fuel ks _ => (fuel, ks.length + 1)
end
def ringM (tick : List Bool) (g : List (List Nat)) (fuel : Nat) : List Nat → List Nat → Option Bool
  | [], _ => some false
  | n :: ns, st => if st.getD n 0 = 0 then
      match ringW tick g fuel n st with
      | some (true, _) => some true
      | some (false, s) => ringM tick g fuel ns s
      | none => none
    else ringM tick g fuel ns st
def zeros (st : List Nat) : Nat := (st.filter fun x => decide (x = 0)).length
theorem zeros_set (v : Nat) : ∀ (st : List Nat) (n : Nat), v ≠ 0 → zeros (st.set n v) ≤ zeros st ∧ (n < st.length → st.getD n 1 = 0 → zeros (st.set n v) + 1 = zeros st)
  | [], n, _ => by simp [zeros]
  | x :: st, 0, hv => by
    have e : zeros ((x :: st).set 0 v) = zeros st := by simp [zeros, hv]
    rw [e]
    refine ⟨?_, fun _ h => ?_⟩
    · simp only [zeros, List.filter_cons]
      split <;> simp
    · simp at h; subst h; simp [zeros]
  | x :: st, n + 1, hv => by
    obtain ⟨h1, h2⟩ := zeros_set v st n hv
    simp only [zeros, List.set_cons_succ, List.filter_cons] at h1 h2 ⊢
    split
    · simp only [List.length_cons]
      refine ⟨by omega, fun h3 h4 => ?_⟩
      have := h2 (by simpa using h3) (by simpa using h4)
      omega
    · exact ⟨h1, fun h3 h4 => h2 (by simpa using h3) (by simpa using h4)⟩
theorem zeros_le (st : List Nat) : zeros st ≤ st.length := List.length_filter_le _ _

section
variable {tick : List Bool} {g : List (List Nat)}
theorem ringL_ends {N fuel : Nat} (hg : ∀ n, ∀ k ∈ g.getD n [], k < N)
    (ih : ∀ n st, n < N → st.length = N → st.getD n 0 = 0 → zeros st < fuel → ∃ r s, ringW tick g fuel n st = some (r, s) ∧ zeros s ≤ zeros st ∧ s.length = st.length) :
    ∀ (ks st : List Nat), (∀ k ∈ ks, k < N) → st.length = N → zeros st < fuel → ∃ r s, ringL tick g fuel ks st = some (r, s) ∧ zeros s ≤ zeros st ∧ s.length = st.length
  | [], st, _, _, _ => ⟨false, st, by rw [ringL], Nat.le_refl _, rfl⟩
  | k :: ks, st, hk, hl, hz => by
    rw [ringL]
    split
    · exact ⟨true, st, rfl, Nat.le_refl _, rfl⟩
    · split
      · rename_i h0
        obtain ⟨r, s, h1, h2, h3⟩ := ih k st (hk k (by simp)) hl h0 hz
        rw [h1]
        cases r with
        | true => exact ⟨true, s, rfl, h2, h3⟩
        | false =>
          obtain ⟨r', s', k1, k2, k3⟩ := ringL_ends hg ih ks s (fun x hx => hk x (by simp [hx])) (by omega) (by omega)
          exact ⟨r', s', k1, by omega, by omega⟩
      · exact ringL_ends hg ih ks st (fun x hx => hk x (by simp [hx])) hl hz
theorem ringW_ends {N : Nat} (hg : ∀ n, ∀ k ∈ g.getD n [], k < N) : ∀ (fuel n : Nat) (st : List Nat), n < N → st.length = N → st.getD n 0 = 0 → zeros st < fuel → ∃ r s, ringW tick g fuel n st = some (r, s) ∧ zeros s ≤ zeros st ∧ s.length = st.length
  | 0, _, _, _, _, _, hz => by omega
  | fuel + 1, n, st, hn, hl, h0, hz => by
    rw [ringW]
    split
    · exact ⟨false, st, rfl, Nat.le_refl _, rfl⟩
    · have hz1 := (zeros_set 1 st n (by decide)).2 (by omega) (by
        rw [List.getD_eq_getElem?_getD, List.getElem?_eq_getElem (by omega)] at h0 ⊢
        exact h0)
      obtain ⟨r, s, h1, h2, h3⟩ := ringL_ends hg (fun n st => ringW_ends hg fuel n st) (g.getD n []) (st.set n 1) (hg n) (by simp; omega) (by omega)
      rw [h1]
      have h3' : s.length = st.length := by rw [h3]; simp
      cases r with
      | true => exact ⟨true, s, rfl, by omega, h3'⟩
      | false =>
        have := (zeros_set 2 s n (by decide)).1
        exact ⟨false, s.set n 2, rfl, by omega, by simp [h3']⟩
theorem ringM_ends {N fuel : Nat} (hg : ∀ n, ∀ k ∈ g.getD n [], k < N) (hf : N < fuel) : ∀ (ns st : List Nat), (∀ n ∈ ns, n < N) → st.length = N → ∃ r, ringM tick g fuel ns st = some r
  | [], _, _, _ => ⟨false, rfl⟩
  | n :: ns, st, hn, hl => by
    simp only [ringM]
    split
    · rename_i h0
      obtain ⟨r, s, h1, h2, h3⟩ := ringW_ends (tick := tick) hg fuel n st (hn n (by simp)) hl h0 (by have := zeros_le st; omega)
      rw [h1]
      cases r with
      | true => exact ⟨true, rfl⟩
      | false => exact ringM_ends hg hf ns s (fun x hx => hn x (by simp [hx])) (by omega)
    · exact ringM_ends hg hf ns st (fun x hx => hn x (by simp [hx])) hl
theorem ringL_len {fuel : Nat} (ih : ∀ n st r s, ringW tick g fuel n st = some (r, s) → s.length = st.length) : ∀ (ks st : List Nat) (r : Bool) (s : List Nat), ringL tick g fuel ks st = some (r, s) → s.length = st.length
  | [], st, r, s, h => by rw [ringL] at h; cases h; rfl
  | k :: ks, st, r, s, h => by
    rw [ringL] at h
    split at h
    · cases h; rfl
    · split at h
      · cases hw : ringW tick g fuel k st with
        | none => rw [hw] at h; cases h
        | some p =>
          obtain ⟨b, s1⟩ := p
          rw [hw] at h
          have e1 := ih k st b s1 hw
          cases b with
          | true => cases h; exact e1
          | false => exact (ringL_len ih ks s1 r s h).trans e1
      · exact ringL_len ih ks st r s h
theorem ringW_len : ∀ (fuel n : Nat) (st : List Nat) (r : Bool) (s : List Nat), ringW tick g fuel n st = some (r, s) → s.length = st.length
  | 0, _, _, _, _, h => by rw [ringW] at h; cases h
  | fuel + 1, n, st, r, s, h => by
    rw [ringW] at h
    split at h
    · cases h; rfl
    · cases hl : ringL tick g fuel (g.getD n []) (st.set n 1) with
      | none => rw [hl] at h; cases h
      | some p =>
        obtain ⟨b, s1⟩ := p
        rw [hl] at h
        have e1 := ringL_len (ringW_len fuel) _ _ _ _ hl
        cases b with
        | true => cases h; simpa using e1
        | false => cases h; simpa using e1
end
/-- Is there a circle of blocks without a tick? -/
def rings (bs : List Block) (g : List (List Nat)) : Bool := (ringM (bs.map tickB) g (g.length + 1) (List.range g.length) (List.replicate g.length 0)).getD false
end Ss
