import Derived.Test.YtcpncecdegmliaaC12
import Derived.Test.YtcpncecdegmliaaProg
import Derived.Test.YtcpncecdegmliaaC14
import Derived.Test.YtcpncecdegmliaaC23
import Derived.Test.YtcpncecdegmliaaC22
import Derived.Test.YtcpncecdegmliaaC15
import Derived.Test.YtcpncecdegmliaaC13
/-
  Part of the proof (texts GFromW, GNear, GNear2, GAll, SRingP).
-/
set_option linter.unusedVariables false
set_option linter.unusedSimpArgs false
namespace Go.Vw
open Go.Proofs Go.RowKit
set_option maxRecDepth 10000
set_option maxHeartbeats 4000000
def natRows (rows : List (List Nat)) : List (List V) := rows.map (·.map vnat)
theorem natRows_len (rows : List (List Nat)) : (natRows rows).length = rows.length := by simp [natRows]
theorem natRows_push {rows : List (List Nat)} {k i : Nat} (h : k < rows.length) : natRows (G.push rows k i) = (natRows rows).set k ((rows.getD k []).map vnat ++ [.int .i64 (i : Int)]) := by
 simp [natRows, G.push, List.map_set, vnat]
theorem natRows_get {rows : List (List Nat)} {k : Nat} (h : k < rows.length) : (natRows rows)[k]? = some ((rows.getD k []).map vnat) := by
 simp [natRows, h]
theorem natRows_closed (rows : List (List Nat)) : ∀ row ∈ natRows rows, row.all V.closed1 = true := by
 intro row h
 simp only [natRows, List.mem_map] at h
 obtain ⟨r, _, rfl⟩ := h
 simp [vnat, V.closed1]
theorem natRows_vl (rows : List (List Nat)) : V.list ((natRows rows).map V.list) = vl (vl vnat) rows := by
 simp [natRows, vl]
theorem FromErr_v (g : List (List Int)) (hg : g.length < 2^63) (hl : ∀ l ∈ g, l.length < 2^63) (hr : G.right g = false) : VPure Try.prog 59 [vl (vl vint) g] (.tuple [vl vnat [], vint 1]) := by
 intro S
 refine vcalls_start (c := bodyOf Try.f59) Try.func59 rfl rfl (by simp [Try.ntmps59]) ?_
 rw [Try.ntmps59]
 intro hwf
 repeat (first|refine QG ?_|refine QX (r:=by conv=>lhs;simp[-List.map_set,QV]) (k:=?_))
 repeat refine QS ?_
 refine QR (r:=by conv=>lhs;simp[-List.map_set,QV]) (k:=?_)
 refine vcall_use rfl (Right_v g hg hl) ?_
 refine QM (by conv=>lhs;simp[-List.map_set,QV,hr]) ?_
 refine QN ?_
 repeat (first|refine QG ?_|refine QX (r:=by conv=>lhs;simp[-List.map_set,QV]) (k:=?_))
 exact done_via (l := []) hwf ((Ghost.tuple [] [vint 1] (Ghost.nils_list _)).toB _) rfl
structure FromAt (S T : Store) (oo : Nat) (cells : List V) (rows : List (List Nat)) (n : Nat) : Prop where
 agree : Agree S T
 arr : RowsAt T S.nx oo [] cells (natRows rows)
 len : rows.length = n
theorem FromAt.nil {S T : Store} {oo n k i : Nat} {cells : List V} {rows : List (List Nat)} (h : FromAt S T oo cells rows n) (hk : k < n) (hr : rows.getD k [] = []) (hc : cells[k]? = some .nils) : FromAt S (rowNil T oo cells k (.int .i64 (i : Int))) oo (cells.set k (.slice (T.nx + 1) 0 1)) (G.push rows k i) n := by
 have hlt : k < rows.length := by rw [h.len]; exact hk
 refine ⟨((h.agree.add _).add _).upd h.arr.base _, ?_, by simp [G.push_length, h.len]⟩
 rw [natRows_push hlt, hr]
 refine h.arr.nil ?_ (by simp) hc
 rw [natRows_get hlt, hr]; rfl
theorem FromAt.app {S T : Store} {oo n k i id : Nat} {cells : List V} {rows : List (List Nat)} (h : FromAt S T oo cells rows n) (hk : k < n) (hid : S.nx ≤ id) (hc : cells[k]? = some (.slice id 0 (rows.getD k []).length)) : FromAt S (rowApp T oo cells k id ((rows.getD k []).map vnat) (.int .i64 (i : Int))) oo (cells.set k (.slice (T.nx + 1) 0 ((rows.getD k []).length + 1))) (G.push rows k i) n := by
 have hlt : k < rows.length := by rw [h.len]; exact hk
 refine ⟨(((h.agree.add _).del hid).add _).upd h.arr.base _, ?_, by simp [G.push_length, h.len]⟩
 rw [natRows_push hlt]
 have := h.arr.app (x := .int .i64 (i : Int)) (id := id) (natRows_get hlt) (by simp) (by simpa using hc)
 simpa using this
theorem From_v (g : List (List Nat)) (hg : G.Ok g) (hr : VPure Try.prog 57 [vl (vl vnat) g] (.bool true)) : VPure Try.prog 59 [vl (vl vnat) g] (.tuple [vl (vl vnat) (G.froms g), vint 0]) := by
 intro S
 refine vcalls_start (c := bodyOf Try.f59) Try.func59 rfl rfl (by simp [Try.ntmps59]) ?_
 rw [Try.ntmps59]
 intro hwf
 have hm256 := hg.max
 have hb24 : g.length * 24 ≤ 140737488355328 := by omega
 have hb0 : g.length ≤ 140737488355328 := by omega
 repeat (first|refine QG ?_|refine QX (r:=by conv=>lhs;simp[-List.map_set,QV]) (k:=?_))
 repeat refine QS ?_
 refine QR (r:=by conv=>lhs;simp[-List.map_set,QV]) (k:=?_)
 refine vcall_use rfl (hr) ?_
 refine QM (by conv=>lhs;simp[-List.map_set,QV]) ?_
 refine QN ?_
 repeat (first|refine QG ?_|refine QX (r:=by conv=>lhs;simp[-List.map_set,QV,hb24,hb0]) (k:=?_))
 have h0 : FromAt S (St S [] [some (1, List.replicate g.length V.nils)]) (lid S.nx 0) (List.replicate g.length .nils) (List.replicate g.length []) g.length := by
  refine ⟨agree_St, ?_, by simp⟩
  have : natRows (List.replicate g.length []) = List.replicate g.length [] := by simp [natRows]
  rw [this]
  exact RowsAt.start (by simp [St_get]) (by simp [lid]) (by rw [St_nx]; simp [lid]) (by simp)
 have htot := G.edges_len hg.row 0
 refine vw_gen (fun T => FromAt S T (lid S.nx 0) (List.replicate g.length .nils) (List.replicate g.length []) g.length) h0 ?_
 intro T h0
 generalize lid S.nx 0 = oo at h0 ⊢
 repeat (first|refine QG ?_|refine QX (r:=by conv=>lhs;simp[-List.map_set,QV]) (k:=?_))
 repeat refine QS ?_
 refine vw_loopAt [4, 15, 16, 17] rfl (fun c σ S' => ∃ (i : Nat) (cells : List V) (rows : List (List Nat)), i ≤ g.length ∧ c = g.length - i ∧ FromAt S S' oo cells rows g.length ∧ G.pushAll rows (G.edges (g.drop i) i) = G.froms g ∧ G.total rows + (G.edges (g.drop i) i).length ≤ 128 * g.length ∧ σ = [(4, .slice oo 0 g.length), (15, vl (vl vnat) g), (16, vnat g.length), (17, vnat i)]) g.length ?_ ?_
 ·exact ⟨0, _, _, by omega, rfl, h0, rfl, by simpa [G.total_rep] using htot, by simp [Fr.only, Fr.look, vnat]⟩
 ·rintro c σ T ⟨i, cells, rows, hi, rfl, hF, hp, ht, rfl⟩
  by_cases hlt : i < g.length
  ·have hw1 : IntKind.i64.wrap ((i : Int) + 1) = (i : Int) + 1 := wrap_i64 (by omega) (by omega)
   have hr128 := hg.row _ (List.getElem_mem hlt)
   repeat (first|refine QG ?_|refine QX (r:=by conv=>lhs;simp[-List.map_set,QV,hlt]) (k:=?_))
   rw [G.edges_drop g hlt] at hp ht
   repeat refine QS ?_
   refine vw_loopAt [4, 5, 15, 16, 17, 22, 23, 24] rfl (fun c σ S' => ∃ (k : Nat) (cells : List V) (rows : List (List Nat)), k ≤ g[i].length ∧ c = g[i].length - k ∧ FromAt S S' oo cells rows g.length ∧ G.pushAll rows ((g[i].drop k).map (·, i) ++ G.edges (g.drop (i + 1)) (i + 1)) = G.froms g ∧ G.total rows + ((g[i].drop k).map (·, i) ++ G.edges (g.drop (i + 1)) (i + 1)).length ≤ 128 * g.length ∧ σ = [(4, .slice oo 0 g.length), (5, vnat i), (15, vl (vl vnat) g), (16, vnat g.length), (17, vnat i), (22, vl vnat g[i]), (23, vnat g[i].length), (24, vnat k)]) g[i].length ?_ ?_
   ·exact ⟨0, _, _, by omega, rfl, hF, hp, by simpa using ht, by simp [Fr.only, Fr.look, vnat]⟩
   ·rintro c σ T ⟨k, cells, rows, hk, rfl, hF, hp, ht, rfl⟩
    by_cases hkl : k < g[i].length
    ·have hw2 : IntKind.i64.wrap ((k : Int) + 1) = (k : Int) + 1 := wrap_i64 (by omega) (by omega)
     rw [G.map_drop hkl] at hp ht
     simp only [List.cons_append, List.length_cons, G.pushAll_cons] at hp ht
     have hgk : g[i][k] < g.length := hg.elt _ (List.getElem_mem hlt) _ (List.getElem_mem hkl)
     have hkr : g[i][k] < rows.length := by rw [hF.len]; exact hgk
     have hrow := G.row_le_total rows g[i][k]
     have htp := G.total_push (i := i) hkr
     have hget := hF.arr.get
     have hool := hF.arr.lt
     have hcl : cells.length = g.length := by rw [hF.arr.len, natRows_len, hF.len]
     have hgkc : g[i][k] < cells.length := by omega
     have h1 : oo < T.nx + 1 := by omega
     have h2 : oo < T.nx + 1 + 1 := by omega
     rcases hF.arr.row _ _ (natRows_get hkr) with ⟨hc, hr0⟩ | ⟨id, hc, hid, hne, hb, hidl, _⟩
     ·have hr0' : rows.getD g[i][k] [] = [] := by simpa using hr0
      obtain ⟨_, hce⟩ := List.getElem?_eq_some_iff.1 hc
      repeat (first|refine QG ?_|refine QX (r:=by conv=>lhs;simp[-List.map_set,QV,hlt,hkl,hw2]) (k:=?_))
      repeat (first|refine QG ?_|refine QX (r:=by conv=>lhs;simp[-List.map_set,QV,hlt,hkl,hget,hgk,add_new,add_nx',add_old,hool,h1,h2,hgkc,hce,hw2]) (k:=?_))
      show Again _ _ _ _ _ _ _
      exact again ⟨Nat.sub_lt_sub_left hkl (Nat.lt_succ_self k), k + 1, _, _, hkl, rfl, hF.nil (i := i) hgk hr0' hc, hp, by omega, by simp [Fr.only, Fr.look, vnat]⟩
     ·have hlr : ((rows.getD g[i][k] []).map vnat).length = (rows.getD g[i][k] []).length := by simp
      rw [hlr] at hc
      obtain ⟨_, hce⟩ := List.getElem?_eq_some_iff.1 hc
      have hb8 : ((rows.getD g[i][k] []).length + 1) * 8 ≤ 140737488355328 := by omega
      have hb1 : (rows.getD g[i][k] []).length + 1 ≤ 140737488355328 := by omega
      have hcf := hF.app (i := i) hgk hb hc
      simp only [rowApp, List.length_map] at hcf
      generalize hrw : rows.getD g[i][k] [] = row at hce hb8 hb1 hid hcf
      have hne' : oo ≠ id := Ne.symm hne
      repeat (first|refine QG ?_|refine QX (r:=by conv=>lhs;simp[-List.map_set,QV,hlt,hkl,hw2]) (k:=?_))
      repeat (first|refine QG ?_|refine QX (r:=by conv=>lhs;simp[-List.map_set,QV,hlt,hkl,hget,hgk,add_new,add_nx',add_old,del_old,del_nx,hool,h1,h2,hgkc,hce,hw2,hid,hidl,hne',hb8,hb1]) (k:=?_))
      show Again _ _ _ _ _ _ _
      exact again ⟨Nat.sub_lt_sub_left hkl (Nat.lt_succ_self k), k + 1, _, _, hkl, rfl, hcf, hp, by omega, by simp [Fr.only, Fr.look, vnat]⟩
    ·repeat (first|refine QG ?_|refine QX (r:=by conv=>lhs;simp[-List.map_set,QV,hlt,hkl,hw1]) (k:=?_))
     have : k = g[i].length := by omega
     subst this
     simp at hp ht
     show Again _ _ _ _ _ _ _
     exact again ⟨Nat.sub_lt_sub_left hlt (Nat.lt_succ_self i), i + 1, _, _, hlt, rfl, hF, hp, by simpa using ht, by simp [Fr.only, Fr.look, vnat]⟩
  ·have hig : i = g.length := by omega
   subst hig
   repeat refine QS ?_
   refine QR (r:=by conv=>lhs;simp[-List.map_set,QV]) (k:=?_)
   refine QN ?_
   repeat refine QS ?_
   refine vw_condF rfl rfl rfl ?_
   repeat refine QS ?_
   refine vw_exitAt 0 rfl rfl ?_
   simp [G.edges, G.pushAll] at hp
   obtain ⟨T2, k1, k2, k3, k4, k5⟩ := hF.arr.freeze (N := 41) (b0 := S.nx) (natRows_closed rows)
   refine vw_reach k1 ?_
   repeat (first|refine QG ?_|refine QX (r:=by conv=>lhs;simp[-List.map_set,QV]) (k:=?_))
   have hfr := Ghost.freeze1 (len := g.length) k2 (by simp [V.closed1]) (by simp [natRows, hF.len])
   rw [natRows_vl, hp] at hfr
   have hag : Agree S (T2.del oo) := by
    have h0 := hF.agree
    refine ⟨by show S.nx ≤ T2.nx; rw [k3]; exact h0.1, fun o ho => ?_⟩
    have hb := hF.arr.base
    rw [del_old (by omega), k4 o (.inl ho) (by omega)]
    exact h0.2 o ho
   exact done_ghost hwf ((Ghost.tuple [] [vint 0] hfr).toB _) hag rfl
end Go.Vw

namespace Go.Vw
open Go.Proofs Go.RowKit
set_option maxRecDepth 10000
set_option maxHeartbeats 4000000
theorem Meet_v (S : Store) (rank : List Nat) (near : List Int) (hrl : rank.length = near.length) (o7 o10 or on : Nat) (h7 : S.get o7 = some (1, [.slice or 0 rank.length])) (hr : S.get or = some (1, rank.map vnat)) (h10 : S.get o10 = some (1, [.slice on 0 near.length])) (hn : S.get on = some (1, near.map vint))
  (f : Nat) (a b c : Int) (hm : G.meetF rank near f a b = some c) : VCalls Try.prog 61 [vint a, vint b, .ptr o7 0, .ptr o10 0] S (fun r S' => r = vint c ∧ S' = S) := by
 refine vcalls_start (c := bodyOf Try.f61) Try.func61 rfl rfl (by simp [Try.ntmps61]) ?_
 rw [Try.ntmps61]
 intro hwf
 have lt : ∀ o c, S.get o = some c → o < S.nx := by
  intro o c ho
  rcases Nat.lt_or_ge o S.nx with h | h
  ·exact h
  ·rw [hwf.gone o h] at ho; cases ho
 have k7 := @St_old S [] [] o7 (lt _ _ h7)
 have kr := @St_old S [] [] or (lt _ _ hr)
 have k10 := @St_old S [] [] o10 (lt _ _ h10)
 have kn := @St_old S [] [] on (lt _ _ hn)
 repeat (first|refine QG ?_|refine QX (r:=by conv=>lhs;simp[-List.map_set,QV]) (k:=?_))
 repeat refine QS ?_
 refine vw_loopAt [0, 1, 2, 3] rfl (fun n σ S' => ∃ a b : Int, G.meetF rank near n a b = some c ∧ σ = [(0, vint a), (1, vint b), (2, .ptr o7 0), (3, .ptr o10 0)] ∧ S' = St S [] []) f ?_ ?_
 ·exact ⟨a, b, hm, by simp [Fr.only, Fr.look, vint], rfl⟩
 ·rintro n σ T ⟨a, b, hm, rfl, rfl⟩
  cases n with
  | zero => cases hm
  | succ n =>
   simp only [G.meetF] at hm
   by_cases hab : a = b
   ·rw [if_pos hab] at hm
    cases hm
    subst hab
    repeat (first|refine QG ?_|refine QX (r:=by conv=>lhs;simp[-List.map_set,QV]) (k:=?_))
    exact done_pure hwf rfl rfl
   ·rw [if_neg hab] at hm
    split at hm
    ·rename_i hok
     obtain ⟨a0, a1, b0, b1⟩ := hok
     have ha : a.toNat < near.length := by omega
     have hb : b.toNat < near.length := by omega
     have har : a.toNat < rank.length := by omega
     have hbr : b.toNat < rank.length := by omega
     have a1' : a < (rank.length : Int) := by omega
     have b1' : b < (rank.length : Int) := by omega
     have e1 : rank.getD a.toNat 0 = rank[a.toNat] := by simp [har]
     have e2 : rank.getD b.toNat 0 = rank[b.toNat] := by simp [hbr]
     have e3 : near.getD a.toNat 0 = near[a.toNat] := by simp [ha]
     have e4 : near.getD b.toNat 0 = near[b.toNat] := by simp [hb]
     rw [e1, e2, e3, e4] at hm
     split at hm
     ·rename_i hlt
      repeat (first|refine QG ?_|refine QX (r:=by conv=>lhs;simp[-List.map_set,QV,k7,kr,k10,kn,h7,hr,h10,hn,hab,a0,a1,b0,b1,ha,hb,har,hbr,a1',b1',hlt]) (k:=?_))
      show Again _ _ _ _ _ _ _
      exact again ⟨Nat.lt_succ_self n, _, _, hm, by simp [Fr.only, Fr.look, vint], rfl⟩
     ·rename_i hlt
      repeat (first|refine QG ?_|refine QX (r:=by conv=>lhs;simp[-List.map_set,QV,k7,kr,k10,kn,h7,hr,h10,hn,hab,a0,a1,b0,b1,ha,hb,har,hbr,a1',b1',hlt]) (k:=?_))
      show Again _ _ _ _ _ _ _
      exact again ⟨Nat.lt_succ_self n, _, _, hm, by simp [Fr.only, Fr.look, vint], rfl⟩
    ·cases hm
end Go.Vw

namespace Go.Vw
open Go.Proofs Go.RowKit
set_option maxRecDepth 10000
set_option maxHeartbeats 8000000
theorem gOrd_v (g : List (List Nat)) (hg : G.Ok g) : VPure Try.prog 58 [vl (vl vnat) g] (vl vnat (G.order g)) := by
 obtain ⟨t, h1, h2, h3⟩ := G.order_ends hg
 have hp := hg.pos
 have hm := hg.max
 have e : g.length = (g.length - 1) + 1 := by omega
 have := gOrder_v g hg (g.length - 1) t (by rw [← e]; exact h1) (by omega)
 simpa [G.order, h1] using this
theorem NearestErr_v (g : List (List Int)) (hg : g.length < 2^63) (hl : ∀ l ∈ g, l.length < 2^63) (hr : G.right g = false) : VPure Try.prog 21 [vl (vl vint) g] (.tuple [vl vint [], vint 1]) := by
 intro S
 refine vcalls_start (c := bodyOf Try.f21) Try.func21 rfl rfl (by simp [Try.ntmps21]) ?_
 rw [Try.ntmps21]
 intro hwf
 repeat (first|refine QG ?_|refine QX (r:=by conv=>lhs;simp[-List.map_set,QV]) (k:=?_))
 repeat refine QS ?_
 refine QR (r:=by conv=>lhs;simp[-List.map_set,QV]) (k:=?_)
 refine vcall_use rfl (FromErr_v g hg hl hr) ?_
 refine QM (by conv=>lhs;simp[-List.map_set,QV]) ?_
 refine QN ?_
 repeat (first|refine QG ?_|refine QX (r:=by conv=>lhs;simp[-List.map_set,QV]) (k:=?_))
 exact done_via (l := []) hwf ((Ghost.tuple [] [vint 1] (Ghost.nils_list _)).toB _) rfl
def nearSt (S : Store) (rank : List Nat) (near : List Int) : Store :=
 St S [] [some (1, rank.map vnat), some (1, [.slice (lid S.nx 0) 0 rank.length]), some (1, [.int .i64 (-1)]), some (1, near.map vint), some (1, [.slice (lid S.nx 3) 0 near.length])]
theorem Nearest_v (g : List (List Nat)) (hg : G.Ok g) (hr : VPure Try.prog 57 [vl (vl vnat) g] (.bool true)) (l : List Nat) (hl : G.order g = l) (hl1 : 1 ≤ l.length) (hlt : ∀ x ∈ l, x < g.length) (fr : List (List Nat)) (hfr : G.froms g = fr) (hfl : fr.length = g.length) (hfe : ∀ r ∈ fr, ∀ x ∈ r, x < g.length) (hfm : ∀ r ∈ fr, r.length ≤ 2^20)
  (hll : l.length ≤ g.length) (F K : Nat) (nearF : List Int) (hchk : G.chk (G.rankTo g.length l l.length) fr F l.tail K ((List.replicate g.length (-1)).set 0 0) = some nearF) :
  VPure Try.prog 21 [vl (vl vnat) g] (.tuple [vl vint (nearF.set 0 (-1)), vint 0]) := by
 intro S
 refine vcalls_start (c := bodyOf Try.f21) Try.func21 rfl rfl (by simp [Try.ntmps21]) ?_
 rw [Try.ntmps21]
 intro hwf
 have hp : 0 < g.length := hg.pos
 have hm256 := hg.max
 have hb8 : g.length * 8 ≤ 140737488355328 := by omega
 have hb0 : g.length ≤ 140737488355328 := by omega
 repeat refine QS ?_
 refine QR (r:=by conv=>lhs;simp[-List.map_set,QV]) (k:=?_)
 refine QN ?_
 repeat refine QS ?_
 refine QR (r:=by conv=>lhs;simp[-List.map_set,QV]) (k:=?_)
 refine vcall_use rfl (hfr ▸ From_v g hg hr) ?_
 refine QM (by conv=>lhs;simp[-List.map_set,QV]) ?_
 refine QN ?_
 repeat (first|refine QG ?_|refine QX (r:=by conv=>lhs;simp[-List.map_set,QV]) (k:=?_))
 repeat refine QS ?_
 refine QR (r:=by conv=>lhs;simp[-List.map_set,QV]) (k:=?_)
 refine vcall_use rfl (hl ▸ gOrd_v g hg) ?_
 refine QM (by conv=>lhs;simp[-List.map_set,QV]) ?_
 refine QN ?_
 repeat (first|refine QG ?_|refine QX (r:=by conv=>lhs;simp[-List.map_set,QV,hb8,hb0]) (k:=?_))
 repeat refine QS ?_
 refine vw_loopAt [0, 4, 6, 7, 31, 32, 33] rfl (fun c σ S' => ∃ k : Nat, k ≤ l.length ∧ c = l.length - k ∧ σ = [(0, vl (vl vnat) g), (4, vl (vl vnat) fr), (6, vl vnat l), (7, .ptr (lid S.nx 1) 0), (31, vl vnat l), (32, vnat l.length), (33, vnat k)] ∧ S' = St S [] [some (1, (G.rankTo g.length l k).map vnat), some (1, [.slice (lid S.nx 0) 0 g.length])]) l.length ?_ ?_
 ·exact ⟨0, by omega, rfl, by simp [Fr.only, Fr.look, vnat], by simp [G.rankTo, vnat]⟩
 ·rintro c σ T ⟨k, hk, rfl, rfl, rfl⟩
  have hrl := G.rankTo_len g.length l k
  by_cases hkt : k < l.length
  ·have hw : IntKind.i64.wrap ((k : Int) + 1) = (k : Int) + 1 := wrap_i64 (by omega) (by omega)
   have hlk := hlt _ (List.getElem_mem hkt)
   have hst : G.rankTo g.length l (k + 1) = (G.rankTo g.length l k).set l[k] k := by simp [G.rankTo, hkt]
   repeat (first|refine QG ?_|refine QX (r:=by conv=>lhs;simp[-List.map_set,QV,hkt,hlk,hrl]) (k:=?_))
   show Again _ _ _ _ _ _ _
   exact again ⟨Nat.sub_lt_sub_left hkt (Nat.lt_succ_self k), k + 1, hkt, rfl, by simp [Fr.only, Fr.look, vnat, hw], by rw [hst]⟩
  ·have hkl : k = l.length := by omega
   subst hkl
   repeat (first|refine QG ?_|refine QX (r:=by conv=>lhs;simp[-List.map_set,QV,hkt]) (k:=?_))
   repeat refine QS ?_
   refine QR (r:=by conv=>lhs;simp[-List.map_set,QV]) (k:=?_)
   refine vcall_any rfl (Repeat_v _ (lid S.nx 2) (-1) g.length hp (by omega) ?_) ?_
   ·simp [St_get]
   rintro X T ⟨rfl, rfl⟩
   generalize hrank : G.rankTo g.length l l.length = rank at hchk hrl ⊢
   refine QM (by conv=>lhs;simp[-List.map_set,QV]) ?_
   refine QN ?_
   have hn0 : ((List.replicate g.length (-1 : Int)).set 0 0).length = g.length := by simp
   repeat (first|refine QG ?_|refine QX (r:=by conv=>lhs;simp[-List.map_set,QV,hp]) (k:=?_))
   repeat refine QS ?_
   refine vw_loopAt [0, 4, 6, 7, 10, 11, 12] rfl (fun c σ S' => ∃ near : List Int, near.length = g.length ∧ ((c = 0 ∧ near = nearF ∧ σ = [(0, vl (vl vnat) g), (4, vl (vl vnat) fr), (6, vl vnat l), (7, .ptr (lid S.nx 1) 0), (10, .ptr (lid S.nx 4) 0), (11, .func 61 [.ptr (lid S.nx 1) 0, .ptr (lid S.nx 4) 0]), (12, .bool false)]) ∨ (G.chk rank fr F l.tail c near = some nearF ∧ σ = [(0, vl (vl vnat) g), (4, vl (vl vnat) fr), (6, vl vnat l), (7, .ptr (lid S.nx 1) 0), (10, .ptr (lid S.nx 4) 0), (11, .func 61 [.ptr (lid S.nx 1) 0, .ptr (lid S.nx 4) 0]), (12, .bool true)])) ∧ S' = nearSt S rank near) K ?_ ?_
   ·refine ⟨_, hn0, .inr ⟨hchk, by simp [Fr.only, Fr.look, vnat]⟩, ?_⟩
    simp [nearSt, hrl, vint, List.map_set]
   ·rintro c σ T ⟨near, hnl, ⟨rfl, rfl, rfl⟩ | ⟨hc, rfl⟩, rfl⟩
    ·have hp' : 0 < near.length := by omega
     unfold nearSt
     repeat (first|refine QG ?_|refine QX (r:=by conv=>lhs;simp[-List.map_set,QV,hp']) (k:=?_))
     have hfz := frz1 (B := S) (u := []) (l := [some (1, rank.map vnat), some (1, [.slice (lid S.nx 0) 0 rank.length]), some (1, [.int .i64 (-1)]), some (1, (near.set 0 (-1)).map vint), some (1, [.slice (lid S.nx 3) 0 near.length])]) (k := 3) (len := near.length) (by simp) rfl (all_closed1 vint (fun _ => rfl) _) (by simp)
     exact done_via hwf ((Ghost.tuple [] [vint 0] hfz).toB _) rfl
    ·cases c with
     | zero => cases hc
     | succ c =>
      simp only [G.chk] at hc
      obtain ⟨s, hsw, hc⟩ := Option.bind_eq_some_iff.1 hc
      have hl1' : (1 : Int) ≤ (l.length : Int) := by omega
      repeat (first|refine QG ?_|refine QX (r:=by conv=>lhs;simp[-List.map_set,QV,hl1']) (k:=?_))
      repeat refine QS ?_
      refine vw_loopAt [0, 4, 6, 7, 10, 11, 12, 52, 53, 54] rfl (fun c σ S' => ∃ (k : Nat) (near : List Int) (t : Bool), near.length = g.length ∧ k ≤ l.tail.length ∧ c = l.tail.length - k ∧ G.sweepF rank fr F (l.tail.drop k) near t = some s ∧ σ = [(0, vl (vl vnat) g), (4, vl (vl vnat) fr), (6, vl vnat l), (7, .ptr (lid S.nx 1) 0), (10, .ptr (lid S.nx 4) 0), (11, .func 61 [.ptr (lid S.nx 1) 0, .ptr (lid S.nx 4) 0]), (12, .bool t), (52, vl vnat l.tail), (53, vnat (l.length - 1)), (54, vnat k)] ∧ S' = nearSt S rank near) l.tail.length ?_ ?_
      ·exact ⟨0, near, false, hnl, by omega, rfl, hsw, by simp [Fr.only, Fr.look, vnat], rfl⟩
      ·rintro c' σ T ⟨k, near, t, hnl, hk, rfl, hsw, rfl, rfl⟩
       have htl : l.tail.length = l.length - 1 := by simp
       by_cases hkt : k < l.tail.length
       ·have hw : IntKind.i64.wrap ((k : Int) + 1) = (k : Int) + 1 := wrap_i64 (by omega) (by omega)
        have hkt' : k < l.length - 1 := by omega
        have hk1 : k + 1 < l.length := by omega
        have hel : l[k + 1] = l.tail[k] := by simp
        rw [List.drop_eq_getElem_cons hkt, G.sweepF] at hsw
        obtain ⟨b, hpk, hsw⟩ := Option.bind_eq_some_iff.1 hsw
        have hlk := hlt _ (List.mem_of_mem_tail (List.getElem_mem hkt))
        generalize hn : l.tail[k] = n at hpk hsw hlk hel
        have hnf : n < fr.length := by omega
        have hfn : fr.getD n [] = fr[n] := by simp [hnf]
        rw [hfn] at hpk
        have hmr := hfe _ (List.getElem_mem hnf)
        have hmm := hfm _ (List.getElem_mem hnf)
        have hnn : n < near.length := by omega
        have hng : near.getD n 0 = near[n] := by simp [hnn]
        rw [hng] at hsw
        unfold nearSt
        repeat (first|refine QG ?_|refine QX (r:=by conv=>lhs;simp[-List.map_set,QV,hkt',hk1,hel,hnf]) (k:=?_))
        repeat refine QS ?_
        refine vw_loopAt [0, 4, 6, 7, 10, 11, 12, 14, 15, 52, 53, 54, 61, 62, 63] rfl (fun c σ S' => ∃ (j : Nat) (best : Int), j ≤ fr[n].length ∧ c = fr[n].length - j ∧ G.pickF rank near F (fr[n].drop j) best = some b ∧ σ = [(0, vl (vl vnat) g), (4, vl (vl vnat) fr), (6, vl vnat l), (7, .ptr (lid S.nx 1) 0), (10, .ptr (lid S.nx 4) 0), (11, .func 61 [.ptr (lid S.nx 1) 0, .ptr (lid S.nx 4) 0]), (12, .bool t), (14, vnat n), (15, vint best), (52, vl vnat l.tail), (53, vnat (l.length - 1)), (54, vnat k), (61, vl vnat fr[n]), (62, vnat fr[n].length), (63, vnat j)] ∧ S' = nearSt S rank near) fr[n].length ?_ ?_
        ·exact ⟨0, -1, by omega, rfl, hpk, by simp [Fr.only, Fr.look, vnat, vint], rfl⟩
        ·rintro c'' σ T ⟨j, best, hj, rfl, hpk, rfl, rfl⟩
         by_cases hjt : j < fr[n].length
         ·have hwj : IntKind.i64.wrap ((j : Int) + 1) = (j : Int) + 1 := wrap_i64 (by omega) (by omega)
          rw [List.drop_eq_getElem_cons hjt, G.pickF] at hpk
          have hpg := hmr _ (List.getElem_mem hjt)
          generalize hp' : fr[n][j] = p at hpk hpg
          have hpn : p < near.length := by omega
          have hpd : near.getD p 0 = near[p] := by simp [hpn]
          rw [hpd] at hpk
          unfold nearSt
          by_cases h1 : near[p] < 0
          ·rw [if_pos h1] at hpk
           repeat (first|refine QG ?_|refine QX (r:=by conv=>lhs;simp[-List.map_set,QV,hjt,hp',hpn,h1]) (k:=?_))
           show Again _ _ _ _ _ _ _
           exact again ⟨Nat.sub_lt_sub_left hjt (Nat.lt_succ_self j), j + 1, best, hjt, rfl, hpk, by simp [Fr.only, Fr.look, vnat, vint, hwj], rfl⟩
          ·rw [if_neg h1] at hpk
           by_cases h2 : best < 0
           ·rw [if_pos h2] at hpk
            repeat (first|refine QG ?_|refine QX (r:=by conv=>lhs;simp[-List.map_set,QV,hjt,hp',hpn,h1,h2]) (k:=?_))
            show Again _ _ _ _ _ _ _
            exact again ⟨Nat.sub_lt_sub_left hjt (Nat.lt_succ_self j), j + 1, p, hjt, rfl, hpk, by simp [Fr.only, Fr.look, vnat, vint, hwj], rfl⟩
           ·rw [if_neg h2] at hpk
            obtain ⟨q, hq, hpk⟩ := Option.bind_eq_some_iff.1 hpk
            repeat (first|refine QG ?_|refine QX (r:=by conv=>lhs;simp[-List.map_set,QV,hjt,hp',hpn,h1,h2]) (k:=?_))
            repeat refine QS ?_
            refine QR (r:=by conv=>lhs;simp[-List.map_set,QV]) (k:=?_)
            refine vcallv_any rfl rfl rfl (Meet_v _ rank near (by omega) (lid S.nx 1) (lid S.nx 4) (lid S.nx 0) (lid S.nx 3) ?_ ?_ ?_ ?_ F best p q hq) ?_
            ·simp [St_get]
            ·simp [St_get]
            ·simp [St_get]
            ·simp [St_get]
            rintro X T ⟨rfl, rfl⟩
            refine QM (by conv=>lhs;simp[-List.map_set,QV]) ?_
            refine QN ?_
            repeat (first|refine QG ?_|refine QX (r:=by conv=>lhs;simp[-List.map_set,QV]) (k:=?_))
            show Again _ _ _ _ _ _ _
            exact again ⟨Nat.sub_lt_sub_left hjt (Nat.lt_succ_self j), j + 1, q, hjt, rfl, hpk, by simp [Fr.only, Fr.look, vnat, vint, hwj], rfl⟩
         ·have hje : j = fr[n].length := by omega
          subst hje
          rw [List.drop_length, G.pickF] at hpk
          cases hpk
          unfold nearSt
          cases t with
          | true =>
           repeat (first|refine QG ?_|refine QX (r:=by conv=>lhs;simp[-List.map_set,QV,hjt,hnn]) (k:=?_))
           show Again _ _ _ _ _ _ _
           exact again ⟨Nat.sub_lt_sub_left hkt (Nat.lt_succ_self k), k + 1, near.set n b, true, by simp [hnl], hkt, rfl, by simpa using hsw, by simp [Fr.only, Fr.look, vnat, hw], by simp [nearSt, vint]⟩
          | false =>
           repeat (first|refine QG ?_|refine QX (r:=by conv=>lhs;simp[-List.map_set,QV,hjt,hnn]) (k:=?_))
           show Again _ _ _ _ _ _ _
           exact again ⟨Nat.sub_lt_sub_left hkt (Nat.lt_succ_self k), k + 1, near.set n b, !decide (near[n] = b), by simp [hnl], hkt, rfl, by simpa using hsw, by simp [Fr.only, Fr.look, vnat, hw], by simp [nearSt, vint]⟩
       ·have hkl : k = l.tail.length := by omega
        subst hkl
        rw [List.drop_length, G.sweepF] at hsw
        cases hsw
        have hkt' : ¬ l.tail.length < l.length - 1 := by omega
        repeat (first|refine QG ?_|refine QX (r:=by conv=>lhs;simp[-List.map_set,QV,hkt']) (k:=?_))
        cases t with
        | true =>
         show Again _ _ _ _ _ _ _
         exact again ⟨Nat.lt_succ_self c, near, hnl, .inr ⟨hc, by simp [Fr.only, Fr.look]⟩, rfl⟩
        | false =>
         show Again _ _ _ _ _ _ _
         exact again ⟨Nat.succ_pos c, near, hnl, .inl ⟨rfl, by simpa using hc, by simp [Fr.only, Fr.look]⟩, rfl⟩
end Go.Vw

namespace Go.Vw
open Go.Proofs Go.RowKit
set_option maxRecDepth 10000
set_option maxHeartbeats 8000000
namespace G
def ordI (g : List (List Int)) : List Nat := if right g then order (nats g) else []
def fromI (g : List (List Int)) : List (List Nat) := if right g then froms (nats g) else []
def err (g : List (List Int)) : Int := if right g then 0 else 1
end G
def Fits (g : List (List Int)) : Prop := g.length < 2^63 ∧ ∀ l ∈ g, l.length < 2^63
theorem right_nats (g : List (List Int)) (h : Fits g) (hr : G.right g = true) : VPure Try.prog 57 [vl (vl vnat) (G.nats g)] (.bool true) := by
 have := Right_v g h.1 h.2
 rw [hr, G.right_enc hr] at this
 exact this
theorem OrderAll_v (g : List (List Int)) (h : Fits g) : VPure Try.prog 19 [vl (vl vint) g] (.tuple [vl vnat (G.ordI g), vint (G.err g)]) := by
 intro S
 cases hr : G.right g with
 | false =>
  simp only [G.ordI, G.err, hr]
  refine vcalls_start (c := bodyOf Try.f19) Try.func19 rfl rfl (by simp [Try.ntmps19]) ?_
  rw [Try.ntmps19]
  intro hwf
  repeat (first|refine QG ?_|refine QX (r:=by conv=>lhs;simp[-List.map_set,QV]) (k:=?_))
  repeat refine QS ?_
  refine QR (r:=by conv=>lhs;simp[-List.map_set,QV]) (k:=?_)
  refine vcall_use rfl (Right_v g h.1 h.2) ?_
  refine QM (by conv=>lhs;simp[-List.map_set,QV,hr]) ?_
  refine QN ?_
  repeat (first|refine QG ?_|refine QX (r:=by conv=>lhs;simp[-List.map_set,QV]) (k:=?_))
  exact done_via (l := []) hwf ((Ghost.tuple [] [vint 1] (Ghost.nils_list _)).toB _) rfl
 | true =>
  simp only [G.ordI, G.err, hr, if_true]
  rw [G.right_enc hr]
  have hg := G.right_ok hr
  generalize hgn : G.nats g = gn at hg
  have hrn := right_nats g h hr
  rw [hgn] at hrn
  refine vcalls_start (c := bodyOf Try.f19) Try.func19 rfl rfl (by simp [Try.ntmps19]) ?_
  rw [Try.ntmps19]
  intro hwf
  repeat (first|refine QG ?_|refine QX (r:=by conv=>lhs;simp[-List.map_set,QV]) (k:=?_))
  repeat refine QS ?_
  refine QR (r:=by conv=>lhs;simp[-List.map_set,QV]) (k:=?_)
  refine vcall_use rfl (hrn) ?_
  refine QM (by conv=>lhs;simp[-List.map_set,QV]) ?_
  refine QN ?_
  repeat (first|refine QG ?_|refine QX (r:=by conv=>lhs;simp[-List.map_set,QV]) (k:=?_))
  repeat refine QS ?_
  refine QR (r:=by conv=>lhs;simp[-List.map_set,QV]) (k:=?_)
  refine vcall_use rfl (gOrd_v gn hg) ?_
  refine QM (by conv=>lhs;simp[-List.map_set,QV]) ?_
  refine QN ?_
  repeat (first|refine QG ?_|refine QX (r:=by conv=>lhs;simp[-List.map_set,QV]) (k:=?_))
  exact done_pure hwf rfl rfl
theorem ordI_len (g : List (List Int)) : (G.ordI g).length ≤ 256 := by
 simp only [G.ordI]
 split
 ·rename_i h
  have hg := G.right_ok h
  obtain ⟨t, h1, h2, h3⟩ := G.order_ends hg
  have := hg.max
  simp [G.order, h1]; omega
 ·simp
theorem pushAll_row : ∀ (es : List (Nat × Nat)) (rows : List (List Nat)) (r : List Nat), r ∈ G.pushAll rows es → r.length ≤ G.total rows + es.length
 | [], rows, r, h => by
  have h : r ∈ rows := h
  obtain ⟨i, hi, rfl⟩ := List.getElem_of_mem h
  have := G.row_le_total rows i
  have hi' : i < rows.length := hi
  have e : rows.getD i [] = rows[i] := by simp [hi']
  rw [e] at this
  simpa using this
 | e :: es, rows, r, h => by
  have := pushAll_row es (G.push rows e.1 e.2) r h
  by_cases hk : e.1 < rows.length
  ·have k := G.total_push (rows := rows) (k := e.1) (i := e.2) hk
   simp; omega
  ·have k : G.push rows e.1 e.2 = rows := by simp only [G.push]; exact List.set_eq_of_length_le (by omega)
   rw [k] at this
   simp; omega
namespace G
def nearI (g : List (List Int)) : List Int := if right g then rNear (nats g) else []
theorem nearI_len (g : List (List Int)) : (nearI g).length ≤ 256 := by
 simp only [nearI]
 split
 ·rename_i h
  have := (right_ok h).max
  simp [rNear]; exact this
 ·simp
end G
theorem NearestAll_v (g : List (List Int)) (h : Fits g) : VPure Try.prog 21 [vl (vl vint) g] (.tuple [vl vint (G.nearI g), vint (G.err g)]) := by
 cases hr : G.right g with
 | false =>
  simp only [G.nearI, G.err, hr]
  exact NearestErr_v g h.1 h.2 hr
 | true =>
  simp only [G.nearI, G.err, hr, if_true]
  rw [G.right_enc hr]
  have hg := G.right_ok hr
  have ho := G.order_ok hg
  obtain ⟨F, K, nearF, h1, h2⟩ := G.chk_ends hg
  rw [G.near_eq hg h2]
  refine Nearest_v (G.nats g) hg (right_nats g h hr) (G.order (G.nats g)) rfl ?_ ho.lt (G.froms (G.nats g)) rfl (G.froms_length _) (fun r hr x hx => ?_) (fun r hr => ?_) ?_ F K nearF h1
  ·obtain ⟨r, e⟩ := ho.head; rw [e]; simp
  ·obtain ⟨i, hi, rfl⟩ := List.getElem_of_mem hr
   have hig : i < (G.nats g).length := by rw [G.froms_length] at hi; exact hi
   have := (G.mem_froms hg i x hig).1 (by simpa [hi] using hx)
   exact this.1
  ·have k1 := pushAll_row _ _ r hr
   have k2 := G.edges_len hg.row 0
   have k3 := hg.max
   rw [G.total_rep] at k1
   omega
  ·obtain ⟨t, k1, k2, k3⟩ := G.order_ends hg
   simp [G.order, k1]; exact k2
end Go.Vw

/-
 Circles of blocks, by a walk in depth: the walk ends.
-/
namespace Ss
def tickB (b : Block) : Bool := b.code.any fun x => decide (x.op = 258)
mutual
def ringW (tick : List Bool) (g : List (List Nat)) : Nat → Nat → List Nat → Option (Bool × List Nat)
 | 0, _, _ => none
 | fuel + 1, n, st => if tick.getD n false then some (false, st) else
   match ringL tick g fuel (g.getD n []) (st.set n 1) with
   | some (true, s) => some (true, s)
   | some (false, s) => some (false, s.set n 2)
   | none => none
 termination_by fuel _ _ => (fuel, 0)
def ringL (tick : List Bool) (g : List (List Nat)) : Nat → List Nat → List Nat → Option (Bool × List Nat)
 | _, [], st => some (false, st)
 | fuel, k :: ks, st => if st.getD k 0 = 1 then some (true, st) else if st.getD k 0 = 0 then
   match ringW tick g fuel k st with
   | some (true, s) => some (true, s)
   | some (false, s) => ringL tick g fuel ks s
   | none => none
  else ringL tick g fuel ks st
 termination_by fuel ks _ => (fuel, ks.length + 1)
end
def ringM (tick : List Bool) (g : List (List Nat)) (fuel : Nat) : List Nat → List Nat → Option Bool
 | [], _ => some false
 | n :: ns, st => if st.getD n 0 = 0 then
   match ringW tick g fuel n st with
   | some (true, _) => some true
   | some (false, s) => ringM tick g fuel ns s
   | none => none
  else ringM tick g fuel ns st
def zeros (st : List Nat) : Nat := (st.filter fun x => decide (x = 0)).length
theorem zeros_set (v : Nat) : ∀ (st : List Nat) (n : Nat), v ≠ 0 → zeros (st.set n v) ≤ zeros st ∧ (n < st.length → st.getD n 1 = 0 → zeros (st.set n v) + 1 = zeros st)
 | [], n, _ => by simp [zeros]
 | x :: st, 0, hv => by
  have e : zeros ((x :: st).set 0 v) = zeros st := by simp [zeros, hv]
  rw [e]
  refine ⟨?_, fun _ h => ?_⟩
  ·simp only [zeros, List.filter_cons]
   split <;> simp
  ·simp at h; subst h; simp [zeros]
 | x :: st, n + 1, hv => by
  obtain ⟨h1, h2⟩ := zeros_set v st n hv
  simp only [zeros, List.set_cons_succ, List.filter_cons] at h1 h2 ⊢
  split
  ·simp only [List.length_cons]
   refine ⟨by omega, fun h3 h4 => ?_⟩
   have := h2 (by simpa using h3) (by simpa using h4)
   omega
  ·exact ⟨h1, fun h3 h4 => h2 (by simpa using h3) (by simpa using h4)⟩
theorem zeros_le (st : List Nat) : zeros st ≤ st.length := List.length_filter_le _ _
section
variable {tick : List Bool} {g : List (List Nat)}
theorem ringL_ends {N fuel : Nat} (hg : ∀ n, ∀ k ∈ g.getD n [], k < N)
  (ih : ∀ n st, n < N → st.length = N → st.getD n 0 = 0 → zeros st < fuel → ∃ r s, ringW tick g fuel n st = some (r, s) ∧ zeros s ≤ zeros st ∧ s.length = st.length) :
  ∀ (ks st : List Nat), (∀ k ∈ ks, k < N) → st.length = N → zeros st < fuel → ∃ r s, ringL tick g fuel ks st = some (r, s) ∧ zeros s ≤ zeros st ∧ s.length = st.length
 | [], st, _, _, _ => ⟨false, st, by rw [ringL], Nat.le_refl _, rfl⟩
 | k :: ks, st, hk, hl, hz => by
  rw [ringL]
  split
  ·exact ⟨true, st, rfl, Nat.le_refl _, rfl⟩
  ·split
   ·rename_i h0
    obtain ⟨r, s, h1, h2, h3⟩ := ih k st (hk k (by simp)) hl h0 hz
    rw [h1]
    cases r with
    | true => exact ⟨true, s, rfl, h2, h3⟩
    | false =>
     obtain ⟨r', s', k1, k2, k3⟩ := ringL_ends hg ih ks s (fun x hx => hk x (by simp [hx])) (by omega) (by omega)
     exact ⟨r', s', k1, by omega, by omega⟩
   ·exact ringL_ends hg ih ks st (fun x hx => hk x (by simp [hx])) hl hz
theorem ringW_ends {N : Nat} (hg : ∀ n, ∀ k ∈ g.getD n [], k < N) : ∀ (fuel n : Nat) (st : List Nat), n < N → st.length = N → st.getD n 0 = 0 → zeros st < fuel → ∃ r s, ringW tick g fuel n st = some (r, s) ∧ zeros s ≤ zeros st ∧ s.length = st.length
 | 0, _, _, _, _, _, hz => by omega
 | fuel + 1, n, st, hn, hl, h0, hz => by
  rw [ringW]
  split
  ·exact ⟨false, st, rfl, Nat.le_refl _, rfl⟩
  ·have hz1 := (zeros_set 1 st n (by decide)).2 (by omega) (by
    rw [List.getD_eq_getElem?_getD, List.getElem?_eq_getElem (by omega)] at h0 ⊢
    exact h0)
   obtain ⟨r, s, h1, h2, h3⟩ := ringL_ends hg (fun n st => ringW_ends hg fuel n st) (g.getD n []) (st.set n 1) (hg n) (by simp; omega) (by omega)
   rw [h1]
   have h3' : s.length = st.length := by rw [h3]; simp
   cases r with
   | true => exact ⟨true, s, rfl, by omega, h3'⟩
   | false =>
    have := (zeros_set 2 s n (by decide)).1
    exact ⟨false, s.set n 2, rfl, by omega, by simp [h3']⟩
theorem ringM_ends {N fuel : Nat} (hg : ∀ n, ∀ k ∈ g.getD n [], k < N) (hf : N < fuel) : ∀ (ns st : List Nat), (∀ n ∈ ns, n < N) → st.length = N → ∃ r, ringM tick g fuel ns st = some r
 | [], _, _, _ => ⟨false, rfl⟩
 | n :: ns, st, hn, hl => by
  simp only [ringM]
  split
  ·rename_i h0
   obtain ⟨r, s, h1, h2, h3⟩ := ringW_ends (tick := tick) hg fuel n st (hn n (by simp)) hl h0 (by have := zeros_le st; omega)
   rw [h1]
   cases r with
   | true => exact ⟨true, rfl⟩
   | false => exact ringM_ends hg hf ns s (fun x hx => hn x (by simp [hx])) (by omega)
  ·exact ringM_ends hg hf ns st (fun x hx => hn x (by simp [hx])) hl
theorem ringL_len {fuel : Nat} (ih : ∀ n st r s, ringW tick g fuel n st = some (r, s) → s.length = st.length) : ∀ (ks st : List Nat) (r : Bool) (s : List Nat), ringL tick g fuel ks st = some (r, s) → s.length = st.length
 | [], st, r, s, h => by rw [ringL] at h; cases h; rfl
 | k :: ks, st, r, s, h => by
  rw [ringL] at h
  split at h
  ·cases h; rfl
  ·split at h
   ·cases hw : ringW tick g fuel k st with
    | none => rw [hw] at h; cases h
    | some p =>
     obtain ⟨b, s1⟩ := p
     rw [hw] at h
     have e1 := ih k st b s1 hw
     cases b with
     | true => cases h; exact e1
     | false => exact (ringL_len ih ks s1 r s h).trans e1
   ·exact ringL_len ih ks st r s h
theorem ringW_len : ∀ (fuel n : Nat) (st : List Nat) (r : Bool) (s : List Nat), ringW tick g fuel n st = some (r, s) → s.length = st.length
 | 0, _, _, _, _, h => by rw [ringW] at h; cases h
 | fuel + 1, n, st, r, s, h => by
  rw [ringW] at h
  split at h
  ·cases h; rfl
  ·cases hl : ringL tick g fuel (g.getD n []) (st.set n 1) with
   | none => rw [hl] at h; cases h
   | some p =>
    obtain ⟨b, s1⟩ := p
    rw [hl] at h
    have e1 := ringL_len (ringW_len fuel) _ _ _ _ hl
    cases b with
    | true => cases h; simpa using e1
    | false => cases h; simpa using e1
end
def rings (bs : List Block) (g : List (List Nat)) : Bool := (ringM (bs.map tickB) g (g.length + 1) (List.range g.length) (List.replicate g.length 0)).getD false
end Ss
