import Derived.Test.YtcpncecdegmliaaGreatC30
import Derived.Test.YtcpncecdegmliaaGreatC16
/-
  Part of the proof (texts BDel, BRows).
-/
set_option linter.unusedVariables false
set_option linter.unusedSimpArgs false
namespace Go.Vw
open Go.Proofs Go.RowKit
set_option maxRecDepth 10000
set_option maxHeartbeats 2000000
def idxG {α ρ : Type} (p : α → ρ → Bool) (nx : α → ρ → α) : α → List ρ → Nat → Int × α
 | a, [], _ => (-1, a)
 | a, r :: rs, k => if p a r then ((k : Int), nx a r) else idxG p nx (nx a r) rs (k + 1)
def delG {α ρ : Type} (p : α → ρ → Bool) (nx : α → ρ → α) : α → List ρ → List ρ × α
 | a, [] => ([], a)
 | a, r :: rs => if p a r then delG p nx (nx a r) rs else (r :: (delG p nx (nx a r) rs).1, (delG p nx (nx a r) rs).2)
theorem idxG_del {α ρ : Type} (p : α → ρ → Bool) (nx : α → ρ → α) : ∀ (rs : List ρ) (a : α) (k : Nat), ((idxG p nx a rs k).1 = -1 ∧ delG p nx a rs = (rs, (idxG p nx a rs k).2)) ∨ ∃ i : Nat, i < rs.length ∧ (idxG p nx a rs k).1 = (k + i : Nat) ∧ delG p nx a rs = (rs.take i ++ (delG p nx (idxG p nx a rs k).2 (rs.drop (i + 1))).1, (delG p nx (idxG p nx a rs k).2 (rs.drop (i + 1))).2)
 | [], a, k => .inl ⟨rfl, rfl⟩
 | r :: rs, a, k => by
  by_cases h : p a r = true
  ·refine .inr ⟨0, by simp, ?_, ?_⟩
   ·simp [idxG, h]
   ·simp [delG, idxG, h]
  ·have e1 : idxG p nx a (r :: rs) k = idxG p nx (nx a r) rs (k + 1) := by simp [idxG, h]
   have e2 : delG p nx a (r :: rs) = (r :: (delG p nx (nx a r) rs).1, (delG p nx (nx a r) rs).2) := by simp [delG, h]
   rcases idxG_del p nx rs (nx a r) (k + 1) with ⟨h1, h2⟩ | ⟨i, hi, h1, h2⟩
   ·exact .inl ⟨by rw [e1, h1], by rw [e2, h2, e1]⟩
   ·refine .inr ⟨i + 1, by simp; omega, by rw [e1, h1]; congr 1; omega, ?_⟩
    rw [e2, e1, h2]
    simp
theorem flat_length {m : Nat} : ∀ {rows : List (List V)}, (∀ r ∈ rows, r.length = m) → rows.flatten.length = rows.length * m
 | [], _ => by simp
 | r :: rs, h => by rw [List.flatten_cons, List.length_append, h r (by simp), flat_length fun x hx => h x (by simp [hx]), List.length_cons, Nat.succ_mul]; omega
theorem flat_take {m : Nat} : ∀ {rows : List (List V)} (k : Nat), (∀ r ∈ rows, r.length = m) → rows.flatten.take (k * m) = (rows.take k).flatten
 | [], k, _ => by simp
 | r :: rs, 0, h => by simp
 | r :: rs, k + 1, h => by
  have hr := h r (by simp)
  rw [List.flatten_cons, List.take_succ_cons, List.flatten_cons, ← flat_take k fun x hx => h x (by simp [hx]), Nat.succ_mul, List.take_append, hr]
  rw [show k * m + m - m = k * m by omega, List.take_of_length_le (by rw [hr]; omega)]
theorem flat_drop {m : Nat} {rows : List (List V)} (k : Nat) (h : ∀ r ∈ rows, r.length = m) : rows.flatten.drop (k * m) = (rows.drop k).flatten := by
 have e := List.take_append_drop (k * m) rows.flatten
 have e2 : rows.flatten = (rows.take k).flatten ++ (rows.drop k).flatten := by rw [← List.flatten_append, List.take_append_drop]
 rw [flat_take k h] at e
 exact List.append_cancel_left (e.trans e2)
theorem flat_row {m : Nat} {rows : List (List V)} {k : Nat} (h : ∀ r ∈ rows, r.length = m) (hk : k < rows.length) : (rows.flatten.drop (k * m)).take m = rows[k] := by
 rw [flat_drop k h, List.drop_eq_getElem_cons hk, List.flatten_cons, List.take_append_of_le_length (by rw [h _ (List.getElem_mem hk)]; omega), List.take_of_length_le (by rw [h _ (List.getElem_mem hk)]; omega)]
theorem splice_len (cs : List V) (q : Nat) (xs : List V) (h : q + xs.length ≤ cs.length) : (splice cs q xs).length = cs.length := by
 simp only [splice, List.length_append, List.length_take, List.length_drop]; omega
theorem splice_take (cs : List V) (q : Nat) (xs : List V) (h : q + xs.length ≤ cs.length) : (splice cs q xs).take (q + xs.length) = cs.take q ++ xs := by
 rw [splice, List.take_append_of_le_length (by simp; omega), List.take_of_length_le (by simp; omega)]
theorem splice_take0 (cs : List V) (q : Nat) (xs : List V) (h : q ≤ cs.length) : (splice cs q xs).take q = cs.take q := by
 rw [splice, List.append_assoc, List.take_append_of_le_length (by simp; omega), List.take_take, Nat.min_self]
theorem splice_drop (cs : List V) (q r : Nat) (xs : List V) (h : q + xs.length ≤ cs.length) (hr : q + xs.length ≤ r) : (splice cs q xs).drop r = cs.drop r := by
 have h1 : (cs.take q).length = q := by rw [List.length_take]; omega
 rw [splice, List.drop_append, List.drop_eq_nil_of_le (by simp; omega), List.nil_append, List.drop_drop, List.length_append, h1]
 congr 1; omega
section
variable {α : Type} (I : α → Store → Prop) (p : α → List V → Bool) (nx : α → List V → α) {oc N : Nat} {rows : List (List V)} {fid : FuncId} {caps : List V}
theorem IndexDel_v (hc : callable Tryz.prog fid = true) (hr4 : ∀ r ∈ rows, r.length = 4) (hlim : rows.length < 2^62) (hN : oc < N)
  (hloc : ∀ a S S', (∀ o, o < N → o ≠ oc → S'.get o = S.get o) → I a S → I a S')
  (hdel : ∀ a S r, r ∈ rows → I a S → N ≤ S.nx → VCalls Tryz.prog fid (.agg r :: caps) S fun v T => v = .bool (p a r) ∧ I (nx a r) T ∧ S.nx ≤ T.nx ∧ ∀ o, o < S.nx → (N ≤ o ∨ o = oc) → T.get o = S.get o)
  {a : α} {S : Store} (hI : I a S) (hS : N ≤ S.nx) (hg : S.get oc = some (4, rows.flatten)) :
  VCalls Tryz.prog 69 [.slice oc 0 rows.length, .func fid caps] S fun v T => v = vint (idxG p nx a rows 0).1 ∧ I (idxG p nx a rows 0).2 T ∧ N ≤ T.nx ∧ T.get oc = some (4, rows.flatten) := by
 have b0 := fun u l => @St_old S u l oc (by omega)
 have hfl := flat_length hr4
 refine vcalls_start (c := bodyOf Tryz.f69) Tryz.func69 rfl rfl (by simp [Tryz.ntmps69]) ?_
 rw [Tryz.ntmps69]
 intro hwf
 repeat (first|refine QG ?_|refine QX (r:=by conv=>lhs;simp[-List.map_set,QV,b0,hg]) (k:=?_))
 repeat refine QS ?_
 refine vw_loopAt [0, 1, 7, 8] rfl (fun c σ S' => ∃ (b : α) (k : Nat), I b S' ∧ N ≤ S'.nx ∧ S'.get oc = some (4, rows.flatten) ∧ k ≤ rows.length ∧ c = rows.length - k ∧ idxG p nx b (rows.drop k) k = idxG p nx a rows 0 ∧ σ = [(0, .slice oc 0 rows.length), (1, .func fid caps), (7, vnat rows.length), (8, vnat k)]) rows.length ?_ ?_
 ·exact ⟨a, 0, by rw [St_nil hwf]; exact hI, by rw [St_nil hwf]; exact hS, by rw [St_nil hwf]; exact hg, by omega, rfl, rfl, by simp [Fr.only]⟩
 ·rintro c σ T ⟨b, k, hIb, hT, hgT, hk, rfl, hd, rfl⟩
  refine vw_wf fun hwT => vw_nil hwT ?_
  have bT := fun u l => @St_old T u l oc (by omega)
  by_cases hkt : k < rows.length
  ·have hst : idxG p nx b (rows.drop k) k = if p b rows[k] then ((k : Int), nx b rows[k]) else idxG p nx (nx b rows[k]) (rows.drop (k + 1)) (k + 1) := by rw [List.drop_eq_getElem_cons hkt, idxG]
   have hw := wrapNat hkt (by omega)
   have hrow := flat_row hr4 hkt
   have hle : k * 4 + 4 ≤ rows.length * 4 := by omega
   repeat (first|refine QG ?_|refine QX (r:=by conv=>lhs;simp[-List.map_set,QV,hkt,bT,hgT]) (k:=?_))
   repeat refine QS ?_
   refine QR (r:=by conv=>lhs;simp[-List.map_set,QV,hkt,bT,hgT,hfl,hle,hrow]) (k:=?_)
   refine vcallv_any rfl hc rfl (hdel b _ _ (List.getElem_mem hkt) (by rw [St_nil hwT]; exact hIb) (by rw [St_nil hwT]; exact hT)) ?_
   rintro X T2 ⟨rfl, hI2, hT2, hg2⟩
   rw [St_nil hwT] at hT2 hg2
   have hg3 := (hg2 oc (by omega) (.inr rfl)).trans hgT
   cases hp : p b rows[k] with
   | true =>
    rw [hp] at hst
    simp only [if_true] at hst
    rw [hst] at hd
    refine QM (by conv=>lhs;simp[-List.map_set,QV]) ?_
    refine QN ?_
    repeat (first|refine QG ?_|refine QX (r:=by conv=>lhs;simp[-List.map_set,QV]) (k:=?_))
    refine done_as ⟨?_, ?_, by omega, hg3⟩
    ·rw [← hd]; rfl
    ·rw [← hd]; exact hI2
   | false =>
    rw [hp] at hst
    simp only [Bool.false_eq_true, if_false] at hst
    refine QM (by conv=>lhs;simp[-List.map_set,QV]) ?_
    refine QN ?_
    repeat (first|refine QG ?_|refine QX (r:=by conv=>lhs;simp[-List.map_set,QV,hw]) (k:=?_))
    show Again _ _ _ _ _ _ _
    exact again ⟨Nat.sub_lt_sub_left hkt (Nat.lt_succ_self k), nx b rows[k], k + 1, hI2, by omega, hg3, hkt, rfl, by rw [← hd, hst], by simp [Fr.only, Fr.look]⟩
  ·have e : rows.drop k = [] := by rw [List.drop_eq_nil_iff]; omega
   rw [e] at hd
   simp only [idxG] at hd
   repeat (first|refine QG ?_|refine QX (r:=by conv=>lhs;simp[-List.map_set,QV,hkt]) (k:=?_))
   refine done_as ⟨?_, ?_, by rw [St_nil hwT]; exact hT, by rw [St_nil hwT]; exact hgT⟩
   ·rw [← hd]; rfl
   ·rw [← hd, St_nil hwT]; exact hIb
theorem Delete_v (hc : callable Tryz.prog fid = true) (hr4 : ∀ r ∈ rows, r.length = 4) (hlim : rows.length < 2^62) (hN : oc < N)
  (hloc : ∀ a S S', (∀ o, o < N → o ≠ oc → S'.get o = S.get o) → I a S → I a S')
  (hdel : ∀ a S r, r ∈ rows → I a S → N ≤ S.nx → VCalls Tryz.prog fid (.agg r :: caps) S fun v T => v = .bool (p a r) ∧ I (nx a r) T ∧ S.nx ≤ T.nx ∧ ∀ o, o < S.nx → (N ≤ o ∨ o = oc) → T.get o = S.get o)
  {a : α} {S : Store} (hI : I a S) (hS : N ≤ S.nx) (hg : S.get oc = some (4, rows.flatten)) :
  VCalls Tryz.prog 21 [.slice oc 0 rows.length, .func fid caps] S fun v T => v = .slice oc 0 (delG p nx a rows).1.length ∧ I (delG p nx a rows).2 T ∧ N ≤ T.nx ∧ T.get oc = some (4, (delG p nx a rows).1.flatten) := by
 have ci := IndexDel_v I p nx hc hr4 hlim hN hloc hdel hI hS hg
 have hfl := flat_length hr4
 refine vcalls_start (c := bodyOf Tryz.f21) Tryz.func21 rfl rfl (by simp [Tryz.ntmps21]) ?_
 rw [Tryz.ntmps21]
 intro hwf
 rw [← St_nil hwf] at ci
 repeat (first|refine QG ?_|refine QX (r:=by conv=>lhs;simp[-List.map_set,QV]) (k:=?_))
 repeat refine QS ?_
 refine QR (r:=by conv=>lhs;simp[-List.map_set,QV]) (k:=?_)
 refine vcall_any rfl ci ?_
 rintro X T ⟨rfl, hI2, hT2, hg2⟩
 rcases idxG_del p nx rows a 0 with ⟨h1, h2⟩ | ⟨i, hi, h1, h2⟩
 ·refine QM (by conv=>lhs;simp[-List.map_set,QV,h1]) ?_
  refine QN ?_
  repeat (first|refine QG ?_|refine QX (r:=by conv=>lhs;simp[-List.map_set,QV]) (k:=?_))
  refine done_as ⟨?_, ?_, hT2, ?_⟩
  ·rw [h2]; rfl
  ·rw [h2]; exact hI2
  ·rw [h2]; exact hg2
 rw [Nat.zero_add] at h1
 have hw := wrapNat hi (by omega)
 generalize hst : idxG p nx a rows 0 = st at *
 obtain ⟨z, b0⟩ := st
 simp only at h1 h2 hI2
 subst h1
 have hi1 : ¬ ((i : Int) = -1) := by omega
 refine QM (by conv=>lhs;simp[-List.map_set,QV]) ?_
 refine QN ?_
 repeat (first|refine QG ?_|refine QX (r:=by conv=>lhs;simp[-List.map_set,QV,hi1,hw]) (k:=?_))
 repeat refine QS ?_
 refine vw_loopAt [0, 1, 5, 6] rfl (fun c σ S' => ∃ (b : α) (K : List (List V)) (j : Nat) (cells : List V), I b S' ∧ N ≤ S'.nx ∧ S'.get oc = some (4, cells) ∧ cells.length = rows.length * 4 ∧ cells.take (K.length * 4) = K.flatten ∧ cells.drop (j * 4) = (rows.drop j).flatten ∧ K.length < j ∧ j ≤ rows.length ∧ c = rows.length - j ∧ (K ++ (delG p nx b (rows.drop j)).1, (delG p nx b (rows.drop j)).2) = delG p nx a rows ∧ σ = [(0, .slice oc 0 rows.length), (1, .func fid caps), (5, vnat K.length), (6, vnat j)]) (rows.length - (i + 1)) ?_ ?_
 ·refine ⟨b0, rows.take i, i + 1, rows.flatten, hI2, hT2, hg2, hfl, ?_, flat_drop _ hr4, by simp; omega, by omega, rfl, h2.symm, ?_⟩
  ·rw [List.length_take, Nat.min_eq_left (by omega)]; exact flat_take i hr4
  ·simp [Fr.only, Fr.look, Nat.min_eq_left (Nat.le_of_lt hi)]
 ·rintro c σ T3 ⟨b, K, j, cells, hI3, hT3, hg3, hcl, hck, hcd, hKj, hj, rfl, hd, rfl⟩
  refine vw_wf fun hwT => vw_nil hwT ?_
  have bT := fun u l => @St_old T3 u l oc (by omega)
  by_cases hjt : j < rows.length
  ·have hw2 := wrapNat hjt (by omega)
   have hKw := wrapNat (k := K.length) (n := rows.length) (by omega) (by omega)
   have hr := List.drop_eq_getElem_cons hjt
   obtain ⟨x0, x1, x2, x3, hx⟩ : ∃ x0 x1 x2 x3, rows[j] = [x0, x1, x2, x3] := by
    have := hr4 _ (List.getElem_mem hjt)
    match rows[j], this with
    | [x0, x1, x2, x3], _ => exact ⟨x0, x1, x2, x3, rfl⟩
   have hrow : (cells.drop (j * 4)).take 4 = [x0, x1, x2, x3] := by rw [hcd, hr, List.flatten_cons, hx]; rfl
   have hle : j * 4 + 4 ≤ rows.length * 4 := by omega
   repeat (first|refine QG ?_|refine QX (r:=by conv=>lhs;simp[-List.map_set,QV,hjt,bT,hg3,hcl,hle,hrow]) (k:=?_))
   have hI3' : I b (St T3 [] [some (4, [x0, x1, x2, x3])]) := hloc b T3 _ (fun o ho _ => by rw [St_old (by omega)]; rfl) hI3
   have hmem : [x0, x1, x2, x3] ∈ rows := hx ▸ List.getElem_mem hjt
   have hst : delG p nx b (rows.drop j) = if p b [x0, x1, x2, x3] then delG p nx (nx b [x0, x1, x2, x3]) (rows.drop (j + 1)) else ([x0, x1, x2, x3] :: (delG p nx (nx b [x0, x1, x2, x3]) (rows.drop (j + 1))).1, (delG p nx (nx b [x0, x1, x2, x3]) (rows.drop (j + 1))).2) := by rw [hr, delG, hx]
   have hcd2 : cells.drop ((j + 1) * 4) = (rows.drop (j + 1)).flatten := by
    rw [show (j + 1) * 4 = j * 4 + 4 by omega, ← List.drop_drop, hcd, hr, List.flatten_cons, hx]; rfl
   repeat refine QS ?_
   refine QR (r:=by conv=>lhs;simp[-List.map_set,QV]) (k:=?_)
   refine vcallv_any rfl hc rfl (hdel b _ _ hmem hI3' (by rw [St_nx, lid]; omega)) ?_
   rintro X T4 ⟨rfl, hI4, hT4, hg4⟩
   rw [St_nx] at hT4 hg4
   have hg5 := (hg4 oc (by simp only [lid]; omega) (.inr rfl)).trans ((bT [] _).trans hg3)
   have hg6 := (hg4 (lid T3.nx 0) (by simp [lid]) (.inl (by simp only [lid]; omega))).trans (St_get)
   simp only [List.getElem?_cons_zero, Option.join_some] at hg6
   have hle4 : T3.nx + 1 ≤ T4.nx := by simpa [lid] using hT4
   have b1 := fun u l => @St_old T4 u l oc (by omega)
   have b2 := fun u l => @St_old T4 u l (lid T3.nx 0) (by simp only [lid]; omega)
   generalize lid T3.nx 0 = q4 at *
   cases hp : p b [x0, x1, x2, x3] with
   | true =>
    rw [hp] at hst
    simp only [if_true] at hst
    refine QM (by conv=>lhs;simp[-List.map_set,QV]) ?_
    refine QN ?_
    repeat (first|refine QG ?_|refine QX (r:=by conv=>lhs;simp[-List.map_set,QV,hw2]) (k:=?_))
    show Again _ _ _ _ _ _ _
    exact again ⟨Nat.sub_lt_sub_left hjt (Nat.lt_succ_self j), nx b [x0, x1, x2, x3], K, j + 1, cells, hI4, by omega, hg5, hcl, hck, hcd2, by omega, hjt, rfl, by rw [← hd, hst], by simp [Fr.only, Fr.look]⟩
   | false =>
    rw [hp] at hst
    simp only [Bool.false_eq_true, if_false] at hst
    refine QM (by conv=>lhs;simp[-List.map_set,QV]) ?_
    refine QN ?_
    refine vw_wf fun hw4 => vw_nil hw4 ?_
    have hle5 : K.length * 4 + 4 ≤ rows.length * 4 := by omega
    have hlt5 : K.length < rows.length := by omega
    repeat (first|refine QG ?_|refine QX (r:=by conv=>lhs;simp[-List.map_set,QV,b1,b2,hg5,hg6,hcl,hle5,hlt5,hw2,hKw]) (k:=?_))
    have hsl : K.length * 4 + [x0, x1, x2, x3].length ≤ cells.length := by simp only [List.length_cons, List.length_nil]; omega
    have hne : (St T4 [] []).upd oc (4, List.take (K.length * 4) cells ++ x0 :: x1 :: x2 :: x3 :: List.drop (K.length * 4 + 4) cells) = T4.upd oc (4, splice cells (K.length * 4) [x0, x1, x2, x3]) := by rw [St_nil hw4]; simp [splice]
    show Again _ _ _ _ _ _ _
    refine again ⟨Nat.sub_lt_sub_left hjt (Nat.lt_succ_self j), nx b [x0, x1, x2, x3], K ++ [[x0, x1, x2, x3]], j + 1, splice cells (K.length * 4) [x0, x1, x2, x3], hloc _ T4 _ (fun o _ ho => ?_) hI4, ?_, ?_, by rw [splice_len _ _ _ hsl]; exact hcl, ?_, ?_, by simp; omega, hjt, rfl, by rw [← hd, hst]; simp, by simp [Fr.only, Fr.look]⟩
    ·rw [hne, upd_old ho]
    ·rw [hne]; show N ≤ T4.nx; omega
    ·rw [hne, upd_new]
    ·have := splice_take cells (K.length * 4) [x0, x1, x2, x3] hsl
     rw [hck] at this
     rw [List.length_append, List.length_singleton, Nat.succ_mul, List.flatten_append]
     simpa using this
    ·rw [splice_drop _ _ _ _ hsl (by simp only [List.length_cons, List.length_nil]; omega)]; exact hcd2
  ·have hje : j = rows.length := by omega
   subst hje
   have e : rows.drop rows.length = [] := by simp
   rw [e] at hd
   simp only [delG, List.append_nil] at hd
   have hKl : K.length ≤ rows.length := by omega
   have hcl2 : K.length * 4 + (rows.length - K.length) * 4 ≤ rows.length * 4 := by omega
   have hclr : opClear 4 [V.int .i64 0, .int .u64 0, .nils, .nils] (St T3 [] []) (.slice oc (K.length * 4) (rows.length - K.length)) = some ((St T3 [] []).upd oc (4, splice cells (K.length * 4) (rep0 [V.int .i64 0, .int .u64 0, .nils, .nils] (rows.length - K.length)))) := by
    have hle : K.length * 4 + (rows.length - K.length) * 4 ≤ cells.length := by rw [hcl]; exact hcl2
    simp only [opClear, bT, uGet, hg3, hle, if_true]
   generalize hcz : splice cells (K.length * 4) (rep0 [V.int .i64 0, .int .u64 0, .nils, .nils] (rows.length - K.length)) = cz at hclr
   have hct : cz.take (K.length * 4) = K.flatten := by rw [← hcz, splice_take0 _ _ _ (by omega), hck]
   repeat (first|refine QG ?_|refine QX (r:=by conv=>lhs;simp[-List.map_set,QV,hjt,bT,hg3]) (k:=?_))
   repeat refine QS ?_
   refine QR (r:=by conv=>lhs;simp[-List.map_set,QV,bT,hg3,hKl,hclr]) (k:=?_)
   refine QN ?_
   have hgu : ((St T3 [] []).upd oc (4, cz)).get oc = some (4, cz) := upd_new
   apply vw_reach
   ·exact Reach.trim 0 rfl hgu (K.length * 4)
   simp only [hct]
   have hT5 : ((St T3 [] []).upd oc (4, cz)).upd oc (4, K.flatten) = T3.upd oc (4, K.flatten) := by
    rw [St_nil hwT]
    refine Store.ext' (funext fun o => ?_) rfl
    simp only [upd_at]
    split <;> rfl
   rw [hT5]
   refine vw_wf fun hw5 => vw_nil hw5 ?_
   have b5 := fun u l => @St_old (T3.upd oc (4, K.flatten)) u l oc (by show oc < T3.nx; omega)
   have hg5 : (T3.upd oc (4, K.flatten)).get oc = some (4, K.flatten) := upd_new
   repeat (first|refine QG ?_|refine QX (r:=by conv=>lhs;simp[-List.map_set,QV,b5,hg5,hKl]) (k:=?_))
   rw [St_nil hw5]
   refine done_as ⟨?_, ?_, hT3, ?_⟩
   ·rw [← hd]; rfl
   ·rw [← hd]; exact hloc _ T3 _ (fun o _ ho => upd_old ho) hI3
   ·rw [← hd]; exact hg5
end
end Go.Vw

namespace Go.Vw
open Go.Proofs Go.RowKit
set_option maxRecDepth 10000
inductive Rows {α : Type} (T : Store) (tys : List Ty) (enc : α → V) : List α → List (List V) → List Nat → Prop
 | nil : Rows T tys enc [] [] []
 | cons {x : α} {r : List V} {ii : List Nat} {xs : List α} {rs : List (List V)} {ids : List Nat} (h : OwL T tys r (enc x).cells ii) (t : Rows T tys enc xs rs ids) : Rows T tys enc (x :: xs) (r :: rs) (ii ++ ids)
section
variable {α : Type} {T T' : Store} {tys : List Ty} {enc : α → V}
theorem rows_of (hs : ∀ x, (enc x).cells.length = tys.length) : ∀ {xs : List α} {cells : List V} {ids : List Nat}, OwL T (reps xs.length tys) cells (flatC enc xs) ids → ∃ rs, cells = rs.flatten ∧ rs.length = xs.length ∧ Rows T tys enc xs rs ids
 | [], cells, ids, h => by
  rw [List.length_nil, reps_zero] at h
  cases h with
  | nil => exact ⟨[], rfl, rfl, .nil⟩
 | x :: xs, cells, ids, h => by
  rw [List.length_cons, reps_succ] at h
  obtain ⟨r1, r2, x1, x2, i1, i2, rfl, hx, rfl, k1, k2⟩ := h.split
  have e : flatC enc (x :: xs) = (enc x).cells ++ flatC enc xs := by simp [flatC]
  rw [e] at hx
  obtain ⟨rfl, rfl⟩ := List.append_inj hx (by rw [hs, k1.len.2])
  obtain ⟨rs, rfl, hl, hr⟩ := rows_of hs k2
  exact ⟨r1 :: rs, rfl, by simp [hl], .cons k1 hr⟩
theorem Rows.owl {xs : List α} {rs : List (List V)} {ids : List Nat} (h : Rows T tys enc xs rs ids) : OwL T (reps xs.length tys) rs.flatten (flatC enc xs) ids := by
 induction h with
 | nil => exact .nil
 | @cons x r ii xs rs ids h t ih =>
  have e : flatC enc (x :: xs) = (enc x).cells ++ flatC enc xs := by simp [flatC]
  rw [List.length_cons, reps_succ, List.flatten_cons, e]
  exact h.append ih
theorem Rows.mono {xs : List α} {rs : List (List V)} {ids : List Nat} (h : Rows T tys enc xs rs ids) : (∀ o ∈ ids, T'.get o = T.get o) → Rows T' tys enc xs rs ids := by
 induction h with
 | nil => exact fun _ => .nil
 | cons h t ih => exact fun hk => .cons (h.mono fun o ho => hk o (by simp [ho])) (ih fun o ho => hk o (by simp [ho]))
theorem Rows.len {xs : List α} {rs : List (List V)} {ids : List Nat} (h : Rows T tys enc xs rs ids) : rs.length = xs.length ∧ ∀ r ∈ rs, r.length = tys.length := by
 induction h with
 | nil => simp
 | cons h t ih => exact ⟨by simp [ih.1], fun r hr => by rcases List.mem_cons.1 hr with rfl | hr; exact h.len.1; exact ih.2 r hr⟩
theorem Rows.del {κ : Type} (p : κ → List V → Bool) (nx : κ → List V → κ) (q : κ → α → Bool) (ny : κ → α → κ) {xs : List α} {rs : List (List V)} {ids : List Nat} (h : Rows T tys enc xs rs ids) :
  (∀ x r ii, x ∈ xs → OwL T tys r (enc x).cells ii → (∀ o ∈ ii, o ∈ ids) → ∀ a, p a r = q a x ∧ nx a r = ny a x) → ∀ a, ∃ ids', Rows T tys enc (delG q ny a xs).1 (delG p nx a rs).1 ids' ∧ ids'.Sublist ids ∧ (delG p nx a rs).2 = (delG q ny a xs).2 := by
 induction h with
 | nil => exact fun _ a => ⟨[], .nil, List.Sublist.refl _, rfl⟩
 | @cons x r ii xs rs ids h t ih =>
  intro hk a
  obtain ⟨h1, h2⟩ := hk x r ii (by simp) h (fun o ho => by simp [ho]) a
  obtain ⟨ids', k1, k2, k3⟩ := ih (fun y s jj hy ho hs => hk y s jj (by simp [hy]) ho fun o h => by simp [hs o h]) (ny a x)
  simp only [delG, h1, h2]
  by_cases hq : q a x = true
  ·rw [if_pos hq, if_pos hq]
   exact ⟨ids', k1, k2.trans (List.sublist_append_right _ _), k3⟩
  ·rw [if_neg hq, if_neg hq]
   exact ⟨ii ++ ids', .cons h k1, (List.Sublist.refl ii).append k2, k3⟩
end
theorem Rows.at {α : Type} {T : Store} {tys : List Ty} {enc : α → V} {xs : List α} {rs : List (List V)} {ids : List Nat} (h : Rows T tys enc xs rs ids) : ∀ {k : Nat} {x : α}, xs[k]? = some x → ∃ (r1 : List (List V)) (r : List V) (r2 : List (List V)) (i1 ii i2 : List Nat), rs = r1 ++ r :: r2 ∧ r1.length = k ∧ ids = i1 ++ (ii ++ i2) ∧ OwL T tys r (enc x).cells ii ∧
  ∀ (T' : Store) (r' : List V) (x' : α) (ii' : List Nat), (∀ o ∈ i1 ++ i2, T'.get o = T.get o) → OwL T' tys r' (enc x').cells ii' → Rows T' tys enc (xs.set k x') (r1 ++ r' :: r2) (i1 ++ (ii' ++ i2)) := by
 induction h with
 | nil => intro k x hx; simp at hx
 | @cons y r ii xs rs ids h t ih =>
  intro k x hx
  cases k with
  | zero =>
   simp only [List.getElem?_cons_zero, Option.some.injEq] at hx
   subst hx
   exact ⟨[], r, rs, [], ii, ids, rfl, rfl, rfl, h, fun T' r' x' ii' hk ho => Rows.cons (ids := ids) ho (t.mono fun o hm => hk o (by simpa using hm))⟩
  | succ k =>
   obtain ⟨r1, s, r2, i1, jj, i2, e1, e2, e3, e4, e5⟩ := ih (k := k) (x := x) (by simpa using hx)
   subst e1; subst e3
   refine ⟨r :: r1, s, r2, ii ++ i1, jj, i2, rfl, by simp [e2], by simp, e4, fun T' r' x' ii' hk ho => ?_⟩
   have := Rows.cons (x := y) (h.mono fun o hm => hk o (by simp [hm])) (e5 T' r' x' ii' (fun o hm => hk o (by
    rcases List.mem_append.1 hm with hm | hm <;> simp [hm])) ho)
   simpa using this
theorem flat_mid {m : Nat} {r1 : List (List V)} {r : List V} {r2 : List (List V)} {k q : Nat} {w : V} (h1 : ∀ s ∈ r1, s.length = m) (hk : r1.length = k) (hr : r[q]? = some w) : (r1 ++ r :: r2).flatten[k * m + q]? = some w := by
 have hq : q < r.length := (List.getElem?_eq_some_iff.1 hr).1
 have hl := flat_length h1
 rw [hk] at hl
 rw [List.flatten_append, List.flatten_cons, ← hl, List.getElem?_append_right (by omega), Nat.add_sub_cancel_left, List.getElem?_append_left hq]
 exact hr
theorem flat_set {m : Nat} {r1 : List (List V)} {r : List V} {r2 : List (List V)} {k q : Nat} {w : V} (h1 : ∀ s ∈ r1, s.length = m) (hk : r1.length = k) (hq : q < r.length) : (r1 ++ r :: r2).flatten.set (k * m + q) w = (r1 ++ r.set q w :: r2).flatten := by
 have hl := flat_length h1
 rw [hk] at hl
 rw [List.flatten_append, List.flatten_cons, ← hl, List.set_append_right _ _ (by omega), Nat.add_sub_cancel_left, List.set_append_left _ _ hq, List.flatten_append, List.flatten_cons]
theorem ins_row {T : Store} {x : Ss.Ins} {r : List V} {ii : List Nat} (h : OwL T insD r (encIns x).cells ii) : ∃ oa ou, r = [vint x.op, vu x.n, .slice oa 0 x.args.length, .slice ou 0 x.outs.length] ∧ ii = [oa, ou] ∧ T.get oa = some (1, x.args.map vint) ∧ T.get ou = some (1, x.outs.map vint) := by
 rw [encIns_cells] at h
 generalize hA : vl vint x.args = A at h
 generalize hB : vl vint x.outs = B at h
 cases h with
 | c h1 h => cases h with
  | c h2 h => cases h with
   | @s _ _ _ _ ca ys i j oa ho hs d h => cases h with
    | @s _ _ _ _ cb zs i2 j2 ou ho2 hs2 d2 h => cases h with
     | nil =>
      have e1 : ys = x.args.map vint := by
       have : V.list (x.args.map vint) = V.list ys := hA
       exact (V.list.inj this).symm
      have e2 : zs = x.outs.map vint := by
       have : V.list (x.outs.map vint) = V.list zs := hB
       exact (V.list.inj this).symm
      subst e1; subst e2
      have c1 := own_closed (n := (x.args.map vint).length * 1) (by rw [← reps_c]; exact d)
      have c2 := own_closed (n := (x.outs.map vint).length * 1) (by rw [← reps_c]; exact d2)
      rw [flatC_map, flatC_vint] at c1 c2
      refine ⟨oa, ou, by simp, ?_, ?_, ?_⟩
      ·rw [c1.2, c2.2]; rfl
      ·rw [ho, c1.1]; rfl
      ·rw [ho2, c2.1]; rfl
theorem block_row {T : Store} {b : Ss.Block} {r : List V} {ii : List Nat} (h : OwL T blkD r (encBlock b).cells ii) : ∃ (op oc oe : Nat) (rs : List (List V)) (ce : List V) (ip ic ie : List Nat), r = [.slice op 0 b.params.length, .slice oc 0 b.code.length, vint b.term.kind, vint b.term.arg, .slice oe 0 b.term.to.length, vl vint b.term.args] ∧ ii = op :: oc :: (ic ++ oe :: ie) ∧
  T.get op = some (1, b.params.map vint) ∧ T.get oc = some (4, rs.flatten) ∧ Rows T insD encIns b.code rs ic ∧ T.get oe = some (2, ce) ∧ OwL T (reps b.term.to.length edgeD) ce (flatC encEdge b.term.to) ie := by
 rw [encBlock_cells] at h
 generalize hA : vl vint b.params = A at h
 generalize hB : vl encIns b.code = B at h
 generalize hC : vl encEdge b.term.to = C at h
 cases h with
 | @s _ _ _ _ ca ys i j op ho hs d h => cases h with
  | @s _ _ _ _ cb zs i2 j2 oc ho2 hs2 d2 h => cases h with
   | c h1 h => cases h with
    | c h2 h => cases h with
     | @s _ _ _ _ cc us i3 j3 oe ho3 hs3 d3 h => cases h with
      | c h3 h => cases h with
       | nil =>
        have e1 : ys = b.params.map vint := by
         have : V.list (b.params.map vint) = V.list ys := hA
         exact (V.list.inj this).symm
        have e2 : zs = b.code.map encIns := by
         have : V.list (b.code.map encIns) = V.list zs := hB
         exact (V.list.inj this).symm
        have e3 : us = b.term.to.map encEdge := by
         have : V.list (b.term.to.map encEdge) = V.list us := hC
         exact (V.list.inj this).symm
        subst e1; subst e2; subst e3
        have c1 := own_closed (n := (b.params.map vint).length * 1) (by rw [← reps_c]; exact d)
        rw [flatC_map, flatC_vint] at c1
        rw [List.length_map, flatC_map] at d2 d3
        obtain ⟨rs, rfl, hl, hr⟩ := rows_of (fun x => by rw [encIns_cells]; rfl) d2
        refine ⟨op, oc, oe, rs, cc, [], i2, i3, by simp, ?_, ?_, ho2, hr, ho3, d3⟩
        ·rw [c1.2]; simp
        ·rw [ho, c1.1]; rfl
theorem block_mk {T : Store} {b : Ss.Block} {op oc oe : Nat} {rs : List (List V)} {ce : List V} {ic ie : List Nat} (h1 : T.get op = some (1, b.params.map vint)) (h2 : T.get oc = some (4, rs.flatten)) (h3 : Rows T insD encIns b.code rs ic) (h4 : T.get oe = some (2, ce)) (h5 : OwL T (reps b.term.to.length edgeD) ce (flatC encEdge b.term.to) ie) :
  OwL T blkD [.slice op 0 b.params.length, .slice oc 0 b.code.length, vint b.term.kind, vint b.term.arg, .slice oe 0 b.term.to.length, vl vint b.term.args] (encBlock b).cells (op :: oc :: (ic ++ oe :: ie)) := by
 rw [encBlock_cells]
 have hP : OwL T (.s [.c] :: [.s insD, .c, .c, .s edgeD, .c]) (.slice op 0 b.params.length :: [.slice oc 0 b.code.length, vint b.term.kind, vint b.term.arg, .slice oe 0 b.term.to.length, vl vint b.term.args]) (vl vint b.params :: [vl encIns b.code, vint b.term.kind, vint b.term.arg, vl encEdge b.term.to, vl vint b.term.args]) (op :: oc :: (ic ++ oe :: ie)) := by
  refine OwL.slice (s := 1) (enc := vint) (fun _ => rfl) (fun _ => rfl) b.params (by rw [flatC_vint]; exact h1) ?_
  have h6 := h3.owl
  have t1 : OwL T [.s edgeD, .c] [.slice oe 0 b.term.to.length, vl vint b.term.args] [vl encEdge b.term.to, vl vint b.term.args] (oe :: ie) := by
   have := OwL.s (S := T) (o := oe) (tys := edgeD) (cells := ce) (ys := b.term.to.map encEdge) (i := ie) (j := []) h4 (fun y hy => (by
    obtain ⟨e, _, rfl⟩ := List.mem_map.1 hy
    exact ⟨by rw [encEdge_cells]; rfl, encEdge_closed e⟩)) (by rw [List.length_map, flatC_map]; exact h5) (.c (x := vl vint b.term.args) rfl .nil)
   rw [List.length_map, List.append_nil] at this
   exact this
  have := OwL.s (S := T) (o := oc) (tys := insD) (cells := rs.flatten) (ys := b.code.map encIns) (i := ic) (j := oe :: ie) h2 (fun y hy => (by
   obtain ⟨e, _, rfl⟩ := List.mem_map.1 hy
   exact ⟨by rw [encIns_cells]; rfl, encIns_closed e⟩)) (by rw [List.length_map, flatC_map]; exact h6) (.c (x := vint b.term.kind) rfl (.c (x := vint b.term.arg) rfl t1))
  rw [List.length_map] at this
  exact this
 exact hP
end Go.Vw
