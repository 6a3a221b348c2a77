import Derived.Test.YtmfpoangempgaaaGreatC16
import Derived.Test.YtmfpoangempgaaaGreatC17
/-
  Part of the proof (texts CNum, CMem).
-/
set_option linter.unusedVariables false
set_option linter.unusedSimpArgs false
namespace Ss
def rin (op a b : Int) : Bool := decide (a ≤ op) && decide (op ≤ b)
def rof (op : Int) : Int :=
  if rin op 69 79 ∨ rin op 103 120 ∨ op = 172 ∨ op = 173 ∨ op = 192 ∨ op = 193 then 127
  else if rin op 80 90 ∨ rin op 121 138 ∨ op = 167 ∨ rin op 194 196 then 126 else 0
def runary (op : Int) : Bool := decide (op = 69) || (decide (op = 80) || (rin op 103 105 || (rin op 121 123 || decide (167 ≤ op))))
def rsigT (op : Int) : Int := if op = 172 ∨ op = 173 then 126 else if rin op 69 90 ∨ op = 167 then 127 else rof op
def rsig (op : Int) : List Int × Int × Bool :=
  if rof op = 0 then ([], 0, false) else (if runary op then [rof op] else [rof op, rof op], rsigT op, true)
theorem rsig_small : ∀ n : Nat, n < 256 → rsig (n : Int) = numSig (n : Int) := by decide +kernel
theorem rsig_eq (op : Int) : rsig op = numSig op := by
  by_cases h : 0 ≤ op ∧ op < 256
  · obtain ⟨n, rfl⟩ := Int.eq_ofNat_of_zero_le h.1
    exact rsig_small n (by have := h.2; omega)
  · have h1 : rof op = 0 := by
      unfold rof
      rw [if_neg (by simp only [rin, Bool.and_eq_true, decide_eq_true_eq]; omega), if_neg (by simp only [rin, Bool.and_eq_true, decide_eq_true_eq]; omega)]
    have h2 : find op = none := by
      cases hf : find op with
      | none => rfl
      | some g =>
        exfalso
        obtain ⟨hm, hh⟩ := findIn_mem hf
        have ha : ∀ g ∈ groups, 0 ≤ g.first ∧ g.first + g.many ≤ 256 := by decide +kernel
        have := ha g hm
        simp only [Grp.has, Bool.and_eq_true, decide_eq_true_eq] at hh
        omega
    simp [rsig, h1, numSig, h2]
end Ss
namespace Go.Vw
open Go.Proofs Go.RowKit
set_option maxRecDepth 10000
set_option maxHeartbeats 2000000

theorem in_v (op a b : Int) : VPure Tryz.prog 100 [vint op, vint a, vint b] (.bool (Ss.rin op a b)) := by
  intro S
  by_cases h : a ≤ op
  · have hX : Ss.rin op a b = decide (op ≤ b) := by simp [Ss.rin, h]
    rw [hX]
    refine vcalls_start (c := bodyOf Tryz.f100) Tryz.func100 rfl rfl (by simp [Tryz.ntmps100]) ?_
    rw [Tryz.ntmps100]
    intro hwf
    repeat (first|refine QG ?_|refine QX (r:=by conv=>lhs;simp[-List.map_set,QV,h]) (k:=?_))
    exact done_pure hwf (by simp) rfl
  · have hX : Ss.rin op a b = false := by simp [Ss.rin, h]
    rw [hX]
    refine vcalls_start (c := bodyOf Tryz.f100) Tryz.func100 rfl rfl (by simp [Tryz.ntmps100]) ?_
    rw [Tryz.ntmps100]
    intro hwf
    repeat (first|refine QG ?_|refine QX (r:=by conv=>lhs;simp[-List.map_set,QV,h]) (k:=?_))
    exact done_pure hwf (by simp) rfl
theorem Fits_v (t n : Int) : VPure Tryz.prog 83 [vint t, vu n] (.bool (decide (t = 126) || (decide (t = 127) && decide (n < 4294967296)))) := by
  intro S
  refine vcalls_start (c := bodyOf Tryz.f83) Tryz.func83 rfl rfl (by simp [Tryz.ntmps83]) ?_
  rw [Tryz.ntmps83]
  intro hwf
  by_cases h : t = 126
  · repeat (first|refine QG ?_|refine QX (r:=by conv=>lhs;simp[-List.map_set,QV,h]) (k:=?_))
    exact done_pure hwf (by simp [h]) rfl
  by_cases h2 : t = 127
  · repeat (first|refine QG ?_|refine QX (r:=by conv=>lhs;simp[-List.map_set,QV,h,h2]) (k:=?_))
    exact done_pure hwf (by simp [h, h2]) rfl
  · repeat (first|refine QG ?_|refine QX (r:=by conv=>lhs;simp[-List.map_set,QV,h,h2]) (k:=?_))
    exact done_pure hwf (by simp [h, h2]) rfl
theorem Of_v (op : Int) : VPure Tryz.prog 98 [vint op] (vint (Ss.rof op)) := by
  intro S
  have c1 : VPure Tryz.prog 100 [vint op, .int .i64 69, .int .i64 79] (.bool (Ss.rin op 69 79)) := in_v op 69 79
  have c2 : VPure Tryz.prog 100 [vint op, .int .i64 103, .int .i64 120] (.bool (Ss.rin op 103 120)) := in_v op 103 120
  have c3 : VPure Tryz.prog 100 [vint op, .int .i64 80, .int .i64 90] (.bool (Ss.rin op 80 90)) := in_v op 80 90
  have c4 : VPure Tryz.prog 100 [vint op, .int .i64 121, .int .i64 138] (.bool (Ss.rin op 121 138)) := in_v op 121 138
  have c5 : VPure Tryz.prog 100 [vint op, .int .i64 194, .int .i64 196] (.bool (Ss.rin op 194 196)) := in_v op 194 196
  have hX : Ss.rof op = if Ss.rin op 69 79 ∨ Ss.rin op 103 120 ∨ op = 172 ∨ op = 173 ∨ op = 192 ∨ op = 193 then 127
    else if Ss.rin op 80 90 ∨ Ss.rin op 121 138 ∨ op = 167 ∨ Ss.rin op 194 196 then 126 else 0 := rfl
  rw [hX]
  generalize Ss.rin op 69 79 = x1 at *
  generalize Ss.rin op 103 120 = x2 at *
  generalize Ss.rin op 80 90 = x3 at *
  generalize Ss.rin op 121 138 = x4 at *
  generalize Ss.rin op 194 196 = x5 at *
  clear hX
  refine vcalls_start (c := bodyOf Tryz.f98) Tryz.func98 rfl rfl (by simp [Tryz.ntmps98]) ?_
  rw [Tryz.ntmps98]
  intro hwf
  repeat (first|refine QG ?_|refine QX (r:=by conv=>lhs;simp[-List.map_set,QV]) (k:=?_))
  repeat refine QS ?_
  refine QR (r:=by conv=>lhs;simp[-List.map_set,QV]) (k:=?_)
  refine vcall_useH (c1) (by rfl) ?_
  by_cases h1 : x1 = true
  · refine QM (by conv=>lhs;simp[-List.map_set,QV,h1]) ?_
    refine QN ?_
    repeat (first|refine QG ?_|refine QX (r:=by conv=>lhs;simp[-List.map_set,QV]) (k:=?_))
    exact done_pure hwf (by simp [h1]) rfl
  have g1 : x1 = false := by simpa using h1
  refine QM (by conv=>lhs;simp[-List.map_set,QV,g1]) ?_
  refine vcall_useH (c2) (by rfl) ?_
  by_cases h2 : x2 = true
  · refine QM (by conv=>lhs;simp[-List.map_set,QV,h2]) ?_
    refine QN ?_
    repeat (first|refine QG ?_|refine QX (r:=by conv=>lhs;simp[-List.map_set,QV]) (k:=?_))
    exact done_pure hwf (by simp [h2]) rfl
  have g2 : x2 = false := by simpa using h2
  by_cases k1 : op = 172
  · refine QM (by conv=>lhs;simp[-List.map_set,QV,g2,k1]) ?_
    refine QN ?_
    repeat (first|refine QG ?_|refine QX (r:=by conv=>lhs;simp[-List.map_set,QV]) (k:=?_))
    exact done_pure hwf (by simp [k1]) rfl
  by_cases k2 : op = 173
  · refine QM (by conv=>lhs;simp[-List.map_set,QV,g2,k1,k2]) ?_
    refine QN ?_
    repeat (first|refine QG ?_|refine QX (r:=by conv=>lhs;simp[-List.map_set,QV]) (k:=?_))
    exact done_pure hwf (by simp [k2]) rfl
  by_cases k3 : op = 192
  · refine QM (by conv=>lhs;simp[-List.map_set,QV,g2,k1,k2,k3]) ?_
    refine QN ?_
    repeat (first|refine QG ?_|refine QX (r:=by conv=>lhs;simp[-List.map_set,QV]) (k:=?_))
    exact done_pure hwf (by simp [k3]) rfl
  by_cases k4 : op = 193
  · refine QM (by conv=>lhs;simp[-List.map_set,QV,g2,k1,k2,k3,k4]) ?_
    refine QN ?_
    repeat (first|refine QG ?_|refine QX (r:=by conv=>lhs;simp[-List.map_set,QV]) (k:=?_))
    exact done_pure hwf (by simp [k4]) rfl
  rw [if_neg (by simp [g1, g2, k1, k2, k3, k4])]
  refine QM (by conv=>lhs;simp[-List.map_set,QV,g2,k1,k2,k3,k4]) ?_
  refine QN ?_
  repeat (first|refine QG ?_|refine QX (r:=by conv=>lhs;simp[-List.map_set,QV]) (k:=?_))
  repeat refine QS ?_
  refine QR (r:=by conv=>lhs;simp[-List.map_set,QV]) (k:=?_)
  refine vcall_useH (c3) (by rfl) ?_
  by_cases h3 : x3 = true
  · refine QM (by conv=>lhs;simp[-List.map_set,QV,h3]) ?_
    refine QN ?_
    repeat (first|refine QG ?_|refine QX (r:=by conv=>lhs;simp[-List.map_set,QV]) (k:=?_))
    exact done_pure hwf (by simp [h3]) rfl
  have g3 : x3 = false := by simpa using h3
  refine QM (by conv=>lhs;simp[-List.map_set,QV,g3]) ?_
  refine vcall_useH (c4) (by rfl) ?_
  by_cases h4 : x4 = true
  · refine QM (by conv=>lhs;simp[-List.map_set,QV,h4]) ?_
    refine QN ?_
    repeat (first|refine QG ?_|refine QX (r:=by conv=>lhs;simp[-List.map_set,QV]) (k:=?_))
    exact done_pure hwf (by simp [h4]) rfl
  have g4 : x4 = false := by simpa using h4
  by_cases k5 : op = 167
  · refine QM (by conv=>lhs;simp[-List.map_set,QV,g4,k5]) ?_
    refine QN ?_
    repeat (first|refine QG ?_|refine QX (r:=by conv=>lhs;simp[-List.map_set,QV]) (k:=?_))
    exact done_pure hwf (by simp [k5]) rfl
  refine QM (by conv=>lhs;simp[-List.map_set,QV,g4,k5]) ?_
  refine vcall_useH (c5) (by rfl) ?_
  by_cases h5 : x5 = true
  · refine QM (by conv=>lhs;simp[-List.map_set,QV,h5]) ?_
    refine QN ?_
    repeat (first|refine QG ?_|refine QX (r:=by conv=>lhs;simp[-List.map_set,QV]) (k:=?_))
    exact done_pure hwf (by simp [h5]) rfl
  have g5 : x5 = false := by simpa using h5
  refine QM (by conv=>lhs;simp[-List.map_set,QV,g5]) ?_
  refine QN ?_
  repeat (first|refine QG ?_|refine QX (r:=by conv=>lhs;simp[-List.map_set,QV]) (k:=?_))
  exact done_pure hwf (by simp [g3, g4, k5, g5]) rfl
theorem Unary_v (op : Int) : VPure Tryz.prog 99 [vint op] (.bool (Ss.runary op)) := by
  intro S
  have c1 : VPure Tryz.prog 100 [vint op, .int .i64 103, .int .i64 105] (.bool (Ss.rin op 103 105)) := in_v op 103 105
  have c2 : VPure Tryz.prog 100 [vint op, .int .i64 121, .int .i64 123] (.bool (Ss.rin op 121 123)) := in_v op 121 123
  have hX : Ss.runary op = (decide (op = 69) || (decide (op = 80) || (Ss.rin op 103 105 || (Ss.rin op 121 123 || decide (167 ≤ op))))) := rfl
  rw [hX]
  generalize Ss.rin op 103 105 = x1 at *
  generalize Ss.rin op 121 123 = x2 at *
  refine vcalls_start (c := bodyOf Tryz.f99) Tryz.func99 rfl rfl (by simp [Tryz.ntmps99]) ?_
  rw [Tryz.ntmps99]
  intro hwf
  by_cases k1 : op = 69
  · repeat (first|refine QG ?_|refine QX (r:=by conv=>lhs;simp[-List.map_set,QV,k1]) (k:=?_))
    exact done_pure hwf (by simp [k1]) rfl
  by_cases k2 : op = 80
  · repeat (first|refine QG ?_|refine QX (r:=by conv=>lhs;simp[-List.map_set,QV,k1,k2]) (k:=?_))
    exact done_pure hwf (by simp [k2]) rfl
  repeat (first|refine QG ?_|refine QX (r:=by conv=>lhs;simp[-List.map_set,QV]) (k:=?_))
  repeat refine QS ?_
  refine QR (r:=by conv=>lhs;simp[-List.map_set,QV,k1,k2]) (k:=?_)
  refine vcall_useH (c1) (by rfl) ?_
  by_cases h1 : x1 = true
  · refine QM (by conv=>lhs;simp[-List.map_set,QV,h1]) ?_
    refine QN ?_
    repeat (first|refine QG ?_|refine QX (r:=by conv=>lhs;simp[-List.map_set,QV]) (k:=?_))
    exact done_pure hwf (by simp [h1]) rfl
  have g1 : x1 = false := by simpa using h1
  refine QM (by conv=>lhs;simp[-List.map_set,QV,g1]) ?_
  refine vcall_useH (c2) (by rfl) ?_
  by_cases h2 : x2 = true
  · refine QM (by conv=>lhs;simp[-List.map_set,QV,h2]) ?_
    refine QN ?_
    repeat (first|refine QG ?_|refine QX (r:=by conv=>lhs;simp[-List.map_set,QV]) (k:=?_))
    exact done_pure hwf (by simp [h2]) rfl
  have g2 : x2 = false := by simpa using h2
  refine QM (by conv=>lhs;simp[-List.map_set,QV,g2]) ?_
  refine QN ?_
  repeat (first|refine QG ?_|refine QX (r:=by conv=>lhs;simp[-List.map_set,QV]) (k:=?_))
  exact done_pure hwf (by simp [k1, k2, g1, g2]) rfl
theorem RNumSig_v (op : Int) : VPure Tryz.prog 81 [vint op] (.tuple [vl vint (Ss.numSig op).1, vint (Ss.numSig op).2.1, .bool (Ss.numSig op).2.2]) := by
  intro S
  rw [← Ss.rsig_eq op]
  have c1 := Of_v op
  have c2 := Unary_v op
  have c3 : VPure Tryz.prog 100 [vint op, .int .i64 69, .int .i64 90] (.bool (Ss.rin op 69 90)) := in_v op 69 90
  have hX : Ss.rsig op = if Ss.rof op = 0 then ([], 0, false) else (if Ss.runary op then [Ss.rof op] else [Ss.rof op, Ss.rof op], if op = 172 ∨ op = 173 then 126 else if Ss.rin op 69 90 ∨ op = 167 then 127 else Ss.rof op, true) := rfl
  rw [hX]
  generalize Ss.rof op = t at *
  generalize Ss.runary op = un at *
  generalize Ss.rin op 69 90 = x at *
  clear hX
  refine vcalls_start (c := bodyOf Tryz.f81) Tryz.func81 rfl rfl (by simp [Tryz.ntmps81]) ?_
  rw [Tryz.ntmps81]
  intro hwf
  repeat (first|refine QG ?_|refine QX (r:=by conv=>lhs;simp[-List.map_set,QV]) (k:=?_))
  repeat refine QS ?_
  refine QR (r:=by conv=>lhs;simp[-List.map_set,QV]) (k:=?_)
  refine vcall_useH (c1) (by rfl) ?_
  by_cases ht : t = 0
  · refine QM (by conv=>lhs;simp[-List.map_set,QV]) ?_
    refine QN ?_
    repeat (first|refine QG ?_|refine QX (r:=by conv=>lhs;simp[-List.map_set,QV,ht]) (k:=?_))
    rw [if_pos ht]
    exact done_via (l := []) hwf (Ghost.toB (Ghost.tuple [] [_, _] (Ghost.nils_list _)) _) rfl
  rw [if_neg ht]
  refine QM (by conv=>lhs;simp[-List.map_set,QV]) ?_
  refine QN ?_
  repeat (first|refine QG ?_|refine QX (r:=by conv=>lhs;simp[-List.map_set,QV,ht]) (k:=?_))
  repeat refine QS ?_
  refine QR (r:=by conv=>lhs;simp[-List.map_set,QV]) (k:=?_)
  refine vcall_useH (c2) (by rfl) ?_
  obtain ⟨r, hr⟩ : ∃ r, (if op = 172 ∨ op = 173 then 126 else if x ∨ op = 167 then 127 else t) = r := ⟨_, rfl⟩
  simp only [hr]
  by_cases hu : un = true
  · rw [if_pos hu]
    refine QM (by conv=>lhs;simp[-List.map_set,QV,hu]) ?_
    refine QN ?_
    repeat (first|refine QG ?_|refine QX (r:=by conv=>lhs;simp[-List.map_set,QV,hu]) (k:=?_))
    refine vw_trim 6 1 rfl (by simp) rfl (by conv => lhs; simp [List.set_cons_zero, List.set_cons_succ]) ?_
    repeat refine QS ?_
    refine QR (r:=by conv=>lhs;simp[-List.map_set,QV]) (k:=?_)
    refine vcall_useH (c3) (by rfl) ?_
    by_cases hx : x = true
    · skip
      refine QM (by conv=>lhs;simp[-List.map_set,QV,hx]) ?_
      refine QN ?_
      by_cases k1 : op = 172
      · obtain rfl : r = 126 := by rw [← hr]; simp [k1]
        repeat (first|refine QG ?_|refine QX (r:=by conv=>lhs;simp[-List.map_set,QV,hx,k1]) (k:=?_))
        exact done_via hwf ((Ghost.tuple [] [_, _] (frz1 (k := 0) (by simp) (by rfl) (by rfl) (by rfl))).toB _) rfl
      by_cases k2 : op = 173
      · obtain rfl : r = 126 := by rw [← hr]; simp [k2]
        repeat (first|refine QG ?_|refine QX (r:=by conv=>lhs;simp[-List.map_set,QV,hx,k1,k2]) (k:=?_))
        exact done_via hwf ((Ghost.tuple [] [_, _] (frz1 (k := 0) (by simp) (by rfl) (by rfl) (by rfl))).toB _) rfl
      obtain rfl : r = 127 := by rw [← hr]; simp [k1, k2, hx]
      repeat (first|refine QG ?_|refine QX (r:=by conv=>lhs;simp[-List.map_set,QV,hx,k1,k2]) (k:=?_))
      exact done_via hwf ((Ghost.tuple [] [_, _] (frz1 (k := 0) (by simp) (by rfl) (by rfl) (by rfl))).toB _) rfl
    have hx' : x = false := by simpa using hx
    by_cases hq : op = 167
    · skip
      refine QM (by conv=>lhs;simp[-List.map_set,QV,hx',hq]) ?_
      refine QN ?_
      have k1 : ¬ op = 172 := by omega
      have k2 : ¬ op = 173 := by omega
      obtain rfl : r = 127 := by rw [← hr]; simp [k1, k2, hq]
      repeat (first|refine QG ?_|refine QX (r:=by conv=>lhs;simp[-List.map_set,QV,hx',hq,k1,k2]) (k:=?_))
      exact done_via hwf ((Ghost.tuple [] [_, _] (frz1 (k := 0) (by simp) (by rfl) (by rfl) (by rfl))).toB _) rfl
    refine QM (by conv=>lhs;simp[-List.map_set,QV,hx',hq]) ?_
    refine QN ?_
    by_cases k1 : op = 172
    · obtain rfl : r = 126 := by rw [← hr]; simp [k1]
      repeat (first|refine QG ?_|refine QX (r:=by conv=>lhs;simp[-List.map_set,QV,hx',hq,k1]) (k:=?_))
      exact done_via hwf ((Ghost.tuple [] [_, _] (frz1 (k := 0) (by simp) (by rfl) (by rfl) (by rfl))).toB _) rfl
    by_cases k2 : op = 173
    · obtain rfl : r = 126 := by rw [← hr]; simp [k2]
      repeat (first|refine QG ?_|refine QX (r:=by conv=>lhs;simp[-List.map_set,QV,hx',hq,k1,k2]) (k:=?_))
      exact done_via hwf ((Ghost.tuple [] [_, _] (frz1 (k := 0) (by simp) (by rfl) (by rfl) (by rfl))).toB _) rfl
    obtain rfl : r = t := by rw [← hr]; simp [k1, k2, hx', hq]
    repeat (first|refine QG ?_|refine QX (r:=by conv=>lhs;simp[-List.map_set,QV,hx',hq,k1,k2]) (k:=?_))
    exact done_via hwf ((Ghost.tuple [] [_, _] (frz1 (k := 0) (by simp) (by rfl) (by rfl) (by rfl))).toB _) rfl
  · replace hu : un = false := by simpa using hu
    rw [if_neg (by simp [hu])]
    refine QM (by conv=>lhs;simp[-List.map_set,QV,hu]) ?_
    refine QN ?_
    repeat (first|refine QG ?_|refine QX (r:=by conv=>lhs;simp[-List.map_set,QV,hu]) (k:=?_))
    repeat refine QS ?_
    refine QR (r:=by conv=>lhs;simp[-List.map_set,QV]) (k:=?_)
    refine vcall_useH (c3) (by rfl) ?_
    by_cases hx : x = true
    · skip
      refine QM (by conv=>lhs;simp[-List.map_set,QV,hx]) ?_
      refine QN ?_
      by_cases k1 : op = 172
      · obtain rfl : r = 126 := by rw [← hr]; simp [k1]
        repeat (first|refine QG ?_|refine QX (r:=by conv=>lhs;simp[-List.map_set,QV,hx,k1]) (k:=?_))
        exact done_via hwf ((Ghost.tuple [] [_, _] (frz1 (k := 0) (by simp) (by rfl) (by rfl) (by rfl))).toB _) rfl
      by_cases k2 : op = 173
      · obtain rfl : r = 126 := by rw [← hr]; simp [k2]
        repeat (first|refine QG ?_|refine QX (r:=by conv=>lhs;simp[-List.map_set,QV,hx,k1,k2]) (k:=?_))
        exact done_via hwf ((Ghost.tuple [] [_, _] (frz1 (k := 0) (by simp) (by rfl) (by rfl) (by rfl))).toB _) rfl
      obtain rfl : r = 127 := by rw [← hr]; simp [k1, k2, hx]
      repeat (first|refine QG ?_|refine QX (r:=by conv=>lhs;simp[-List.map_set,QV,hx,k1,k2]) (k:=?_))
      exact done_via hwf ((Ghost.tuple [] [_, _] (frz1 (k := 0) (by simp) (by rfl) (by rfl) (by rfl))).toB _) rfl
    have hx' : x = false := by simpa using hx
    by_cases hq : op = 167
    · skip
      refine QM (by conv=>lhs;simp[-List.map_set,QV,hx',hq]) ?_
      refine QN ?_
      have k1 : ¬ op = 172 := by omega
      have k2 : ¬ op = 173 := by omega
      obtain rfl : r = 127 := by rw [← hr]; simp [k1, k2, hq]
      repeat (first|refine QG ?_|refine QX (r:=by conv=>lhs;simp[-List.map_set,QV,hx',hq,k1,k2]) (k:=?_))
      exact done_via hwf ((Ghost.tuple [] [_, _] (frz1 (k := 0) (by simp) (by rfl) (by rfl) (by rfl))).toB _) rfl
    refine QM (by conv=>lhs;simp[-List.map_set,QV,hx',hq]) ?_
    refine QN ?_
    by_cases k1 : op = 172
    · obtain rfl : r = 126 := by rw [← hr]; simp [k1]
      repeat (first|refine QG ?_|refine QX (r:=by conv=>lhs;simp[-List.map_set,QV,hx',hq,k1]) (k:=?_))
      exact done_via hwf ((Ghost.tuple [] [_, _] (frz1 (k := 0) (by simp) (by rfl) (by rfl) (by rfl))).toB _) rfl
    by_cases k2 : op = 173
    · obtain rfl : r = 126 := by rw [← hr]; simp [k2]
      repeat (first|refine QG ?_|refine QX (r:=by conv=>lhs;simp[-List.map_set,QV,hx',hq,k1,k2]) (k:=?_))
      exact done_via hwf ((Ghost.tuple [] [_, _] (frz1 (k := 0) (by simp) (by rfl) (by rfl) (by rfl))).toB _) rfl
    obtain rfl : r = t := by rw [← hr]; simp [k1, k2, hx', hq]
    repeat (first|refine QG ?_|refine QX (r:=by conv=>lhs;simp[-List.map_set,QV,hx',hq,k1,k2]) (k:=?_))
    exact done_via hwf ((Ghost.tuple [] [_, _] (frz1 (k := 0) (by simp) (by rfl) (by rfl) (by rfl))).toB _) rfl
end Go.Vw

namespace Go.Vw
open Go.Proofs Go.RowKit
set_option maxRecDepth 10000
set_option maxHeartbeats 4000000

theorem RAccess_v (op : Int) : VPure Tryz.prog 82 [vint op] (.tuple [vint ((Ss.accOf op).getD ⟨0, 0, false, false⟩).kind, vint ((Ss.accOf op).getD ⟨0, 0, false, false⟩).width, .bool ((Ss.accOf op).getD ⟨0, 0, false, false⟩).store, .bool (Ss.accOf op).isSome]) := by
  intro S
  by_cases h : op = 40 ∨ op = 41 ∨ op = 44 ∨ op = 45 ∨ op = 46 ∨ op = 47 ∨ op = 48 ∨ op = 49 ∨ op = 50 ∨ op = 51 ∨ op = 52 ∨ op = 53 ∨ op = 54 ∨ op = 55 ∨ op = 58 ∨ op = 59 ∨ op = 60 ∨ op = 61 ∨ op = 62
  · refine vcalls_start (c := bodyOf Tryz.f82) Tryz.func82 rfl rfl (by simp [Tryz.ntmps82]) ?_
    rw [Tryz.ntmps82]
    intro hwf
    rcases h with rfl | rfl | rfl | rfl | rfl | rfl | rfl | rfl | rfl | rfl | rfl | rfl | rfl | rfl | rfl | rfl | rfl | rfl | rfl
    all_goals
      repeat (first|refine QG ?_|refine QX (r:=by conv=>lhs;simp[-List.map_set,QV]) (k:=?_))
      exact done_pure hwf rfl rfl
  · simp only [not_or] at h
    obtain ⟨h1, h2, h3, h4, h5, h6, h7, h8, h9, h10, h11, h12, h13, h14, h15, h16, h17, h18, h19⟩ := h
    have hn : Ss.accOf op = none := by simp [Ss.accOf, Ss.accL, Ss.findK, h1, h2, h3, h4, h5, h6, h7, h8, h9, h10, h11, h12, h13, h14, h15, h16, h17, h18, h19]
    rw [hn]
    refine vcalls_start (c := bodyOf Tryz.f82) Tryz.func82 rfl rfl (by simp [Tryz.ntmps82]) ?_
    rw [Tryz.ntmps82]
    intro hwf
    repeat (first|refine QG ?_|refine QX (r:=by conv=>lhs;simp[-List.map_set,QV,h1,h2,h3,h4,h5,h6,h7,h8,h9,h10,h11,h12,h13,h14,h15,h16,h17,h18,h19]) (k:=?_))
    exact done_pure hwf rfl rfl
end Go.Vw
