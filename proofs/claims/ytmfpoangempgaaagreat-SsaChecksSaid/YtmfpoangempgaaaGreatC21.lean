import Derived.Test.YtmfpoangempgaaaGreatC20
import Derived.Test.YtmfpoangempgaaaGreatC18
import Derived.Test.YtmfpoangempgaaaGreatC14
import Derived.Test.YtmfpoangempgaaaGreatProg
import Derived.Test.YtmfpoangempgaaaGreatC19
/-
  Part of the proof (texts CForm, SRSmall, SRSame, CIns).
-/
set_option linter.unusedVariables false
set_option linter.unusedSimpArgs false
namespace Ss
/-- What the document says that an instruction takes and answers. -/
structure RForm where
  inn : List Int
  outs : List Int
  ok : Bool
deriving DecidableEq, Inhabited
def rformMem (op n : Int) : RForm :=
  if op = 257 then ⟨[127], [], decide (n ≤ 8589934592)⟩
  else match accOf op with
    | some a => if a.store then ⟨[127, a.kind], [], decide (n < 4294967296)⟩ else ⟨[127], [a.kind], decide (n < 4294967296)⟩
    | none => if op = 63 then ⟨[], [127], decide (n = 0)⟩ else if op = 64 then ⟨[127], [127], decide (n = 0)⟩ else ⟨[], [], false⟩
def rformEnv (e : Env) (op n : Int) : RForm :=
  if op = 35 ∨ op = 36 then (if n < e.globals.length then (if op = 35 then ⟨[], [e.globals.getD n.toNat 0], true⟩ else ⟨[e.globals.getD n.toNat 0], [], e.muts.getD n.toNat false⟩) else ⟨[], [], false⟩)
  else if op = 16 then (if n < e.sigs.length then ⟨(e.sigs.getD n.toNat default).inn, (e.sigs.getD n.toNat default).out, true⟩ else ⟨[], [], false⟩)
  else if e.mem then rformMem op n else ⟨[], [], false⟩
def rform (e : Env) (op n out : Int) : RForm :=
  if op = 256 then ⟨[], [out], decide (out = 126) || (decide (out = 127) && decide (n < 4294967296))⟩
  else if op = 258 then ⟨[], [], decide (n = 0)⟩
  else match numSig op with
    | (l, t, true) => ⟨l, [t], decide (n = 0)⟩
    | _ => if op = 27 then ⟨[out, out, 127], [out], decide (n = 0)⟩ else rformEnv e op n
end Ss
namespace Go.Vw
open Go.Proofs Go.RowKit
set_option maxRecDepth 10000
set_option maxHeartbeats 16000000

def rformV (r : Ss.RForm) : V := .tuple [vl vint r.inn, vl vint r.outs, .bool r.ok]

theorem Form_v (e : Ss.Env) (x : Ss.Ins) (out : Int) (hsl : e.sigs.length ≤ 140737488355328) (hgl : e.globals.length ≤ 140737488355328) (hml : e.muts.length = e.globals.length) (hx : x.Fits) :
    VPure Tryz.prog 59 [encEnv e, encIns x, vint out] (rformV (Ss.rform e x.op x.n out)) := by
  intro S
  obtain ⟨sg, im, gl, mu, me⟩ := e
  obtain ⟨op, n, xa, xo⟩ := x
  obtain ⟨ho, ⟨h0, hn64⟩, _⟩ := hx
  simp only at hsl hgl hml h0 ho hn64 ⊢
  obtain ⟨m, rfl⟩ : ∃ m : Nat, n = m := ⟨n.toNat, by omega⟩
  have hns := RNumSig_v op
  have hac := RAccess_v op
  have hfi := Fits_v out (m : Int)
  have hcg : IntKind.u64.wrap (gl.length : Int) = (gl.length : Int) := wrap_u64' (by omega) (by omega)
  have hcs : IntKind.u64.wrap (sg.length : Int) = (sg.length : Int) := wrap_u64' (by omega) (by omega)
  have hz : decide ((m : Int) = 0) = decide (m = 0) := by simp
  unfold Ss.rform
  rw [hz]
  generalize (decide (out = 126) || (decide (out = 127) && decide ((m : Int) < 4294967296))) = fi at *
  generalize hsg : Ss.numSig op = sgv at *
  obtain ⟨l, t, b⟩ := sgv
  generalize hak : ((Ss.accOf op).getD ⟨0, 0, false, false⟩).kind = ak at *
  generalize hast : ((Ss.accOf op).getD ⟨0, 0, false, false⟩).store = ast at *
  generalize ((Ss.accOf op).getD ⟨0, 0, false, false⟩).width = aw at *
  generalize his : (Ss.accOf op).isSome = ais at *
  simp only at hns
  refine vcalls_start (c := bodyOf Tryz.f59) Tryz.func59 rfl rfl (by simp [Tryz.ntmps59]) ?_
  rw [Tryz.ntmps59]
  intro hwf
  repeat (first|refine QG ?_|refine QX (r:=by conv=>lhs;simp[-List.map_set,QV]) (k:=?_))
  repeat refine QS ?_
  refine QR (r:=by conv=>lhs;simp[-List.map_set,QV]) (k:=?_)
  refine vcall_useH (hns) (by rfl) ?_
  refine QM (by conv=>lhs;simp[-List.map_set,QV]) ?_
  refine QN ?_
  repeat refine QS ?_
  refine QR (r:=by conv=>lhs;simp[-List.map_set,QV]) (k:=?_)
  refine vcall_useH (hac) (by rfl) ?_
  refine QM (by conv=>lhs;simp[-List.map_set,QV]) ?_
  refine QN ?_
  by_cases h1 : op = 256
  · rw [if_pos h1]
    repeat (first|refine QG ?_|refine QX (r:=by conv=>lhs;simp[-List.map_set,QV,h1]) (k:=?_))
    repeat refine QS ?_
    refine QR (r:=by conv=>lhs;simp[-List.map_set,QV]) (k:=?_)
    refine vcall_useH (hfi) (by rfl) ?_
    refine QM (by conv=>lhs;simp[-List.map_set,QV]) ?_
    refine QN ?_
    repeat (first|refine QG ?_|refine QX (r:=by conv=>lhs;simp[-List.map_set,QV]) (k:=?_))
    exact done_via hwf (((Ghost.tuple [] [_, _] (Ghost.nils_list _)).trans (Ghost.tuple [_] [_] (frz1 (k := 2) (by simp) (by rfl) (by rfl) (by rfl)))).toB _) rfl
  rw [if_neg h1]
  by_cases h2 : op = 258
  · rw [if_pos h2]
    repeat (first|refine QG ?_|refine QX (r:=by conv=>lhs;simp[-List.map_set,QV,h1,h2]) (k:=?_))
    exact done_via hwf (((Ghost.tuple [] [_, _] (Ghost.nils_list _)).trans (Ghost.tuple [_] [_] (Ghost.nils_list _))).toB _) rfl
  rw [if_neg h2]
  by_cases hb : b = true
  · subst hb
    simp only
    repeat (first|refine QG ?_|refine QX (r:=by conv=>lhs;simp[-List.map_set,QV,h1,h2]) (k:=?_))
    repeat refine QS ?_
    refine vw_drawW (St S [] [some (5, [vl encSig sg, vint im, vl vint gl, vl V.bool mu, .bool me]), some (4, [vint op, .int .u64 (m : Int), vl vint xa, vl vint xo])]) (St S [] [some (5, [vl encSig sg, vint im, vl vint gl, vl V.bool mu, .bool me]), some (4, [vint op, .int .u64 (m : Int), vl vint xa, vl vint xo])]) [] rfl (by kernel_rfl) (by conv => lhs; reduce) (by conv => lhs; reduce) (by kernel_rfl) (by kernel_rfl) (ok_St (by simp [subU, shpU, subL, shpL])) (by conv => lhs; simp [-List.map_set,QV, h1]) ?_
    refine vseg_write rfl (by conv=>lhs;simp[-List.map_set,QV,h1]) (ok_St (by simp [subU, shpU, subL, shpL])) ?_
    refine QM (by conv=>lhs;simp[-List.map_set,QV,h1]) ?_
    refine QN ?_
    repeat (first|refine QG ?_|refine QX (r:=by conv=>lhs;simp[-List.map_set,QV]) (k:=?_))
    exact done_via hwf ((Ghost.tuple [_] [_] (frz1 (k := 2) (by simp) (by rfl) (by rfl) (by rfl))).toB _) rfl
  obtain rfl : b = false := by simpa using hb
  simp only
  by_cases h3 : op = 27
  · rw [if_pos h3]
    subst h3
    repeat (first|refine QG ?_|refine QX (r:=by conv=>lhs;simp[-List.map_set,QV,h1,h2]) (k:=?_))
    repeat refine QS ?_
    refine vw_drawTwo (σm := ?sma) (Sm := ?Sma) (ZZ.mk _ (St S [] [some (5, [vl encSig sg, vint im, vl vint gl, vl V.bool mu, .bool me]), some (4, [.int .i64 27, .int .u64 (m : Int), vl vint xa, vl vint xo])]) (St S [] [some (5, [vl encSig sg, vint im, vl vint gl, vl V.bool mu, .bool me]), some (4, [.int .i64 27, .int .u64 (m : Int), vl vint xa, vl vint xo])]) []) 2 4 [0, 1, 2, 3, 4, 5, 6, 7, 8, 9, 10] [0, 1, 3, 4, 2, 5, 6, 7, 8, 9, 10] rfl (by kernel_rfl) (by conv => lhs; reduce) (by kernel_rfl) (by decide) (by kernel_rfl) (by kernel_rfl) (by kernel_rfl) (by kernel_rfl) (by kernel_rfl) (by kernel_rfl) rfl (ok_St (by simp [subU, shpU, subL, shpL])) (Store.sub_refl _) (by conv => lhs; reduce) (by conv => lhs; reduce) ?H1a ?H2a ?H3a
    case H1a =>
      refine QM (by conv=>lhs;simp[-List.map_set,QV]) ?_
      refine vseg_write rfl (by conv=>lhs;simp[-List.map_set,QV]) (ok_St (by simp [subU, shpU, subL, shpL])) ?_
      refine QM (by conv=>lhs;simp[-List.map_set,QV]) ?_
      refine vseg_write rfl (by conv=>lhs;simp[-List.map_set,QV]) (ok_St (by simp [subU, shpU, subL, shpL])) ?_
      refine QM (by conv=>lhs;simp[-List.map_set,QV]) ?_
      refine QN ?_
      refine reach_only [6, 7, 8] (Eq.trans (b := ?_) ?_ rfl)
      rotate_left
      conv => lhs; simp [Fr.only, Fr.look]
    case H2a =>
      refine QM (by conv=>lhs;simp[-List.map_set,QV]) ?_
      refine vseg_write rfl (by conv=>lhs;simp[-List.map_set,QV]) (ok_St (by simp [subU, shpU, subL, shpL])) ?_
      refine vseg_write rfl (by conv=>lhs;simp[-List.map_set,QV]) (ok_St (by simp [subU, shpU, subL, shpL])) ?_
      refine QM (by conv=>lhs;simp[-List.map_set,QV]) ?_
      refine QN ?_
      exact reach_swap [6, 7, 8] [0, 1, 3, 2] (by conv => lhs; simp [Fr.only, Fr.look]) hwf (by decide) (by simp [-List.map_set]) (by conv => lhs; simp [-List.map_set]) (by conv => lhs; simp [-List.map_set]) (by conv => lhs; simp [-List.map_set])
    repeat (first|refine QG ?_|refine QX (r:=by conv=>lhs;simp[-List.map_set,QV]) (k:=?_))
    exact done_via hwf (((Ghost.tuple [] [_, _] (frz1 (k := 2) (by simp) (by rfl) (by rfl) (by rfl))).trans (Ghost.tuple [_] [_] (frz1 (k := 3) (by simp) (by rfl) (by rfl) (by rfl)))).toB _) rfl
  rw [if_neg h3]
  unfold Ss.rformEnv
  simp only
  by_cases h4 : op = 35 ∨ op = 36
  · rw [if_pos h4]
    by_cases h5 : m < gl.length
    case neg =>
      have h5' : ¬ (m : Int) < (gl.length : Int) := by omega
      have h5n : (gl.length : Int) ≤ (m : Int) := by omega
      rw [if_neg h5']
      by_cases h6 : op = 35
      · repeat (first|refine QG ?_|refine QX (r:=by conv=>lhs;simp[-List.map_set,QV,h1,h2,h3,h6,hcg,h5,h5n]) (k:=?_))
        exact done_via hwf (((Ghost.tuple [] [_, _] (Ghost.nils_list _)).trans (Ghost.tuple [_] [_] (Ghost.nils_list _))).toB _) rfl
      · have h7 : op = 36 := by omega
        repeat (first|refine QG ?_|refine QX (r:=by conv=>lhs;simp[-List.map_set,QV,h1,h2,h3,h6,h7,hcg,h5,h5n]) (k:=?_))
        exact done_via hwf (((Ghost.tuple [] [_, _] (Ghost.nils_list _)).trans (Ghost.tuple [_] [_] (Ghost.nils_list _))).toB _) rfl
    have h5' : (m : Int) < (gl.length : Int) := by omega
    have h5n : ¬ (gl.length : Int) ≤ (m : Int) := by omega
    have hgd : gl.getD (m : Int).toNat 0 = gl[m] := by simp [h5]
    have hm : m < mu.length := by omega
    obtain ⟨b, hb⟩ : ∃ b, mu[m] = b := ⟨_, rfl⟩
    have hmd : mu.getD (m : Int).toNat false = b := by simp [hm, hb]
    rw [if_pos h5', hgd, hmd]
    by_cases h6 : op = 35
    · rw [if_pos h6]
      repeat (first|refine QG ?_|refine QX (r:=by conv=>lhs;simp[-List.map_set,QV,h1,h2,h3,h6,hcg,h5,h5n]) (k:=?_))
      exact done_via hwf (((Ghost.tuple [] [_, _] (Ghost.nils_list _)).trans (Ghost.tuple [_] [_] (frz1 (k := 2) (by simp) (by rfl) (by rfl) (by rfl)))).toB _) rfl
    · have h7 : op = 36 := by omega
      rw [if_neg h6]
      repeat (first|refine QG ?_|refine QX (r:=by conv=>lhs;simp[-List.map_set,QV,h1,h2,h3,h6,h7,hcg,h5,h5n,hm,hb]) (k:=?_))
      exact done_via hwf (((Ghost.tuple [] [_, _] (frz1 (k := 2) (by simp) (by rfl) (by rfl) (by rfl))).trans (Ghost.tuple [_] [_] (Ghost.nils_list _))).toB _) rfl
  rw [if_neg h4]
  have h6 : ¬ op = 35 := fun h => h4 (.inl h)
  have h7 : ¬ op = 36 := fun h => h4 (.inr h)
  by_cases h8 : op = 16
  · rw [if_pos h8]
    by_cases h5 : m < sg.length
    case neg =>
      have h5' : ¬ (m : Int) < (sg.length : Int) := by omega
      have h5n : (sg.length : Int) ≤ (m : Int) := by omega
      rw [if_neg h5']
      repeat (first|refine QG ?_|refine QX (r:=by conv=>lhs;simp[-List.map_set,QV,h1,h2,h3,h6,h7,h8,hcs,h5,h5n]) (k:=?_))
      exact done_via hwf (((Ghost.tuple [] [_, _] (Ghost.nils_list _)).trans (Ghost.tuple [_] [_] (Ghost.nils_list _))).toB _) rfl
    have h5' : (m : Int) < (sg.length : Int) := by omega
    have h5n : ¬ (sg.length : Int) ≤ (m : Int) := by omega
    obtain ⟨⟨a, b⟩, hab⟩ : ∃ x, sg[m] = x := ⟨_, rfl⟩
    have hgd : sg.getD (m : Int).toNat default = ⟨a, b⟩ := by simp [h5, hab]
    rw [if_pos h5', hgd]
    repeat (first|refine QG ?_|refine QX (r:=by conv=>lhs;simp[-List.map_set,QV,h1,h2,h3,h6,h7,h8,hcs,h5,h5n,hab]) (k:=?_))
    exact done_pure hwf (by simp [rformV, vl]) rfl
  rw [if_neg h8]
  by_cases hme : me = true
  case neg =>
    have hme' : me = false := by simpa using hme
    rw [if_neg hme]
    repeat (first|refine QG ?_|refine QX (r:=by conv=>lhs;simp[-List.map_set,QV,h1,h2,h3,h6,h7,h8,hme']) (k:=?_))
    exact done_via hwf (((Ghost.tuple [] [_, _] (Ghost.nils_list _)).trans (Ghost.tuple [_] [_] (Ghost.nils_list _))).toB _) rfl
  subst hme
  rw [if_pos rfl]
  unfold Ss.rformMem
  rw [hz]
  by_cases k1 : op = 257
  · rw [if_pos k1]
    subst k1
    repeat (first|refine QG ?_|refine QX (r:=by conv=>lhs;simp[-List.map_set,QV,h1,h2,h3,h6,h7,h8]) (k:=?_))
    repeat refine QS ?_
    refine vw_drawW (St S [] [some (5, [vl encSig sg, vint im, vl vint gl, vl V.bool mu, .bool true]), some (4, [.int .i64 257, .int .u64 (m : Int), vl vint xa, vl vint xo])]) (St S [] [some (5, [vl encSig sg, vint im, vl vint gl, vl V.bool mu, .bool true]), some (4, [.int .i64 257, .int .u64 (m : Int), vl vint xa, vl vint xo])]) [] rfl (by kernel_rfl) (by conv => lhs; reduce) (by conv => lhs; reduce) (by kernel_rfl) (by kernel_rfl) (ok_St (by simp [subU, shpU, subL, shpL])) (by conv => lhs; simp [-List.map_set,QV, h1]) ?_
    refine vseg_write rfl (by conv=>lhs;simp[-List.map_set,QV,h1]) (ok_St (by simp [subU, shpU, subL, shpL])) ?_
    refine QM (by conv=>lhs;simp[-List.map_set,QV,h1]) ?_
    refine QN ?_
    repeat (first|refine QG ?_|refine QX (r:=by conv=>lhs;simp[-List.map_set,QV]) (k:=?_))
    exact done_via hwf (((Ghost.tuple [] [_, _] (frz1 (k := 2) (by simp) (by rfl) (by rfl) (by rfl))).trans (Ghost.tuple [_] [_] (Ghost.nils_list _))).toB _) rfl
  rw [if_neg k1]
  cases hf : Ss.accOf op with
  | some a =>
    obtain ⟨b1, b2, b3, b4⟩ := a
    rw [hf] at his hak hast
    simp only [Option.isSome_some, Option.getD_some] at his hak hast
    subst his hak hast
    simp only
    generalize hz4 : decide ((m : Int) < 4294967296) = z4 at *
    by_cases k2 : b3 = true
    · subst k2
      rw [if_pos rfl]
      repeat (first|refine QG ?_|refine QX (r:=by conv=>lhs;simp[-List.map_set,QV,h1,h2,h3,h6,h7,h8,k1,hz4]) (k:=?_))
      repeat refine QS ?_
      refine vw_drawW (St S [] [some (5, [vl encSig sg, vint im, vl vint gl, vl V.bool mu, .bool true]), some (4, [vint op, .int .u64 (m : Int), vl vint xa, vl vint xo])]) (St S [] [some (5, [vl encSig sg, vint im, vl vint gl, vl V.bool mu, .bool true]), some (4, [vint op, .int .u64 (m : Int), vl vint xa, vl vint xo])]) [] rfl (by kernel_rfl) (by conv => lhs; reduce) (by conv => lhs; reduce) (by kernel_rfl) (by kernel_rfl) (ok_St (by simp [subU, shpU, subL, shpL])) (by conv => lhs; simp [-List.map_set,QV, h1]) ?_
      refine vseg_write rfl (by conv=>lhs;simp[-List.map_set,QV,h1,hz4]) (ok_St (by simp [subU, shpU, subL, shpL])) ?_
      refine QM (by conv=>lhs;simp[-List.map_set,QV,h1,hz4]) ?_
      refine QN ?_
      repeat (first|refine QG ?_|refine QX (r:=by conv=>lhs;simp[-List.map_set,QV]) (k:=?_))
      exact done_via hwf (((Ghost.tuple [] [_, _] (frz1 (k := 2) (by simp) (by rfl) (by rfl) (by rfl))).trans (Ghost.tuple [_] [_] (Ghost.nils_list _))).toB _) rfl
    · rw [if_neg k2]
      obtain rfl : b3 = false := by simpa using k2
      repeat (first|refine QG ?_|refine QX (r:=by conv=>lhs;simp[-List.map_set,QV,h1,h2,h3,h6,h7,h8,k1,hz4]) (k:=?_))
      repeat refine QS ?_
      refine vw_drawTwo (σm := ?smb) (Sm := ?Smb) (ZZ.mk _ (St S [] [some (5, [vl encSig sg, vint im, vl vint gl, vl V.bool mu, .bool true]), some (4, [vint op, .int .u64 (m : Int), vl vint xa, vl vint xo])]) (St S [] [some (5, [vl encSig sg, vint im, vl vint gl, vl V.bool mu, .bool true]), some (4, [vint op, .int .u64 (m : Int), vl vint xa, vl vint xo])]) []) 0 2 [0, 1, 2, 3, 4, 5, 6, 7, 8] [1, 2, 0, 3, 4, 5, 6, 7, 8] rfl (by kernel_rfl) (by conv => lhs; reduce) (by kernel_rfl) (by decide) (by kernel_rfl) (by kernel_rfl) (by kernel_rfl) (by kernel_rfl) (by kernel_rfl) (by kernel_rfl) rfl (ok_St (by simp [subU, shpU, subL, shpL])) (Store.sub_refl _) (by conv => lhs; reduce) (by conv => lhs; reduce) ?H1b ?H2b ?H3b
      case H1b =>
        refine QM (by conv=>lhs;simp[-List.map_set,QV,h1,hz4]) ?_
        refine vseg_write rfl (by conv=>lhs;simp[-List.map_set,QV]) (ok_St (by simp [subU, shpU, subL, shpL])) ?_
        refine QM (by conv=>lhs;simp[-List.map_set,QV,hz4]) ?_
        refine vseg_write rfl (by conv=>lhs;simp[-List.map_set,QV]) (ok_St (by simp [subU, shpU, subL, shpL])) ?_
        refine QM (by conv=>lhs;simp[-List.map_set,QV,hz4]) ?_
        refine QN ?_
        refine reach_only [6, 7, 8] (Eq.trans (b := ?_) ?_ rfl)
        rotate_left
        conv => lhs; simp [Fr.only, Fr.look]
      case H2b =>
        refine QM (by conv=>lhs;simp[-List.map_set,QV,h1,hz4]) ?_
        refine vseg_write rfl (by conv=>lhs;simp[-List.map_set,QV]) (ok_St (by simp [subU, shpU, subL, shpL])) ?_
        refine vseg_write rfl (by conv=>lhs;simp[-List.map_set,QV]) (ok_St (by simp [subU, shpU, subL, shpL])) ?_
        refine QM (by conv=>lhs;simp[-List.map_set,QV,hz4]) ?_
        refine QN ?_
        exact reach_swap [6, 7, 8] [0, 1, 3, 2] (by conv => lhs; simp [Fr.only, Fr.look]) hwf (by decide) (by simp [-List.map_set]) (by conv => lhs; simp [-List.map_set]) (by conv => lhs; simp [-List.map_set]) (by conv => lhs; simp [-List.map_set])
      repeat (first|refine QG ?_|refine QX (r:=by conv=>lhs;simp[-List.map_set,QV]) (k:=?_))
      exact done_via hwf (((Ghost.tuple [] [_, _] (frz1 (k := 2) (by simp) (by rfl) (by rfl) (by rfl))).trans (Ghost.tuple [_] [_] (frz1 (k := 3) (by simp) (by rfl) (by rfl) (by rfl)))).toB _) rfl
  | none =>
    rw [hf] at his hak hast
    simp only [Option.isSome_none, Option.getD_none] at his hak hast
    subst his hak hast
    simp only
    by_cases k2 : op = 63
    · rw [if_pos k2]
      subst k2
      repeat (first|refine QG ?_|refine QX (r:=by conv=>lhs;simp[-List.map_set,QV,h1,h2,h3,h6,h7,h8,k1]) (k:=?_))
      repeat refine QS ?_
      refine vw_drawW (St S [] [some (5, [vl encSig sg, vint im, vl vint gl, vl V.bool mu, .bool true]), some (4, [.int .i64 63, .int .u64 (m : Int), vl vint xa, vl vint xo])]) (St S [] [some (5, [vl encSig sg, vint im, vl vint gl, vl V.bool mu, .bool true]), some (4, [.int .i64 63, .int .u64 (m : Int), vl vint xa, vl vint xo])]) [] rfl (by kernel_rfl) (by conv => lhs; reduce) (by conv => lhs; reduce) (by kernel_rfl) (by kernel_rfl) (ok_St (by simp [subU, shpU, subL, shpL])) (by conv => lhs; simp [-List.map_set,QV, h1]) ?_
      refine vseg_write rfl (by conv=>lhs;simp[-List.map_set,QV,h1]) (ok_St (by simp [subU, shpU, subL, shpL])) ?_
      refine QM (by conv=>lhs;simp[-List.map_set,QV,h1]) ?_
      refine QN ?_
      repeat (first|refine QG ?_|refine QX (r:=by conv=>lhs;simp[-List.map_set,QV]) (k:=?_))
      exact done_via hwf (((Ghost.tuple [] [_, _] (Ghost.nils_list _)).trans (Ghost.tuple [_] [_] (frz1 (k := 2) (by simp) (by rfl) (by rfl) (by rfl)))).toB _) rfl
    rw [if_neg k2]
    by_cases k3 : op = 64
    · rw [if_pos k3]
      subst k3
      repeat (first|refine QG ?_|refine QX (r:=by conv=>lhs;simp[-List.map_set,QV,h1,h2,h3,h6,h7,h8,k1,k2]) (k:=?_))
      repeat refine QS ?_
      refine vw_drawTwo (σm := ?smc) (Sm := ?Smc) (ZZ.mk _ (St S [] [some (5, [vl encSig sg, vint im, vl vint gl, vl V.bool mu, .bool true]), some (4, [.int .i64 64, .int .u64 (m : Int), vl vint xa, vl vint xo])]) (St S [] [some (5, [vl encSig sg, vint im, vl vint gl, vl V.bool mu, .bool true]), some (4, [.int .i64 64, .int .u64 (m : Int), vl vint xa, vl vint xo])]) []) 0 1 [0, 1, 2, 3, 4, 5, 6, 7] [1, 0, 2, 3, 4, 5, 6, 7] rfl (by kernel_rfl) (by conv => lhs; reduce) (by kernel_rfl) (by decide) (by kernel_rfl) (by kernel_rfl) (by kernel_rfl) (by kernel_rfl) (by kernel_rfl) (by kernel_rfl) rfl (ok_St (by simp [subU, shpU, subL, shpL])) (Store.sub_refl _) (by conv => lhs; reduce) (by conv => lhs; reduce) ?H1c ?H2c ?H3c
      case H1c =>
        refine QM (by conv=>lhs;simp[-List.map_set,QV,h1]) ?_
        refine vseg_write rfl (by conv=>lhs;simp[-List.map_set,QV]) (ok_St (by simp [subU, shpU, subL, shpL])) ?_
        refine QM (by conv=>lhs;simp[-List.map_set,QV]) ?_
        refine vseg_write rfl (by conv=>lhs;simp[-List.map_set,QV]) (ok_St (by simp [subU, shpU, subL, shpL])) ?_
        refine QM (by conv=>lhs;simp[-List.map_set,QV]) ?_
        refine QN ?_
        refine reach_only [6, 7, 8] (Eq.trans (b := ?_) ?_ rfl)
        rotate_left
        conv => lhs; simp [Fr.only, Fr.look]
      case H2c =>
        refine QM (by conv=>lhs;simp[-List.map_set,QV,h1]) ?_
        refine vseg_write rfl (by conv=>lhs;simp[-List.map_set,QV]) (ok_St (by simp [subU, shpU, subL, shpL])) ?_
        refine vseg_write rfl (by conv=>lhs;simp[-List.map_set,QV]) (ok_St (by simp [subU, shpU, subL, shpL])) ?_
        refine QM (by conv=>lhs;simp[-List.map_set,QV]) ?_
        refine QN ?_
        exact reach_swap [6, 7, 8] [0, 1, 3, 2] (by conv => lhs; simp [Fr.only, Fr.look]) hwf (by decide) (by simp [-List.map_set]) (by conv => lhs; simp [-List.map_set]) (by conv => lhs; simp [-List.map_set]) (by conv => lhs; simp [-List.map_set])
      repeat (first|refine QG ?_|refine QX (r:=by conv=>lhs;simp[-List.map_set,QV]) (k:=?_))
      exact done_via hwf (((Ghost.tuple [] [_, _] (frz1 (k := 2) (by simp) (by rfl) (by rfl) (by rfl))).trans (Ghost.tuple [_] [_] (frz1 (k := 3) (by simp) (by rfl) (by rfl) (by rfl)))).toB _) rfl
    rw [if_neg k3]
    repeat (first|refine QG ?_|refine QX (r:=by conv=>lhs;simp[-List.map_set,QV,h1,h2,h3,h6,h7,h8,k1,k2,k3]) (k:=?_))
    exact done_via hwf (((Ghost.tuple [] [_, _] (Ghost.nils_list _)).trans (Ghost.tuple [_] [_] (Ghost.nils_list _))).toB _) rfl
end Go.Vw

namespace Go.Vw
open Go.Proofs Go.RowKit
set_option maxRecDepth 10000
set_option maxHeartbeats 8000000

theorem gt4 (n : Nat) : decide ((4096 : Int) < (n : Int)) = !decide (n ≤ 4096) := by
  by_cases h : n ≤ 4096
  · simp [h]; omega
  · simp [h]; omega

theorem RSmall_v (f : Ss.Fn) (hf : f.Fits) : VPure Tryz.prog 22 [encFn f] (.bool f.small) := by
  intro S
  obtain ⟨⟨fi, fo⟩, ts, bs⟩ := f
  obtain ⟨_, _, hbl0, hbf⟩ := hf
  simp only at hbl0 hbf
  have hbl : bs.length < 2^63 := by omega
  refine vcalls_start (c := bodyOf Tryz.f22) Tryz.func22 rfl rfl (by simp [Tryz.ntmps22]) ?_
  rw [Tryz.ntmps22]
  intro hwf
  by_cases h1 : (4096 : Int) < (ts.length : Int)
  · repeat (first|refine QG ?_|refine QX (r:=by conv=>lhs;simp[-List.map_set,QV,h1]) (k:=?_))
    exact done_pure hwf (by simp [Ss.Fn.small, Ss.Fn.heads]; omega) rfl
  by_cases h2 : (4096 : Int) < (bs.length : Int)
  · repeat (first|refine QG ?_|refine QX (r:=by conv=>lhs;simp[-List.map_set,QV,h1,h2]) (k:=?_))
    exact done_pure hwf (by simp [Ss.Fn.small, Ss.Fn.heads]; omega) rfl
  by_cases h3 : (4096 : Int) < (fi.length : Int)
  · repeat (first|refine QG ?_|refine QX (r:=by conv=>lhs;simp[-List.map_set,QV,h1,h2,h3]) (k:=?_))
    exact done_pure hwf (by simp [Ss.Fn.small, Ss.Fn.heads]; omega) rfl
  by_cases h4 : (4096 : Int) < (fo.length : Int)
  · repeat (first|refine QG ?_|refine QX (r:=by conv=>lhs;simp[-List.map_set,QV,h1,h2,h3,h4]) (k:=?_))
    exact done_pure hwf (by simp [Ss.Fn.small, Ss.Fn.heads]; omega) rfl
  have hh : Ss.Fn.small ⟨⟨fi, fo⟩, ts, bs⟩ = Ss.smallFrom 0 bs := by
    have : Ss.Fn.heads ⟨⟨fi, fo⟩, ts, bs⟩ = true := by simp [Ss.Fn.heads]; omega
    simp [Ss.Fn.small, this]
  rw [hh]
  repeat (first|refine QG ?_|refine QX (r:=by conv=>lhs;simp[-List.map_set,QV,h1,h2,h3,h4]) (k:=?_))
  repeat refine QS ?_
  refine vw_loopAt [1, 3, 4] rfl (fun c σ S' => ∃ (k n : Nat), k ≤ bs.length ∧ n ≤ 4096 ∧ c = bs.length - k ∧ Ss.smallFrom n (bs.drop k) = Ss.smallFrom 0 bs ∧ σ = [(1, .ptr (lid S.nx 0) 0), (3, vnat n), (4, vnat k)] ∧ S' = St S [] [some (4, [vl vint fi, vl vint fo, vl vint ts, vl encBlock bs])]) bs.length ?_ ?_
  · exact ⟨0, 0, by omega, by omega, rfl, rfl, by simp [Fr.only], rfl⟩
  · rintro c σ T ⟨k, n, hk, hn, rfl, hd, rfl, rfl⟩
    by_cases hkt : k < bs.length
    · have hw := wrapNat hkt hbl
      have hbk := hbf _ (List.getElem_mem hkt)
      have hst := Ss.drop_small (n := n) hkt
      obtain ⟨⟨ps, code, ⟨tk, ta, to, az⟩⟩, hb⟩ : ∃ b, bs[k] = b := ⟨_, rfl⟩
      rw [hb] at hst hbk
      obtain ⟨_, ⟨hcl0, _⟩, _, _, ⟨htl0, _⟩, _⟩ := hbk
      simp only at hcl0 htl0
      have hcl : code.length < 2^63 := by omega
      have htl : to.length < 2^63 := by omega
      have hwn : IntKind.i64.wrap ((n : Int) + (code.length : Int)) = (n : Int) + (code.length : Int) := wrap_i64 (by omega) (by omega)
      have hS : Ss.Block.small ⟨ps, code, ⟨tk, ta, to, az⟩⟩ = (decide (ps.length ≤ 4096) && decide (to.length ≤ 4096) && decide (az.length ≤ 4096) && code.all Ss.Ins.small && to.all Ss.Edge.small) := rfl
      by_cases g1 : (4096 : Int) < (n : Int) + (code.length : Int)
      · have e : Ss.smallFrom n (bs.drop k) = false := by rw [hst]; simp; omega
        rw [← hd, e]
        repeat (first|refine QG ?_|refine QX (r:=by conv=>lhs;simp[-List.map_set,QV,hkt,hb,hwn,g1]) (k:=?_))
        exact done_pure hwf rfl rfl
      by_cases g2 : (4096 : Int) < (ps.length : Int)
      · have e : Ss.smallFrom n (bs.drop k) = false := by rw [hst, hS]; simp; omega
        rw [← hd, e]
        repeat (first|refine QG ?_|refine QX (r:=by conv=>lhs;simp[-List.map_set,QV,hkt,hb,hwn,g1,g2]) (k:=?_))
        exact done_pure hwf rfl rfl
      by_cases g3 : (4096 : Int) < (to.length : Int)
      · have e : Ss.smallFrom n (bs.drop k) = false := by rw [hst, hS]; simp; omega
        rw [← hd, e]
        repeat (first|refine QG ?_|refine QX (r:=by conv=>lhs;simp[-List.map_set,QV,hkt,hb,hwn,g1,g2,g3]) (k:=?_))
        exact done_pure hwf rfl rfl
      by_cases g4 : (4096 : Int) < (az.length : Int)
      · have e : Ss.smallFrom n (bs.drop k) = false := by rw [hst, hS]; simp; omega
        rw [← hd, e]
        repeat (first|refine QG ?_|refine QX (r:=by conv=>lhs;simp[-List.map_set,QV,hkt,hb,hwn,g1,g2,g3,g4]) (k:=?_))
        exact done_pure hwf rfl rfl
      rw [show decide (n + code.length ≤ 4096) = true by simp; omega, hS, show decide (ps.length ≤ 4096) = true by simp; omega, show decide (to.length ≤ 4096) = true by simp; omega, show decide (az.length ≤ 4096) = true by simp; omega, Bool.true_and, Bool.true_and, Bool.true_and, Bool.true_and] at hst
      repeat (first|refine QG ?_|refine QX (r:=by conv=>lhs;simp[-List.map_set,QV,hkt,hb,hwn,g1,g2,g3,g4]) (k:=?_))
      repeat refine QS ?_
      refine vw_loopAt [1, 3, 4, 5, 6] rfl (fun c σ S' => ∃ (j : Nat), j ≤ code.length ∧ c = code.length - j ∧ (code.drop j).all Ss.Ins.small = code.all Ss.Ins.small ∧ σ = [(1, .ptr (lid S.nx 0) 0), (3, vnat (n + code.length)), (4, vnat k), (5, .ptr (lid S.nx 1) 0), (6, vnat j)] ∧ S' = St S [] [some (4, [vl vint fi, vl vint fo, vl vint ts, vl encBlock bs]), some (6, [vl vint ps, vl encIns code, vint tk, vint ta, vl encEdge to, vl vint az])]) code.length ?_ ?_
      · exact ⟨0, by omega, rfl, rfl, by simp [Fr.only], rfl⟩
      · rintro c σ T ⟨j, hj, rfl, hdj, rfl, rfl⟩
        by_cases hjt : j < code.length
        · have hwj := wrapNat hjt hcl
          have hstj := Ss.drop_all Ss.Ins.small hjt
          obtain ⟨⟨io, iN, ia, iu⟩, hx⟩ : ∃ b, code[j] = b := ⟨_, rfl⟩
          rw [hx] at hstj
          have hX : Ss.Ins.small ⟨io, iN, ia, iu⟩ = (decide (ia.length ≤ 4096) && decide (iu.length ≤ 4096)) := rfl
          by_cases q1 : (4096 : Int) < (ia.length : Int)
          · have e : code.all Ss.Ins.small = false := by rw [← hdj, hstj, hX]; simp; omega
            rw [← hd, hst, e]
            repeat (first|refine QG ?_|refine QX (r:=by conv=>lhs;simp[-List.map_set,QV,hjt,hx,q1]) (k:=?_))
            exact done_pure hwf rfl rfl
          by_cases q2 : (4096 : Int) < (iu.length : Int)
          · have e : code.all Ss.Ins.small = false := by rw [← hdj, hstj, hX]; simp; omega
            rw [← hd, hst, e]
            repeat (first|refine QG ?_|refine QX (r:=by conv=>lhs;simp[-List.map_set,QV,hjt,hx,q1,q2]) (k:=?_))
            exact done_pure hwf rfl rfl
          rw [hX, show decide (ia.length ≤ 4096) = true by simp; omega, show decide (iu.length ≤ 4096) = true by simp; omega, Bool.true_and, Bool.true_and] at hstj
          repeat (first|refine QG ?_|refine QX (r:=by conv=>lhs;simp[-List.map_set,QV,hjt,hx,q1,q2]) (k:=?_))
          show Again _ _ _ _ _ _ _
          exact again ⟨Nat.sub_lt_sub_left hjt (Nat.lt_succ_self j), j + 1, hjt, rfl, by rw [← hdj, hstj], by simp [Fr.only, hwj], rfl⟩
        · rw [Ss.drop_all_end _ hjt] at hdj
          rw [← hdj, Bool.true_and] at hst
          repeat (first|refine QG ?_|refine QX (r:=by conv=>lhs;simp[-List.map_set,QV,hjt]) (k:=?_))
          repeat refine QS ?_
          refine vw_loopAt [1, 3, 4, 5, 7] rfl (fun c σ S' => ∃ (j : Nat), j ≤ to.length ∧ c = to.length - j ∧ (to.drop j).all Ss.Edge.small = to.all Ss.Edge.small ∧ σ = [(1, .ptr (lid S.nx 0) 0), (3, vnat (n + code.length)), (4, vnat k), (5, .ptr (lid S.nx 1) 0), (7, vnat j)] ∧ S' = St S [] [some (4, [vl vint fi, vl vint fo, vl vint ts, vl encBlock bs]), some (6, [vl vint ps, vl encIns code, vint tk, vint ta, vl encEdge to, vl vint az])]) to.length ?_ ?_
          · exact ⟨0, by omega, rfl, rfl, by simp [Fr.only], rfl⟩
          · rintro c σ T ⟨j, hj, rfl, hdj, rfl, rfl⟩
            by_cases hjt : j < to.length
            · have hwj := wrapNat hjt htl
              have hstj := Ss.drop_all Ss.Edge.small hjt
              obtain ⟨⟨io, ia⟩, hx⟩ : ∃ b, to[j] = b := ⟨_, rfl⟩
              rw [hx] at hstj
              have hX : Ss.Edge.small ⟨io, ia⟩ = decide (ia.length ≤ 4096) := rfl
              by_cases q1 : (4096 : Int) < (ia.length : Int)
              · have e : to.all Ss.Edge.small = false := by rw [← hdj, hstj, hX]; simp; omega
                rw [← hd, hst, e]
                repeat (first|refine QG ?_|refine QX (r:=by conv=>lhs;simp[-List.map_set,QV,hjt,hx,q1]) (k:=?_))
                exact done_pure hwf rfl rfl
              rw [hX, show decide (ia.length ≤ 4096) = true by simp; omega, Bool.true_and] at hstj
              repeat (first|refine QG ?_|refine QX (r:=by conv=>lhs;simp[-List.map_set,QV,hjt,hx,q1]) (k:=?_))
              show Again _ _ _ _ _ _ _
              exact again ⟨Nat.sub_lt_sub_left hjt (Nat.lt_succ_self j), j + 1, hjt, rfl, by rw [← hdj, hstj], by simp [Fr.only, hwj], rfl⟩
            · rw [Ss.drop_all_end _ hjt] at hdj
              rw [← hdj, Bool.true_and] at hst
              repeat (first|refine QG ?_|refine QX (r:=by conv=>lhs;simp[-List.map_set,QV,hjt,hw]) (k:=?_))
              refine QA [0] (h:=⟨?_, k + 1, n + code.length, hkt, by omega, rfl, by rw [← hd, hst], by simp, rfl⟩)
              omega
    · rw [Ss.drop_small_end hkt] at hd
      rw [← hd]
      repeat (first|refine QG ?_|refine QX (r:=by conv=>lhs;simp[-List.map_set,QV,hkt]) (k:=?_))
      exact done_pure hwf rfl rfl
end Go.Vw

namespace Go.Vw
open Go.Proofs Go.RowKit
set_option maxRecDepth 10000
set_option maxHeartbeats 8000000

theorem WInts_v (l m : List Int) (hl : l.length < 2^63) : VPure Tryz.prog 28 [vl vint l, vl vint m] (.bool (decide (l = m))) := by
  intro S
  rw [← eqF_dec]
  generalize hp : (fun x y : Int => decide (x = y)) = p
  by_cases hlm : l.length = m.length
  · have hlm' : (l.length : Int) = (m.length : Int) := by omega
    refine vcalls_start (c := bodyOf Tryz.f28) Tryz.func28 rfl rfl (by simp [Tryz.ntmps28]) ?_
    rw [Tryz.ntmps28]
    intro hwf
    repeat (first|refine QG ?_|refine QX (r:=by conv=>lhs;simp[-List.map_set,QV,hlm,hlm']) (k:=?_))
    repeat refine QS ?_
    refine vw_loopAt [0, 1, 5] rfl (fun c σ S' => ∃ (k : Nat), k ≤ l.length ∧ c = l.length - k ∧ eqF p (l.drop k) (m.drop k) = eqF p l m ∧ σ = [(0, vl vint l), (1, vl vint m), (5, vnat k)] ∧ S' = St S [] []) l.length ?_ ?_
    · exact ⟨0, by omega, rfl, rfl, by simp [Fr.only], rfl⟩
    · rintro c σ T ⟨k, hk, rfl, hd, rfl, rfl⟩
      by_cases hkt : k < l.length
      · have hkm : k < m.length := by omega
        have hw := wrapNat hkt hl
        have hst : eqF p (l.drop k) (m.drop k) = (p l[k] m[k] && eqF p (l.drop (k + 1)) (m.drop (k + 1))) := by rw [List.drop_eq_getElem_cons hkt, List.drop_eq_getElem_cons hkm, eqF]
        obtain ⟨x, hx⟩ : ∃ x, l[k] = x := ⟨_, rfl⟩
        obtain ⟨y, hy⟩ : ∃ y, m[k] = y := ⟨_, rfl⟩
        rw [hx, hy] at hst
        by_cases hxy : x = y
        · rw [show p x y = true by rw [← hp]; simp [hxy]] at hst
          repeat (first|refine QG ?_|refine QX (r:=by conv=>lhs;simp[-List.map_set,QV,hkt,hkm,hx,hy,hxy]) (k:=?_))
          show Again _ _ _ _ _ _ _
          exact again ⟨Nat.sub_lt_sub_left hkt (Nat.lt_succ_self k), k + 1, hkt, rfl, by rw [← hd, hst]; rfl, by simp [Fr.only, hw], rfl⟩
        · rw [show p x y = false by rw [← hp]; simp [hxy]] at hst
          repeat (first|refine QG ?_|refine QX (r:=by conv=>lhs;simp[-List.map_set,QV,hkt,hkm,hx,hy,hxy]) (k:=?_))
          exact done_pure hwf (by rw [← hd, hst]; rfl) rfl
      · have e : l.drop k = [] := by rw [List.drop_eq_nil_iff]; omega
        have e' : m.drop k = [] := by rw [List.drop_eq_nil_iff]; omega
        rw [e, e'] at hd
        have hkm : ¬ k < m.length := by omega
        repeat (first|refine QG ?_|refine QX (r:=by conv=>lhs;simp[-List.map_set,QV,hkt,hkm]) (k:=?_))
        exact done_pure hwf (by rw [← hd]; rfl) rfl
  · have hlm' : ¬ (l.length : Int) = (m.length : Int) := by omega
    have e : eqF p l m = false := eqF_len hlm
    rw [e]
    refine vcalls_start (c := bodyOf Tryz.f28) Tryz.func28 rfl rfl (by simp [Tryz.ntmps28]) ?_
    rw [Tryz.ntmps28]
    intro hwf
    repeat (first|refine QG ?_|refine QX (r:=by conv=>lhs;simp[-List.map_set,QV,hlm,hlm']) (k:=?_))
    exact done_pure hwf rfl rfl

theorem eqF_one {α : Type} {p : α → α → Bool} {l m : List α} {k : Nat} (h : k < l.length) (h' : k < m.length) : eqF p (l.drop k) (m.drop k) = (p l[k] m[k] && eqF p (l.drop (k + 1)) (m.drop (k + 1))) := by
  rw [List.drop_eq_getElem_cons h, List.drop_eq_getElem_cons h', eqF]
theorem eqF_end {α : Type} {p : α → α → Bool} {l m : List α} {k : Nat} (h : ¬ k < l.length) (hl : l.length = m.length) : eqF p (l.drop k) (m.drop k) = true := by
  rw [show l.drop k = [] by rw [List.drop_eq_nil_iff]; omega, show m.drop k = [] by rw [List.drop_eq_nil_iff]; omega]; rfl

end Go.Vw

namespace Ss
/-- May an instruction be, by the document? -/
def rinsOk (e : Env) (f : Fn) (ds : List Def) (near : List Int) (block pos : Int) (x : Ins) : Bool :=
  (rform e x.op x.n (insOut f.types x)).ok && decide (typesOf f.types x.outs = (rform e x.op x.n (insOut f.types x)).outs) && asks f.types ds near block pos x.args (rform e x.op x.n (insOut f.types x)).inn
end Ss
namespace Go.Vw
open Go.Proofs Go.RowKit
set_option maxRecDepth 10000
set_option maxHeartbeats 4000000

theorem rins_v (e : Ss.Env) (f : Ss.Fn) (ds : List Ss.Def) (near : List Int) (i k : Nat) (b : Ss.Block) (x : Ss.Ins) (hsl : e.sigs.length ≤ 140737488355328) (hgl : e.globals.length ≤ 140737488355328) (hml : e.muts.length = e.globals.length)
    (hds : ds.length = f.types.length) (htl : f.types.length < 2^63) (hnl : near.length < 2^63) (hnn : ∀ x ∈ ds, x.made = true → 0 ≤ x.block) (hi : f.blocks[i]? = some b) (hk : b.code[k]? = some x) (hx : x.Fits) (hol : x.outs.length ≤ 1048576) (hov : Ss.InTs f.types.length x.outs) :
    VPure Tryz.prog 31 [ckR e f ds near, vnat i, vnat k] (.bool (Ss.rinsOk e f ds near i k x)) := by
  intro S
  have cf := Form_v e x (Ss.insOut f.types x) hsl hgl hml hx
  have ct := rtypes_v e f ds near x.outs hol hov
  have hal := hx.2.2.1.1
  have ca : ∀ l : List Int, VPure Tryz.prog 60 [ckR e f ds near, vl vint x.args, vl vint l, vnat i, vnat k] (.bool (Ss.asks f.types ds near i k x.args l)) := fun l => rthere_v e f ds near i k x.args l hds htl hnl (by omega) hnn
  unfold Ss.rinsOk
  generalize hr : Ss.rform e x.op x.n (Ss.insOut f.types x) = r at *
  have hql : (Ss.typesOf f.types x.outs).length < 2^63 := by simp [Ss.typesOf]; omega
  generalize htt : Ss.typesOf f.types x.outs = tt at *
  obtain ⟨ri, ro, rk⟩ := r
  have ceq := WInts_v tt ro hql
  obtain ⟨xo, xn, xa, xu⟩ := x
  obtain ⟨ps, code, ⟨tk, ta, to, az⟩⟩ := b
  obtain ⟨⟨fi, fo⟩, ts, bs⟩ := f
  obtain ⟨sg, im, gl, mu, me⟩ := e
  simp only at *
  obtain ⟨hi1, hi2⟩ := List.getElem?_eq_some_iff.1 hi
  obtain ⟨hk1, hk2⟩ := List.getElem?_eq_some_iff.1 hk
  have ca' := ca ri
  generalize Ss.asks ts ds near i k xa ri = ax at ca'
  generalize hio : Ss.insOut ts ⟨xo, xn, xa, xu⟩ = io at cf
  have cf' : VPure Tryz.prog 59 [.agg [vl encSig sg, .int .i64 im, vl vint gl, vl V.bool mu, .bool me], .agg [.int .i64 xo, .int .u64 xn, vl vint xa, vl vint xu], .int .i64 io] (.tuple [vl vint ri, vl vint ro, .bool rk]) := cf
  refine vcalls_start (c := bodyOf Tryz.f31) Tryz.func31 rfl rfl (by simp [Tryz.ntmps31]) ?_
  rw [Tryz.ntmps31]
  intro hwf
  repeat (first|refine QG ?_|refine QX (r:=by conv=>lhs;simp[-List.map_set,QV,hi1,hi2,hk1,hk2]) (k:=?_))
  refine vw_join (fun σ S' => σ = [(0, ckR ⟨sg, im, gl, mu, me⟩ ⟨⟨fi, fo⟩, ts, bs⟩ ds near), (1, vnat i), (2, vnat k), (7, .ptr (lid S.nx 0) 0), (8, vint io)] ∧ S' = St S [] [some (4, [vint xo, vu xn, vl vint xa, vl vint xu])]) [0, 1, 2, 7, 8] ?_ ?_
  · cases xu with
    | nil =>
      have h0 : io = 0 := by rw [← hio]; rfl
      subst h0
      repeat (first|refine QG ?_|refine QX (r:=by conv=>lhs;simp[-List.map_set,QV]) (k:=?_))
      exact ⟨by simp [Fr.only], by simp⟩
    | cons v r =>
      obtain ⟨h0, h1⟩ := hov v (by simp)
      obtain ⟨n, rfl⟩ : ∃ n : Nat, v = n := ⟨v.toNat, by omega⟩
      have hn : n < ts.length := by omega
      have h2 : io = ts[n] := by rw [← hio]; simp [Ss.insOut, hn]
      subst h2
      have hpos : (0 : Int) < ((r.length : Int) + 1) := by omega
      repeat (first|refine QG ?_|refine QX (r:=by conv=>lhs;simp[-List.map_set,QV,hn,hpos]) (k:=?_))
      exact ⟨by simp [Fr.only], by simp⟩
  rintro σ S' ⟨rfl, rfl⟩
  repeat refine QS ?_
  repeat refine QS ?_
  refine QD (r:=by conv=>lhs;simp[-List.map_set,QV]) (k:=?_)
  refine vcall_useH (cf') (by rfl) ?_
  refine QM (by conv=>lhs;simp[-List.map_set,QV]) ?_
  refine QN ?_
  by_cases h1 : rk = true
  case neg =>
    have h1' : rk = false := by simpa using h1
    repeat (first|refine QG ?_|refine QX (r:=by conv=>lhs;simp[-List.map_set,QV,h1']) (k:=?_))
    exact done_pure hwf (by simp [h1']) rfl
  repeat refine QS ?_
  refine QR (r:=by conv=>lhs;simp[-List.map_set,QV,h1]) (k:=?_)
  refine vcall_useH (ct) (by rfl) ?_
  refine QM (by conv=>lhs;simp[-List.map_set,QV]) ?_
  refine vcall_useH (ceq) (by rfl) ?_
  by_cases h3 : tt = ro
  case neg =>
    refine QM (by conv=>lhs;simp[-List.map_set,QV,h3]) ?_
    refine QN ?_
    repeat (first|refine QG ?_|refine QX (r:=by conv=>lhs;simp[-List.map_set,QV]) (k:=?_))
    exact done_pure hwf (by simp [h3]) rfl
  refine QM (by conv=>lhs;simp[-List.map_set,QV,h3]) ?_
  refine vcall_useH (ca') (by rfl) ?_
  refine QM (by conv=>lhs;simp[-List.map_set,QV]) ?_
  refine QN ?_
  repeat (first|refine QG ?_|refine QX (r:=by conv=>lhs;simp[-List.map_set,QV]) (k:=?_))
  exact done_pure hwf (by simp [h1, h3]) rfl
end Go.Vw
