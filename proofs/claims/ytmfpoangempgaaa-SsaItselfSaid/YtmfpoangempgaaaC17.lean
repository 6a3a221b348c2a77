import Derived.Test.YtmfpoangempgaaaC15
import Derived.Test.YtmfpoangempgaaaC16
/-
  Part of the proof (texts SKinds, SSucc).
-/
set_option linter.unusedVariables false
set_option linter.unusedSimpArgs false
namespace Ss
def isKind (t : Int) : Bool := decide (t = 127) || decide (t = 126)
def kinds (most : Nat) (l : List Int) : Bool := decide (l.length ≤ most) && l.all isKind
def Sig.right (s : Sig) : Bool := kinds 8 s.inn && kinds 8 s.out
def Env.right (e : Env) : Bool := decide (0 ≤ e.imports) && decide (e.imports ≤ e.sigs.length) && decide (e.sigs.length ≤ 64) && decide (e.muts.length = e.globals.length) && kinds 32 e.globals && e.sigs.all Sig.right
end Ss
namespace Go.Vw
open Go.Proofs Go.RowKit
set_option maxRecDepth 10000
set_option maxHeartbeats 1000000

theorem isKind_v (t : Int) : VPure Try.prog 55 [vint t] (.bool (Ss.isKind t)) := by
  intro S
  refine vcalls_start (c := bodyOf Try.f55) Try.func55 rfl rfl (by simp [Try.ntmps55]) ?_
  rw [Try.ntmps55]
  intro hwf
  by_cases h : t = 127
  · repeat (first|refine QG ?_|refine QX (r:=by conv=>lhs;simp[-List.map_set,QV,h]) (k:=?_))
    exact done_pure hwf (by simp [Ss.isKind, h]) rfl
  · repeat (first|refine QG ?_|refine QX (r:=by conv=>lhs;simp[-List.map_set,QV,h]) (k:=?_))
    exact done_pure hwf (by simp [Ss.isKind, h]) rfl
theorem kinds1_v (t : Int) : VPure Try.prog 54 ([vint t] ++ []) (.bool (!Ss.isKind t)) := by
  intro S
  refine vcalls_start (c := bodyOf Try.f54) Try.func54 rfl rfl (by simp [Try.ntmps54]) ?_
  rw [Try.ntmps54]
  intro hwf
  repeat (first|refine QG ?_|refine QX (r:=by conv=>lhs;simp[-List.map_set,QV]) (k:=?_))
  repeat refine QS ?_
  refine QR (r:=by conv=>lhs;simp[-List.map_set,QV]) (k:=?_)
  refine vcall_useH (isKind_v t) (by rfl) ?_
  refine QM (by conv=>lhs;simp[-List.map_set,QV]) ?_
  refine QN ?_
  repeat (first|refine QG ?_|refine QX (r:=by conv=>lhs;simp[-List.map_set,QV]) (k:=?_))
  exact done_pure hwf rfl rfl
theorem kinds_v (most : Nat) (l : List Int) (hl : l.length < 2^63) : VPure Try.prog 30 [vnat most, vl vint l] (.bool (Ss.kinds most l)) := by
  intro S
  have e : (!l.any fun t => !Ss.isKind t) = l.all Ss.isKind := by
    rw [List.not_any_eq_all_not]; congr 1; funext t; simp
  by_cases h : l.length ≤ most
  · have h' : (l.length : Int) ≤ (most : Int) := by omega
    have hX : Ss.kinds most l = !l.any fun t => !Ss.isKind t := by rw [e]; simp [Ss.kinds, h]
    rw [hX]
    refine vcalls_start (c := bodyOf Try.f30) Try.func30 rfl rfl (by simp [Try.ntmps30]) ?_
    rw [Try.ntmps30]
    intro hwf
    repeat (first|refine QG ?_|refine QX (r:=by conv=>lhs;simp[-List.map_set,QV,h,h']) (k:=?_))
    repeat refine QS ?_
    refine QR (r:=by conv=>lhs;simp[-List.map_set,QV,h,h']) (k:=?_)
    refine vcall_useH (AnyI_v l (fun t => !Ss.isKind t) _ [] rfl hl (fun t _ => kinds1_v t)) (by rfl) ?_
    refine QM (by conv=>lhs;simp[-List.map_set,QV]) ?_
    refine QN ?_
    repeat (first|refine QG ?_|refine QX (r:=by conv=>lhs;simp[-List.map_set,QV]) (k:=?_))
    exact done_pure hwf (by simp) rfl
  · have h' : ¬ (l.length : Int) ≤ (most : Int) := by omega
    have hX : Ss.kinds most l = false := by simp [Ss.kinds, h]
    rw [hX]
    refine vcalls_start (c := bodyOf Try.f30) Try.func30 rfl rfl (by simp [Try.ntmps30]) ?_
    rw [Try.ntmps30]
    intro hwf
    repeat (first|refine QG ?_|refine QX (r:=by conv=>lhs;simp[-List.map_set,QV,h,h']) (k:=?_))
    exact done_pure hwf rfl rfl
theorem sigRight_v (s : Ss.Sig) (hs : s.Fits) : VPure Try.prog 31 [encSig s] (.bool s.right) := by
  intro S
  obtain ⟨⟨h1, _⟩, ⟨h2, _⟩⟩ := hs
  obtain ⟨a, b⟩ := s
  simp only at h1 h2
  have hX : Ss.Sig.right ⟨a, b⟩ = (Ss.kinds 8 a && Ss.kinds 8 b) := rfl
  rw [hX]
  have c1 : VPure Try.prog 30 [.int .i64 8, vl vint a] (.bool (Ss.kinds 8 a)) := kinds_v 8 a (by omega)
  have c2 : VPure Try.prog 30 [.int .i64 8, vl vint b] (.bool (Ss.kinds 8 b)) := kinds_v 8 b (by omega)
  generalize Ss.kinds 8 a = x at *
  generalize Ss.kinds 8 b = y at *
  refine vcalls_start (c := bodyOf Try.f31) Try.func31 rfl rfl (by simp [Try.ntmps31]) ?_
  rw [Try.ntmps31]
  intro hwf
  repeat (first|refine QG ?_|refine QX (r:=by conv=>lhs;simp[-List.map_set,QV]) (k:=?_))
  repeat refine QS ?_
  refine QR (r:=by conv=>lhs;simp[-List.map_set,QV]) (k:=?_)
  refine vcall_useH (c1) (by rfl) ?_
  by_cases hx : x = true
  · refine QM (by conv=>lhs;simp[-List.map_set,QV,hx]) ?_
    refine vcall_useH (c2) (by rfl) ?_
    refine QM (by conv=>lhs;simp[-List.map_set,QV]) ?_
    refine QN ?_
    repeat (first|refine QG ?_|refine QX (r:=by conv=>lhs;simp[-List.map_set,QV]) (k:=?_))
    exact done_pure hwf (by simp [hx]) rfl
  · have hx' : x = false := by simpa using hx
    refine QM (by conv=>lhs;simp[-List.map_set,QV,hx']) ?_
    refine QN ?_
    repeat (first|refine QG ?_|refine QX (r:=by conv=>lhs;simp[-List.map_set,QV]) (k:=?_))
    exact done_pure hwf (by simp [hx']) rfl
theorem envRight1_v (s : Ss.Sig) (hs : s.Fits) : VPure Try.prog 52 ([encSig s] ++ []) (.bool (!s.right)) := by
  intro S
  have c1 := sigRight_v s hs
  obtain ⟨a, b⟩ := s
  have c1' : VPure Try.prog 31 [.agg [vl vint a, vl vint b]] (.bool (Ss.Sig.right ⟨a, b⟩)) := c1
  refine vcalls_start (c := bodyOf Try.f52) Try.func52 rfl rfl (by simp [Try.ntmps52]) ?_
  rw [Try.ntmps52]
  intro hwf
  repeat (first|refine QG ?_|refine QX (r:=by conv=>lhs;simp[-List.map_set,QV]) (k:=?_))
  repeat refine QS ?_
  refine QR (r:=by conv=>lhs;simp[-List.map_set,QV]) (k:=?_)
  refine vcall_useH (c1') (by rfl) ?_
  refine QM (by conv=>lhs;simp[-List.map_set,QV]) ?_
  refine QN ?_
  repeat (first|refine QG ?_|refine QX (r:=by conv=>lhs;simp[-List.map_set,QV]) (k:=?_))
  exact done_pure hwf rfl rfl
theorem EnvRight_v (e : Ss.Env) (he : e.Fits) : VPure Try.prog 29 [encEnv e] (.bool e.right) := by
  intro S
  obtain ⟨⟨h1, h2⟩, _, ⟨h4, _⟩, h5⟩ := he
  obtain ⟨sg, im, gl, mu, me⟩ := e
  simp only at h1 h2 h4 h5
  have ea : (!sg.any fun s => !s.right) = sg.all Ss.Sig.right := by
    rw [List.not_any_eq_all_not]; congr 1; funext t; simp
  have hX : Ss.Env.right ⟨sg, im, gl, mu, me⟩ = (decide (0 ≤ im) && decide (im ≤ sg.length) && decide (sg.length ≤ 64) && decide (mu.length = gl.length) && Ss.kinds 32 gl && !sg.any fun s => !s.right) := by rw [ea]; rfl
  rw [hX]
  have c1 : VPure Try.prog 30 [.int .i64 32, vl vint gl] (.bool (Ss.kinds 32 gl)) := kinds_v 32 gl (by omega)
  have c2 := AnyS_v sg (fun s => !s.right) 52 [] rfl (by omega) (fun s hs => envRight1_v s (h2 s hs))
  generalize Ss.kinds 32 gl = x at *
  generalize (sg.any fun s => !s.right) = y at *
  refine vcalls_start (c := bodyOf Try.f29) Try.func29 rfl rfl (by simp [Try.ntmps29]) ?_
  rw [Try.ntmps29]
  intro hwf
  by_cases k1 : im < 0
  · repeat (first|refine QG ?_|refine QX (r:=by conv=>lhs;simp[-List.map_set,QV,k1]) (k:=?_))
    exact done_pure hwf (by simp; omega) rfl
  by_cases k2 : (sg.length : Int) < im
  · repeat (first|refine QG ?_|refine QX (r:=by conv=>lhs;simp[-List.map_set,QV,k1,k2]) (k:=?_))
    exact done_pure hwf (by simp; omega) rfl
  by_cases k3 : (64 : Int) < (sg.length : Int)
  · repeat (first|refine QG ?_|refine QX (r:=by conv=>lhs;simp[-List.map_set,QV,k1,k2,k3]) (k:=?_))
    exact done_pure hwf (by simp; omega) rfl
  by_cases k4 : mu.length = gl.length
  case neg =>
    have k4' : ¬ (mu.length : Int) = (gl.length : Int) := by omega
    repeat (first|refine QG ?_|refine QX (r:=by conv=>lhs;simp[-List.map_set,QV,k1,k2,k3,k4,k4']) (k:=?_))
    exact done_pure hwf (by simp [k4]) rfl
  have k4' : (mu.length : Int) = (gl.length : Int) := by omega
  have hp : (decide (0 ≤ im) && decide (im ≤ sg.length) && decide (sg.length ≤ 64) && decide (mu.length = gl.length)) = true := by simp [k4]; omega
  rw [hp]
  repeat (first|refine QG ?_|refine QX (r:=by conv=>lhs;simp[-List.map_set,QV,k1,k2,k3,k4,k4']) (k:=?_))
  repeat refine QS ?_
  refine QR (r:=by conv=>lhs;simp[-List.map_set,QV]) (k:=?_)
  refine vcall_useH (c1) (by rfl) ?_
  by_cases hx : x = true
  · refine QM (by conv=>lhs;simp[-List.map_set,QV,hx]) ?_
    refine vcall_useH (c2) (by rfl) ?_
    refine QM (by conv=>lhs;simp[-List.map_set,QV]) ?_
    refine QN ?_
    repeat (first|refine QG ?_|refine QX (r:=by conv=>lhs;simp[-List.map_set,QV]) (k:=?_))
    exact done_pure hwf (by simp [hx]) rfl
  · have hx' : x = false := by simpa using hx
    refine QM (by conv=>lhs;simp[-List.map_set,QV,hx']) ?_
    refine QN ?_
    repeat (first|refine QG ?_|refine QX (r:=by conv=>lhs;simp[-List.map_set,QV]) (k:=?_))
    exact done_pure hwf (by simp [hx']) rfl
theorem check1_v (b : Ss.Block) : VPure Try.prog 33 ([encBlock b] ++ []) (.bool (decide (256 < b.params.length))) := by
  intro S
  obtain ⟨ps, c, t⟩ := b
  refine vcalls_start (c := bodyOf Try.f33) Try.func33 rfl rfl (by simp [Try.ntmps33]) ?_
  rw [Try.ntmps33]
  intro hwf
  repeat (first|refine QG ?_|refine QX (r:=by conv=>lhs;simp[-List.map_set,QV]) (k:=?_))
  exact done_pure hwf (by simp; omega) rfl
end Go.Vw

namespace Ss
def rowOf (b : Block) : List Int := b.term.to.map Edge.to
def succs (bs : List Block) : List (List Int) := bs.map rowOf
end Ss
namespace Go.Vw
open Go.Proofs Go.RowKit
set_option maxRecDepth 10000
set_option maxHeartbeats 4000000

theorem count_mem : ∀ {bs : List Ss.Block} {b : Ss.Block}, b ∈ bs → b.code.length ≤ Ss.count bs
  | x :: bs, b, h => by
    simp only [Ss.count, List.map_cons, List.sum_cons]
    rcases List.mem_cons.1 h with rfl | h
    · omega
    · have := count_mem h
      simp only [Ss.count] at this
      omega
theorem small_blocks {f : Ss.Fn} (h : f.small = true) : f.types.length ≤ 4096 ∧ f.blocks.length ≤ 4096 ∧ (∀ b ∈ f.blocks, b.params.length ≤ 4096 ∧ b.term.to.length ≤ 4096 ∧ b.term.args.length ≤ 4096 ∧ b.code.length ≤ 4096) ∧ Ss.count f.blocks ≤ 4096 := by
  obtain ⟨h1, h2, h3⟩ := (Ss.small_iff f).1 h
  simp only [Ss.Fn.heads, Bool.and_eq_true, decide_eq_true_eq] at h1
  refine ⟨h1.1.1.1, h1.1.1.2, fun b hb => ?_, h3⟩
  have := h2 b hb
  simp only [Ss.Block.small, Bool.and_eq_true, decide_eq_true_eq] at this
  refine ⟨this.1.1.1.1, this.1.1.1.2, this.1.1.2, ?_⟩
  exact Nat.le_trans (count_mem hb) h3

theorem Succ_v (f : Ss.Fn) (hf : f.Fits) : VPure Try.prog 28 [encFn f] (vl (vl vint) (if f.small then Ss.succs f.blocks else [])) := by
  intro S
  have cs := small_v f hf
  have hsb := @small_blocks f
  generalize f.small = sm at *
  obtain ⟨⟨fi, fo⟩, ts, bs⟩ := f
  have cs' : VPure Try.prog 16 [.agg [vl vint fi, vl vint fo, vl vint ts, vl encBlock bs]] (.bool sm) := cs
  by_cases hs : sm = true
  case neg =>
    rw [if_neg hs]
    have hs' : sm = false := by simpa using hs
    refine vcalls_start (c := bodyOf Try.f28) Try.func28 rfl rfl (by simp [Try.ntmps28]) ?_
    rw [Try.ntmps28]
    intro hwf
    repeat (first|refine QG ?_|refine QX (r:=by conv=>lhs;simp[-List.map_set,QV]) (k:=?_))
    repeat refine QS ?_
    refine QR (r:=by conv=>lhs;simp[-List.map_set,QV]) (k:=?_)
    refine vcall_useH (cs') (by rfl) ?_
    refine QM (by conv=>lhs;simp[-List.map_set,QV,hs']) ?_
    refine QN ?_
    repeat (first|refine QG ?_|refine QX (r:=by conv=>lhs;simp[-List.map_set,QV]) (k:=?_))
    exact done_via (l := [_]) hwf (Ghost.toB (Ghost.nils_list _) _) rfl
  rw [if_pos hs]
  obtain ⟨_, hbl, hbf, _⟩ := hsb hs
  simp only at hbl hbf ⊢
  refine vcalls_start (c := bodyOf Try.f28) Try.func28 rfl rfl (by simp [Try.ntmps28]) ?_
  rw [Try.ntmps28]
  intro hwf
  repeat (first|refine QG ?_|refine QX (r:=by conv=>lhs;simp[-List.map_set,QV]) (k:=?_))
  repeat refine QS ?_
  refine QR (r:=by conv=>lhs;simp[-List.map_set,QV]) (k:=?_)
  refine vcall_useH (cs') (by rfl) ?_
  refine QM (by conv=>lhs;simp[-List.map_set,QV,hs]) ?_
  refine QN ?_
  repeat refine QS ?_
  refine vw_condF rfl rfl rfl ?_
  repeat refine QS ?_
  refine vw_skipAt rfl ?_
  repeat refine QS ?_
  refine QR (r:=by conv=>lhs;simp[-List.map_set,QV]) (k:=?_)
  refine QN ?_
  refine vw_void 3 1 rfl (by conv => lhs; simp [Fr.set]) ?_
  repeat (first|refine QG ?_|refine QX (r:=by conv=>lhs;simp[-List.map_set,QV]) (k:=?_))
  refine vw_only' [3, 13, 14, 15] (by conv => lhs; simp [Fr.only, Fr.look]) ?_
  refine vw_gc [1] hwf (by decide) (by simp [-List.map_set]) (by conv => lhs; simp [-List.map_set]) (by conv => lhs; simp [-List.map_set]) (by conv => lhs; simp [-List.map_set]) ?_
  repeat refine QS ?_
  refine vw_loopAt [3, 13, 14, 15] rfl (fun c σ S' => ∃ (k : Nat) (out : List (List Int)), k ≤ bs.length ∧ c = bs.length - k ∧ out.length = k ∧ out = (bs.take k).map Ss.rowOf ∧ σ = [(3, .slice (lid S.nx 0) 0 k), (13, vl encBlock bs), (14, vnat bs.length), (15, vnat k)] ∧ S' = St S [] [some (1, out.map (vl vint))]) bs.length ?_ ?_
  · exact ⟨0, [], by omega, rfl, rfl, by simp, by simp [Fr.only], by simp⟩
  · rintro c σ T ⟨k, out, hk, rfl, hol, ho, rfl, rfl⟩
    by_cases hkt : k < bs.length
    · have hw := wrapNat hkt (by omega)
      obtain ⟨_, htl, _, _⟩ := hbf _ (List.getElem_mem hkt)
      obtain ⟨⟨ps, code, ⟨tk, ta, to, az⟩⟩, hx⟩ : ∃ b, bs[k] = b := ⟨_, rfl⟩
      rw [hx] at htl
      simp only at htl
      have htk : bs.take (k + 1) = bs.take k ++ [⟨ps, code, ⟨tk, ta, to, az⟩⟩] := by rw [List.take_add_one, List.getElem?_eq_getElem hkt, hx]; rfl
      repeat refine QS ?_
      refine QR (r:=by conv=>lhs;simp[-List.map_set,QV,hkt]) (k:=?_)
      refine QN ?_
      repeat refine QS ?_
      refine vw_condT rfl rfl rfl ?_
      repeat refine QS ?_
      refine vw_skipAt rfl ?_
      repeat refine QS ?_
      refine vw_blockAt 1 rfl rfl ?_
      repeat refine QS ?_
      refine QR (r:=by conv=>lhs;simp[-List.map_set,QV,hkt,hx]) (k:=?_)
      refine QN ?_
      repeat refine QS ?_
      refine QR (r:=by conv=>lhs;simp[-List.map_set,QV]) (k:=?_)
      refine QN ?_
      refine vw_void 6 1 rfl (by conv => lhs; simp [Fr.set]) ?_
      repeat (first|refine QG ?_|refine QX (r:=by conv=>lhs;simp[-List.map_set,QV]) (k:=?_))
      refine vw_only' [3, 6, 13, 14, 15, 21, 22, 23] (by conv => lhs; simp [Fr.only, Fr.look]) ?_
      refine vw_gc [0, 2] hwf (by decide) (by simp [-List.map_set]) (by conv => lhs; simp [-List.map_set]) (by conv => lhs; simp [-List.map_set]) (by conv => lhs; simp [-List.map_set]) ?_
      repeat refine QS ?_
      refine vw_loopAt [3, 6, 13, 14, 15, 21, 22, 23] rfl (fun c σ S' => ∃ (j : Nat) (r : List Int), j ≤ to.length ∧ c = to.length - j ∧ r.length = j ∧ r = (to.take j).map Ss.Edge.to ∧ σ = [(3, .slice (lid S.nx 0) 0 k), (6, .slice (lid S.nx 1) 0 j), (13, vl encBlock bs), (14, vnat bs.length), (15, vnat k), (21, vl encEdge to), (22, vnat to.length), (23, vnat j)] ∧ S' = St S [] [some (1, out.map (vl vint)), some (1, r.map vint)]) to.length ?_ ?_
      · exact ⟨0, [], by omega, rfl, rfl, by simp, by simp [Fr.only], by simp⟩
      · rintro c σ T ⟨j, r, hj, rfl, hrl, hr, rfl, rfl⟩
        by_cases hjt : j < to.length
        · have hwj := wrapNat hjt (by omega)
          have hb : (j + 1) * 8 ≤ 140737488355328 := by omega
          have hb' : j + 1 ≤ 140737488355328 := by omega
          obtain ⟨⟨xt, xa⟩, hx2⟩ : ∃ b, to[j] = b := ⟨_, rfl⟩
          have htj : to.take (j + 1) = to.take j ++ [⟨xt, xa⟩] := by rw [List.take_add_one, List.getElem?_eq_getElem hjt, hx2]; rfl
          repeat (first|refine QG ?_|refine QX (r:=by conv=>lhs;simp[-List.map_set,QV,hjt,hx2,hb,hb',hrl]) (k:=?_))
          refine QA [0, 4] (h:=⟨?_, j + 1, r ++ [xt], hjt, rfl, by simp [hrl], by rw [htj, List.map_append, hr]; rfl, by simp [hwj], by simp⟩)
          omega
        · have hje : j = to.length := by omega
          subst hje
          rw [List.take_length] at hr
          have hb : (k + 1) * 24 ≤ 140737488355328 := by omega
          have hb' : k + 1 ≤ 140737488355328 := by omega
          repeat refine QS ?_
          refine QR (r:=by conv=>lhs;simp[-List.map_set,QV,hjt]) (k:=?_)
          refine QN ?_
          repeat refine QS ?_
          refine vw_condF rfl rfl rfl ?_
          repeat refine QS ?_
          refine vw_exitAt 2 rfl rfl ?_
          refine vw_ghost' 6 rfl ((frz1 (k := 1) (len := to.length) (by simp) (by rfl) (all_closed1 vint (fun _ => rfl) _) (by simpa using hrl))) (by conv => lhs; simp [Fr.set]) ?_
          simp only [List.set_cons_succ, List.set_cons_zero]
          repeat (first|refine QG ?_|refine QX (r:=by conv=>lhs;simp[-List.map_set,QV,hb,hb',hol]) (k:=?_))
          refine QA [3] (h:=⟨?_, k + 1, out ++ [r], hkt, rfl, by simp [hol], by rw [htk, List.map_append, ← ho, hr]; rfl, by simp [hw], by simp [vl]⟩)
          omega
    · have hke : k = bs.length := by omega
      subst hke
      rw [List.take_length] at ho
      repeat (first|refine QG ?_|refine QX (r:=by conv=>lhs;simp[-List.map_set,QV,hkt]) (k:=?_))
      rw [Ss.succs, ← ho]
      exact done_via hwf ((frz1 (by simp) (by rfl) (all_closed1 (vl vint) (fun _ => rfl) _) (by simpa using hol)).toB _) rfl
end Go.Vw
