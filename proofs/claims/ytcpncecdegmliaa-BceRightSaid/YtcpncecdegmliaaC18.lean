import Derived.Test.YtcpncecdegmliaaC16
import Derived.Test.YtcpncecdegmliaaC17
/-
  Part of the proof (texts SKinds, SSucc, VDeep).
-/
set_option linter.unusedVariables false
set_option linter.unusedSimpArgs false
namespace Ss
def isKind (t : Int) : Bool := decide (t = 127) || decide (t = 126)
def kinds (most : Nat) (l : List Int) : Bool := decide (l.length ≤ most) && l.all isKind
def Sig.right (s : Sig) : Bool := kinds 8 s.inn && kinds 8 s.out
def Env.right (e : Env) : Bool := decide (0 ≤ e.imports) && decide (e.imports ≤ e.sigs.length) && decide (e.sigs.length ≤ 64) && decide (e.muts.length = e.globals.length) && kinds 32 e.globals && e.sigs.all Sig.right
end Ss
namespace Go.Vw
open Go.Proofs Go.RowKit
set_option maxRecDepth 10000
set_option maxHeartbeats 1000000
theorem isKind_v (t : Int) : VPure Try.prog 75 [vint t] (.bool (Ss.isKind t)) := by
 intro S
 refine vcalls_start (c := bodyOf Try.f75) Try.func75 rfl rfl (by simp [Try.ntmps75]) ?_
 rw [Try.ntmps75]
 intro hwf
 by_cases h : t = 127
 ·repeat (first|refine QG ?_|refine QX (r:=by conv=>lhs;simp[-List.map_set,QV,h]) (k:=?_))
  exact done_pure hwf (by simp [Ss.isKind, h]) rfl
 ·repeat (first|refine QG ?_|refine QX (r:=by conv=>lhs;simp[-List.map_set,QV,h]) (k:=?_))
  exact done_pure hwf (by simp [Ss.isKind, h]) rfl
theorem kinds1_v (t : Int) : VPure Try.prog 74 ([vint t] ++ []) (.bool (!Ss.isKind t)) := by
 intro S
 refine vcalls_start (c := bodyOf Try.f74) Try.func74 rfl rfl (by simp [Try.ntmps74]) ?_
 rw [Try.ntmps74]
 intro hwf
 repeat (first|refine QG ?_|refine QX (r:=by conv=>lhs;simp[-List.map_set,QV]) (k:=?_))
 repeat refine QS ?_
 refine QR (r:=by conv=>lhs;simp[-List.map_set,QV]) (k:=?_)
 refine vcall_useH (isKind_v t) (by rfl) ?_
 refine QM (by conv=>lhs;simp[-List.map_set,QV]) ?_
 refine QN ?_
 repeat (first|refine QG ?_|refine QX (r:=by conv=>lhs;simp[-List.map_set,QV]) (k:=?_))
 exact done_pure hwf rfl rfl
theorem kinds_v (most : Nat) (l : List Int) (hl : l.length < 2^63) : VPure Try.prog 45 [vnat most, vl vint l] (.bool (Ss.kinds most l)) := by
 intro S
 have e : (!l.any fun t => !Ss.isKind t) = l.all Ss.isKind := by
  rw [List.not_any_eq_all_not]; congr 1; funext t; simp
 by_cases h : l.length ≤ most
 ·have h' : (l.length : Int) ≤ (most : Int) := by omega
  have hX : Ss.kinds most l = !l.any fun t => !Ss.isKind t := by rw [e]; simp [Ss.kinds, h]
  rw [hX]
  refine vcalls_start (c := bodyOf Try.f45) Try.func45 rfl rfl (by simp [Try.ntmps45]) ?_
  rw [Try.ntmps45]
  intro hwf
  repeat (first|refine QG ?_|refine QX (r:=by conv=>lhs;simp[-List.map_set,QV,h,h']) (k:=?_))
  repeat refine QS ?_
  refine QR (r:=by conv=>lhs;simp[-List.map_set,QV,h,h']) (k:=?_)
  refine vcall_useH (AnyI_v l (fun t => !Ss.isKind t) _ [] rfl hl (fun t _ => kinds1_v t)) (by rfl) ?_
  refine QM (by conv=>lhs;simp[-List.map_set,QV]) ?_
  refine QN ?_
  repeat (first|refine QG ?_|refine QX (r:=by conv=>lhs;simp[-List.map_set,QV]) (k:=?_))
  exact done_pure hwf (by simp) rfl
 ·have h' : ¬ (l.length : Int) ≤ (most : Int) := by omega
  have hX : Ss.kinds most l = false := by simp [Ss.kinds, h]
  rw [hX]
  refine vcalls_start (c := bodyOf Try.f45) Try.func45 rfl rfl (by simp [Try.ntmps45]) ?_
  rw [Try.ntmps45]
  intro hwf
  repeat (first|refine QG ?_|refine QX (r:=by conv=>lhs;simp[-List.map_set,QV,h,h']) (k:=?_))
  exact done_pure hwf rfl rfl
theorem sigRight_v (s : Ss.Sig) (hs : s.Fits) : VPure Try.prog 46 [encSig s] (.bool s.right) := by
 intro S
 obtain ⟨⟨h1, _⟩, ⟨h2, _⟩⟩ := hs
 obtain ⟨a, b⟩ := s
 simp only at h1 h2
 have hX : Ss.Sig.right ⟨a, b⟩ = (Ss.kinds 8 a && Ss.kinds 8 b) := rfl
 rw [hX]
 have c1 : VPure Try.prog 45 [.int .i64 8, vl vint a] (.bool (Ss.kinds 8 a)) := kinds_v 8 a (by omega)
 have c2 : VPure Try.prog 45 [.int .i64 8, vl vint b] (.bool (Ss.kinds 8 b)) := kinds_v 8 b (by omega)
 generalize Ss.kinds 8 a = x at *
 generalize Ss.kinds 8 b = y at *
 refine vcalls_start (c := bodyOf Try.f46) Try.func46 rfl rfl (by simp [Try.ntmps46]) ?_
 rw [Try.ntmps46]
 intro hwf
 repeat (first|refine QG ?_|refine QX (r:=by conv=>lhs;simp[-List.map_set,QV]) (k:=?_))
 repeat refine QS ?_
 refine QR (r:=by conv=>lhs;simp[-List.map_set,QV]) (k:=?_)
 refine vcall_useH (c1) (by rfl) ?_
 by_cases hx : x = true
 ·refine QM (by conv=>lhs;simp[-List.map_set,QV,hx]) ?_
  refine vcall_useH (c2) (by rfl) ?_
  refine QM (by conv=>lhs;simp[-List.map_set,QV]) ?_
  refine QN ?_
  repeat (first|refine QG ?_|refine QX (r:=by conv=>lhs;simp[-List.map_set,QV]) (k:=?_))
  exact done_pure hwf (by simp [hx]) rfl
 ·have hx' : x = false := by simpa using hx
  refine QM (by conv=>lhs;simp[-List.map_set,QV,hx']) ?_
  refine QN ?_
  repeat (first|refine QG ?_|refine QX (r:=by conv=>lhs;simp[-List.map_set,QV]) (k:=?_))
  exact done_pure hwf (by simp [hx']) rfl
theorem envRight1_v (s : Ss.Sig) (hs : s.Fits) : VPure Try.prog 71 ([encSig s] ++ []) (.bool (!s.right)) := by
 intro S
 have c1 := sigRight_v s hs
 obtain ⟨a, b⟩ := s
 have c1' : VPure Try.prog 46 [.agg [vl vint a, vl vint b]] (.bool (Ss.Sig.right ⟨a, b⟩)) := c1
 refine vcalls_start (c := bodyOf Try.f71) Try.func71 rfl rfl (by simp [Try.ntmps71]) ?_
 rw [Try.ntmps71]
 intro hwf
 repeat (first|refine QG ?_|refine QX (r:=by conv=>lhs;simp[-List.map_set,QV]) (k:=?_))
 repeat refine QS ?_
 refine QR (r:=by conv=>lhs;simp[-List.map_set,QV]) (k:=?_)
 refine vcall_useH (c1') (by rfl) ?_
 refine QM (by conv=>lhs;simp[-List.map_set,QV]) ?_
 refine QN ?_
 repeat (first|refine QG ?_|refine QX (r:=by conv=>lhs;simp[-List.map_set,QV]) (k:=?_))
 exact done_pure hwf rfl rfl
theorem EnvRight_v (e : Ss.Env) (he : e.Fits) : VPure Try.prog 43 [encEnv e] (.bool e.right) := by
 intro S
 obtain ⟨⟨h1, h2⟩, _, ⟨h4, _⟩, h5⟩ := he
 obtain ⟨sg, im, gl, mu, me⟩ := e
 simp only at h1 h2 h4 h5
 have ea : (!sg.any fun s => !s.right) = sg.all Ss.Sig.right := by
  rw [List.not_any_eq_all_not]; congr 1; funext t; simp
 have hX : Ss.Env.right ⟨sg, im, gl, mu, me⟩ = (decide (0 ≤ im) && decide (im ≤ sg.length) && decide (sg.length ≤ 64) && decide (mu.length = gl.length) && Ss.kinds 32 gl && !sg.any fun s => !s.right) := by rw [ea]; rfl
 rw [hX]
 have c1 : VPure Try.prog 45 [.int .i64 32, vl vint gl] (.bool (Ss.kinds 32 gl)) := kinds_v 32 gl (by omega)
 have c2 := AnyS_v sg (fun s => !s.right) 71 [] rfl (by omega) (fun s hs => envRight1_v s (h2 s hs))
 generalize Ss.kinds 32 gl = x at *
 generalize (sg.any fun s => !s.right) = y at *
 refine vcalls_start (c := bodyOf Try.f43) Try.func43 rfl rfl (by simp [Try.ntmps43]) ?_
 rw [Try.ntmps43]
 intro hwf
 by_cases k1 : im < 0
 ·repeat (first|refine QG ?_|refine QX (r:=by conv=>lhs;simp[-List.map_set,QV,k1]) (k:=?_))
  exact done_pure hwf (by simp; omega) rfl
 by_cases k2 : (sg.length : Int) < im
 ·repeat (first|refine QG ?_|refine QX (r:=by conv=>lhs;simp[-List.map_set,QV,k1,k2]) (k:=?_))
  exact done_pure hwf (by simp; omega) rfl
 by_cases k3 : (64 : Int) < (sg.length : Int)
 ·repeat (first|refine QG ?_|refine QX (r:=by conv=>lhs;simp[-List.map_set,QV,k1,k2,k3]) (k:=?_))
  exact done_pure hwf (by simp; omega) rfl
 by_cases k4 : mu.length = gl.length
 case neg =>
  have k4' : ¬ (mu.length : Int) = (gl.length : Int) := by omega
  repeat (first|refine QG ?_|refine QX (r:=by conv=>lhs;simp[-List.map_set,QV,k1,k2,k3,k4,k4']) (k:=?_))
  exact done_pure hwf (by simp [k4]) rfl
 have k4' : (mu.length : Int) = (gl.length : Int) := by omega
 have hp : (decide (0 ≤ im) && decide (im ≤ sg.length) && decide (sg.length ≤ 64) && decide (mu.length = gl.length)) = true := by simp [k4]; omega
 rw [hp]
 repeat (first|refine QG ?_|refine QX (r:=by conv=>lhs;simp[-List.map_set,QV,k1,k2,k3,k4,k4']) (k:=?_))
 repeat refine QS ?_
 refine QR (r:=by conv=>lhs;simp[-List.map_set,QV]) (k:=?_)
 refine vcall_useH (c1) (by rfl) ?_
 by_cases hx : x = true
 ·refine QM (by conv=>lhs;simp[-List.map_set,QV,hx]) ?_
  refine vcall_useH (c2) (by rfl) ?_
  refine QM (by conv=>lhs;simp[-List.map_set,QV]) ?_
  refine QN ?_
  repeat (first|refine QG ?_|refine QX (r:=by conv=>lhs;simp[-List.map_set,QV]) (k:=?_))
  exact done_pure hwf (by simp [hx]) rfl
 ·have hx' : x = false := by simpa using hx
  refine QM (by conv=>lhs;simp[-List.map_set,QV,hx']) ?_
  refine QN ?_
  repeat (first|refine QG ?_|refine QX (r:=by conv=>lhs;simp[-List.map_set,QV]) (k:=?_))
  exact done_pure hwf (by simp [hx']) rfl
theorem check1_v (b : Ss.Block) : VPure Try.prog 48 ([encBlock b] ++ []) (.bool (decide (256 < b.params.length))) := by
 intro S
 obtain ⟨ps, c, t⟩ := b
 refine vcalls_start (c := bodyOf Try.f48) Try.func48 rfl rfl (by simp [Try.ntmps48]) ?_
 rw [Try.ntmps48]
 intro hwf
 repeat (first|refine QG ?_|refine QX (r:=by conv=>lhs;simp[-List.map_set,QV]) (k:=?_))
 exact done_pure hwf (by simp; omega) rfl
end Go.Vw

namespace Ss
def rowOf (b : Block) : List Int := b.term.to.map Edge.to
def succs (bs : List Block) : List (List Int) := bs.map rowOf
end Ss
namespace Go.Vw
open Go.Proofs Go.RowKit
set_option maxRecDepth 10000
set_option maxHeartbeats 4000000
theorem count_mem : ∀ {bs : List Ss.Block} {b : Ss.Block}, b ∈ bs → b.code.length ≤ Ss.count bs
 | x :: bs, b, h => by
  simp only [Ss.count, List.map_cons, List.sum_cons]
  rcases List.mem_cons.1 h with rfl | h
  ·omega
  ·have := count_mem h
   simp only [Ss.count] at this
   omega
theorem small_blocks {f : Ss.Fn} (h : f.small = true) : f.types.length ≤ 4096 ∧ f.blocks.length ≤ 4096 ∧ (∀ b ∈ f.blocks, b.params.length ≤ 4096 ∧ b.term.to.length ≤ 4096 ∧ b.term.args.length ≤ 4096 ∧ b.code.length ≤ 4096) ∧ Ss.count f.blocks ≤ 4096 := by
 obtain ⟨h1, h2, h3⟩ := (Ss.small_iff f).1 h
 simp only [Ss.Fn.heads, Bool.and_eq_true, decide_eq_true_eq] at h1
 refine ⟨h1.1.1.1, h1.1.1.2, fun b hb => ?_, h3⟩
 have := h2 b hb
 simp only [Ss.Block.small, Bool.and_eq_true, decide_eq_true_eq] at this
 refine ⟨this.1.1.1.1, this.1.1.1.2, this.1.1.2, ?_⟩
 exact Nat.le_trans (count_mem hb) h3
theorem Succ_v (f : Ss.Fn) (hf : f.Fits) : VPure Try.prog 20 [encFn f] (vl (vl vint) (if f.small then Ss.succs f.blocks else [])) := by
 intro S
 have cs := small_v f hf
 have hsb := @small_blocks f
 generalize f.small = sm at *
 obtain ⟨⟨fi, fo⟩, ts, bs⟩ := f
 have cs' : VPure Try.prog 44 [.agg [vl vint fi, vl vint fo, vl vint ts, vl encBlock bs]] (.bool sm) := cs
 by_cases hs : sm = true
 case neg =>
  rw [if_neg hs]
  have hs' : sm = false := by simpa using hs
  refine vcalls_start (c := bodyOf Try.f20) Try.func20 rfl rfl (by simp [Try.ntmps20]) ?_
  rw [Try.ntmps20]
  intro hwf
  repeat (first|refine QG ?_|refine QX (r:=by conv=>lhs;simp[-List.map_set,QV]) (k:=?_))
  repeat refine QS ?_
  refine QR (r:=by conv=>lhs;simp[-List.map_set,QV]) (k:=?_)
  refine vcall_useH (cs') (by rfl) ?_
  refine QM (by conv=>lhs;simp[-List.map_set,QV,hs']) ?_
  refine QN ?_
  repeat (first|refine QG ?_|refine QX (r:=by conv=>lhs;simp[-List.map_set,QV]) (k:=?_))
  exact done_via (l := [_]) hwf (Ghost.toB (Ghost.nils_list _) _) rfl
 rw [if_pos hs]
 obtain ⟨_, hbl, hbf, _⟩ := hsb hs
 simp only at hbl hbf ⊢
 refine vcalls_start (c := bodyOf Try.f20) Try.func20 rfl rfl (by simp [Try.ntmps20]) ?_
 rw [Try.ntmps20]
 intro hwf
 repeat (first|refine QG ?_|refine QX (r:=by conv=>lhs;simp[-List.map_set,QV]) (k:=?_))
 repeat refine QS ?_
 refine QR (r:=by conv=>lhs;simp[-List.map_set,QV]) (k:=?_)
 refine vcall_useH (cs') (by rfl) ?_
 refine QM (by conv=>lhs;simp[-List.map_set,QV,hs]) ?_
 refine QN ?_
 repeat refine QS ?_
 refine vw_condF rfl rfl rfl ?_
 repeat refine QS ?_
 refine vw_skipAt rfl ?_
 repeat refine QS ?_
 refine QR (r:=by conv=>lhs;simp[-List.map_set,QV]) (k:=?_)
 refine QN ?_
 refine vw_void 3 1 rfl (by conv => lhs; simp [Fr.set]) ?_
 repeat (first|refine QG ?_|refine QX (r:=by conv=>lhs;simp[-List.map_set,QV]) (k:=?_))
 refine vw_only' [3, 13, 14, 15] (by conv => lhs; simp [Fr.only, Fr.look]) ?_
 refine vw_gc [1] hwf (by decide) (by simp [-List.map_set]) (by conv => lhs; simp [-List.map_set]) (by conv => lhs; simp [-List.map_set]) (by conv => lhs; simp [-List.map_set]) ?_
 repeat refine QS ?_
 refine vw_loopAt [3, 13, 14, 15] rfl (fun c σ S' => ∃ (k : Nat) (out : List (List Int)), k ≤ bs.length ∧ c = bs.length - k ∧ out.length = k ∧ out = (bs.take k).map Ss.rowOf ∧ σ = [(3, .slice (lid S.nx 0) 0 k), (13, vl encBlock bs), (14, vnat bs.length), (15, vnat k)] ∧ S' = St S [] [some (1, out.map (vl vint))]) bs.length ?_ ?_
 ·exact ⟨0, [], by omega, rfl, rfl, by simp, by simp [Fr.only], by simp⟩
 ·rintro c σ T ⟨k, out, hk, rfl, hol, ho, rfl, rfl⟩
  by_cases hkt : k < bs.length
  ·have hw := wrapNat hkt (by omega)
   obtain ⟨_, htl, _, _⟩ := hbf _ (List.getElem_mem hkt)
   obtain ⟨⟨ps, code, ⟨tk, ta, to, az⟩⟩, hx⟩ : ∃ b, bs[k] = b := ⟨_, rfl⟩
   rw [hx] at htl
   simp only at htl
   have htk : bs.take (k + 1) = bs.take k ++ [⟨ps, code, ⟨tk, ta, to, az⟩⟩] := by rw [List.take_add_one, List.getElem?_eq_getElem hkt, hx]; rfl
   repeat refine QS ?_
   refine QR (r:=by conv=>lhs;simp[-List.map_set,QV,hkt]) (k:=?_)
   refine QN ?_
   repeat refine QS ?_
   refine vw_condT rfl rfl rfl ?_
   repeat refine QS ?_
   refine vw_skipAt rfl ?_
   repeat refine QS ?_
   refine vw_blockAt 1 rfl rfl ?_
   repeat refine QS ?_
   refine QR (r:=by conv=>lhs;simp[-List.map_set,QV,hkt,hx]) (k:=?_)
   refine QN ?_
   repeat refine QS ?_
   refine QR (r:=by conv=>lhs;simp[-List.map_set,QV]) (k:=?_)
   refine QN ?_
   refine vw_void 6 1 rfl (by conv => lhs; simp [Fr.set]) ?_
   repeat (first|refine QG ?_|refine QX (r:=by conv=>lhs;simp[-List.map_set,QV]) (k:=?_))
   refine vw_only' [3, 6, 13, 14, 15, 21, 22, 23] (by conv => lhs; simp [Fr.only, Fr.look]) ?_
   refine vw_gc [0, 2] hwf (by decide) (by simp [-List.map_set]) (by conv => lhs; simp [-List.map_set]) (by conv => lhs; simp [-List.map_set]) (by conv => lhs; simp [-List.map_set]) ?_
   repeat refine QS ?_
   refine vw_loopAt [3, 6, 13, 14, 15, 21, 22, 23] rfl (fun c σ S' => ∃ (j : Nat) (r : List Int), j ≤ to.length ∧ c = to.length - j ∧ r.length = j ∧ r = (to.take j).map Ss.Edge.to ∧ σ = [(3, .slice (lid S.nx 0) 0 k), (6, .slice (lid S.nx 1) 0 j), (13, vl encBlock bs), (14, vnat bs.length), (15, vnat k), (21, vl encEdge to), (22, vnat to.length), (23, vnat j)] ∧ S' = St S [] [some (1, out.map (vl vint)), some (1, r.map vint)]) to.length ?_ ?_
   ·exact ⟨0, [], by omega, rfl, rfl, by simp, by simp [Fr.only], by simp⟩
   ·rintro c σ T ⟨j, r, hj, rfl, hrl, hr, rfl, rfl⟩
    by_cases hjt : j < to.length
    ·have hwj := wrapNat hjt (by omega)
     have hb : (j + 1) * 8 ≤ 140737488355328 := by omega
     have hb' : j + 1 ≤ 140737488355328 := by omega
     obtain ⟨⟨xt, xa⟩, hx2⟩ : ∃ b, to[j] = b := ⟨_, rfl⟩
     have htj : to.take (j + 1) = to.take j ++ [⟨xt, xa⟩] := by rw [List.take_add_one, List.getElem?_eq_getElem hjt, hx2]; rfl
     repeat (first|refine QG ?_|refine QX (r:=by conv=>lhs;simp[-List.map_set,QV,hjt,hx2,hb,hb',hrl]) (k:=?_))
     refine QA [0, 4] (h:=⟨?_, j + 1, r ++ [xt], hjt, rfl, by simp [hrl], by rw [htj, List.map_append, hr]; rfl, by simp [hwj], by simp⟩)
     omega
    ·have hje : j = to.length := by omega
     subst hje
     rw [List.take_length] at hr
     have hb : (k + 1) * 24 ≤ 140737488355328 := by omega
     have hb' : k + 1 ≤ 140737488355328 := by omega
     repeat refine QS ?_
     refine QR (r:=by conv=>lhs;simp[-List.map_set,QV,hjt]) (k:=?_)
     refine QN ?_
     repeat refine QS ?_
     refine vw_condF rfl rfl rfl ?_
     repeat refine QS ?_
     refine vw_exitAt 2 rfl rfl ?_
     refine vw_ghost' 6 rfl ((frz1 (k := 1) (len := to.length) (by simp) (by rfl) (all_closed1 vint (fun _ => rfl) _) (by simpa using hrl))) (by conv => lhs; simp [Fr.set]) ?_
     simp only [List.set_cons_succ, List.set_cons_zero]
     repeat (first|refine QG ?_|refine QX (r:=by conv=>lhs;simp[-List.map_set,QV,hb,hb',hol]) (k:=?_))
     refine QA [3] (h:=⟨?_, k + 1, out ++ [r], hkt, rfl, by simp [hol], by rw [htk, List.map_append, ← ho, hr]; rfl, by simp [hw], by simp [vl]⟩)
     omega
  ·have hke : k = bs.length := by omega
   subst hke
   rw [List.take_length] at ho
   repeat (first|refine QG ?_|refine QX (r:=by conv=>lhs;simp[-List.map_set,QV,hkt]) (k:=?_))
   rw [Ss.succs, ← ho]
   exact done_via hwf ((frz1 (by simp) (by rfl) (all_closed1 (vl vint) (fun _ => rfl) _) (by simpa using hol)).toB _) rfl
end Go.Vw

/-
 What is owned in depth: values of one's own that read as immutable ones; stores that become the base of others.
-/
namespace Go.Vw
open Go.RowKit
section
variable {P : Program} {N b b' : Nat} {Q : Exit → Fr → Store → Prop} {σ σ' : Fr} {S S' : Store}
theorem ExtB.weak {m m' : Imm} {β β' : Objs} {w w' : World} (h : b ≤ b') (k : ExtB b' m β w m' β' w') : ExtB b m β w m' β' w' :=
 ⟨k.imm, fun o ho => k.step o (Nat.lt_of_lt_of_le ho h), k.size, k.keep, k.os, k.tape, k.output⟩
theorem vw_base {c : Code} (h : b ≤ b') (k : VWp P N b' c Q σ S) : VWp P N b c Q σ S :=
 fun m β w a hS hF => wp_mono (k m β w a hS hF) fun e a' w' ⟨σ', S', m', β', q, r1, r2, r3⟩ => ⟨σ', S', m', β', q, r1, r2, r3.weak h⟩
theorem Reach.weak (h : b ≤ b') (k : Reach N b' σ S σ' S') : Reach N b σ S σ' S' := fun m β w a hS hF => by
 obtain ⟨m', β', h1, h2, h3⟩ := k m β w a hS hF
 exact ⟨m', β', h1, h2, h3.weak h⟩
theorem again_base {I : Nat → Fr → Store → Prop} {ks : List Nat} {n : Nat} (h : b ≤ b') (k : Again N b' I ks n σ S) : Again N b I ks n σ S := by
 obtain ⟨n', h1, σc, Sc, h2, h3⟩ := k
 exact ⟨n', h1, σc, Sc, h2.weak h, h3⟩
end
theorem lid_lid' (b j k : Nat) : lid (lid b j) k = lid b (j + k) := by simp [lid]; omega
theorem St_sink {B : Store} {u : Upds} {l m : List (Option (Nat × List V))} : St B u (l ++ m) = St (St B u l) [] m := by
 refine Store.ext' (funext fun o => ?_) ?_
 ·have e : (St B u l).nx = B.nx + l.length := by rw [St_nx, lid]
  rw [St_at, St_at, e, St_at]
  simp only [uGet]
  by_cases h1 : o < B.nx
  ·rw [if_pos h1, if_pos (by omega), if_pos h1]
  ·rw [if_neg h1]
   by_cases h2 : o < B.nx + l.length
   ·rw [if_pos h2, if_neg h1, List.getElem?_append_left (by omega)]
   ·rw [if_neg h2, List.getElem?_append_right (by omega)]
    congr 2; omega
 ·rw [St_nx, St_nx, St_nx, lid_lid']; simp
theorem St_sink1 {B : Store} {u : Upds} {c : Option (Nat × List V)} {m : List (Option (Nat × List V))} : St B u (c :: m) = St (St B u [c]) [] m := St_sink (l := [c])
mutual
theorem ids_mono {p q : Nat → Bool} (h : ∀ o, p o = true → q o = true) : ∀ x : V, x.ids p = true → x.ids q = true
 | .agg xs, hx => by simp only [V.ids] at hx ⊢; exact idsL_mono h xs hx
 | .tuple xs, hx => by simp only [V.ids] at hx ⊢; exact idsL_mono h xs hx
 | .func _ xs, hx => by simp only [V.ids] at hx ⊢; exact idsL_mono h xs hx
 | .slice o _ _, hx => by simp only [V.ids] at hx ⊢; exact h o hx
 | .ptr o _, hx => by simp only [V.ids] at hx ⊢; exact h o hx
 | .map o, hx => by simp only [V.ids] at hx ⊢; exact h o hx
 | .junk, _ => by simp [V.ids]
 | .bool _, _ | .int _ _, _ | .str _, _ | .nils, _ | .nilp, _ | .nilf, _ | .nilm, _ | .list _, _ | .ref _, _ => by simp [V.ids]
theorem idsL_mono {p q : Nat → Bool} (h : ∀ o, p o = true → q o = true) : ∀ xs : List V, V.idsL p xs = true → V.idsL q xs = true
 | [], _ => by simp [V.idsL]
 | x :: xs, hx => by
  simp only [V.idsL, Bool.and_eq_true] at hx ⊢
  exact ⟨ids_mono h x hx.1, idsL_mono h xs hx.2⟩
end
theorem St_wf {B : Store} (hw : B.Wf) {l : List (Option (Nat × List V))} (h : l.all (fun c => match c with | some c => V.idsL (fun o => decide (o < lid B.nx l.length)) c.2 | none => true) = true) : (St B [] l).Wf := by
 refine ⟨fun o ho => ?_, fun o c hc => ?_⟩
 ·rw [St_nx] at ho
  simp only [lid] at ho
  rw [St_at, if_neg (by omega), List.getElem?_eq_none (by omega)]; rfl
 ·rw [St_at] at hc
  rw [St_nx]
  by_cases h1 : o < B.nx
  ·rw [if_pos h1] at hc
   have := hw.ids o c hc
   simp only [idsL_eq, List.all_eq_true] at this ⊢
   intro x hx
   have h2 := this x hx
   have hle : B.nx ≤ lid B.nx l.length := by rw [lid]; omega
   exact ids_mono (fun o ho => by rw [decide_eq_true_eq] at ho ⊢; exact Nat.lt_of_lt_of_le ho hle) x h2
  ·rw [if_neg h1] at hc
   have hm : some c ∈ l := by
    cases hl : l[o - B.nx]? with
    | none => rw [hl] at hc; cases hc
    | some d => rw [hl] at hc; simp only [Option.join_some] at hc; subst hc; exact List.mem_of_getElem? hl
   simp only [List.all_eq_true] at h
   exact h _ hm
/-! ### Ownership -/
inductive Ty
 | c
 | s (tys : List Ty)
def reps (n : Nat) (tys : List Ty) : List Ty := (List.replicate n tys).flatten
theorem reps_zero (tys : List Ty) : reps 0 tys = [] := rfl
theorem reps_succ (n : Nat) (tys : List Ty) : reps (n + 1) tys = tys ++ reps n tys := by simp [reps, List.replicate_succ]
theorem reps_snoc (n : Nat) (tys : List Ty) : reps (n + 1) tys = reps n tys ++ tys := by simp [reps, List.replicate_succ', List.flatten_append]
theorem reps_add (n m : Nat) (tys : List Ty) : reps (n + m) tys = reps n tys ++ reps m tys := by
 induction n with
 | zero => simp [reps]
 | succ n ih => rw [Nat.add_right_comm, reps_succ, reps_succ, ih, List.append_assoc]
theorem reps_len (n : Nat) (tys : List Ty) : (reps n tys).length = n * tys.length := by
 induction n with
 | zero => simp [reps]
 | succ n ih => rw [reps_succ, List.length_append, ih, Nat.succ_mul]; omega
inductive OwL (S : Store) : List Ty → List V → List V → List Nat → Prop
 | nil : OwL S [] [] [] []
 | c {ts : List Ty} {rs xs : List V} {j : List Nat} {x : V} (h : x.closed1 = true) (t : OwL S ts rs xs j) : OwL S (.c :: ts) (x :: rs) (x :: xs) j
 | s {tys ts : List Ty} {rs xs cells ys : List V} {i j : List Nat} {o : Nat} (h : S.get o = some (tys.length, cells)) (hs : ∀ y ∈ ys, y.cells.length = tys.length ∧ y.closed = true) (d : OwL S (reps ys.length tys) cells (ys.flatMap V.cells) i) (t : OwL S ts rs xs j) :
   OwL S (.s tys :: ts) (.slice o 0 ys.length :: rs) (.list ys :: xs) (o :: (i ++ j))
theorem OwL.len {S : Store} {ts : List Ty} {rs xs : List V} {ids : List Nat} (h : OwL S ts rs xs ids) : rs.length = ts.length ∧ xs.length = ts.length := by
 induction h with
 | nil => exact ⟨rfl, rfl⟩
 | c _ _ ih => simp [ih]
 | s _ _ _ _ _ ih => simp [ih]
theorem OwL.mono {S S' : Store} {ts : List Ty} {rs xs : List V} {ids : List Nat} (h : OwL S ts rs xs ids) : (∀ o ∈ ids, S'.get o = S.get o) → OwL S' ts rs xs ids := by
 induction h with
 | nil => exact fun _ => .nil
 | c h _ ih => exact fun hk => .c h (ih hk)
 | s h hs _ _ ih1 ih2 => exact fun hk => .s ((hk _ (by simp)).trans h) hs (ih1 fun o ho => hk o (by simp [ho])) (ih2 fun o ho => hk o (by simp [ho]))
theorem OwL.append {S : Store} {ts us : List Ty} {rs xs ps qs : List V} {i j : List Nat} (h : OwL S ts rs xs i) (k : OwL S us ps qs j) : OwL S (ts ++ us) (rs ++ ps) (xs ++ qs) (i ++ j) := by
 induction h with
 | nil => exact k
 | c h _ ih => exact .c h ih
 | s h hs d _ _ ih => simpa [List.append_assoc] using OwL.s h hs d ih
theorem OwL.split {S : Store} {us : List Ty} : ∀ {ts : List Ty} {rs xs : List V} {ids : List Nat}, OwL S (ts ++ us) rs xs ids → ∃ r1 r2 x1 x2 i1 i2, rs = r1 ++ r2 ∧ xs = x1 ++ x2 ∧ ids = i1 ++ i2 ∧ OwL S ts r1 x1 i1 ∧ OwL S us r2 x2 i2
 | [], rs, xs, ids, h => ⟨[], rs, [], xs, [], ids, rfl, rfl, rfl, .nil, h⟩
 | t :: ts, rs, xs, ids, h => by
  cases h with
  | c hc k =>
   obtain ⟨r1, r2, x1, x2, i1, i2, rfl, rfl, rfl, k1, k2⟩ := OwL.split k
   exact ⟨_ :: r1, r2, _ :: x1, x2, i1, i2, rfl, rfl, rfl, .c hc k1, k2⟩
  | s ho hs d k =>
   obtain ⟨r1, r2, x1, x2, i1, i2, rfl, rfl, rfl, k1, k2⟩ := OwL.split k
   exact ⟨_ :: r1, r2, _ :: x1, x2, _ :: (_ ++ i1), i2, rfl, rfl, by simp, .s ho hs d k1, k2⟩
theorem OwL.closed {S : Store} {ts : List Ty} {rs xs : List V} {ids : List Nat} (h : OwL S ts rs xs ids) : ∀ x ∈ xs, x.closed1 = true := by
 induction h with
 | nil => simp
 | c h _ ih => intro x hx; rcases List.mem_cons.1 hx with rfl | hx; exact h; exact ih x hx
 | s _ _ _ _ _ ih => intro x hx; rcases List.mem_cons.1 hx with rfl | hx; rfl; exact ih x hx
theorem OwL.alive {S : Store} {ts : List Ty} {rs xs : List V} {ids : List Nat} (h : OwL S ts rs xs ids) : ∀ o ∈ ids, (S.get o).isSome = true := by
 induction h with
 | nil => simp
 | c h _ ih => exact ih
 | s h _ _ _ ih1 ih2 =>
  intro o ho
  rcases List.mem_cons.1 ho with rfl | ho
  ·rw [h]; rfl
  ·rcases List.mem_append.1 ho with ho | ho
   ·exact ih1 o ho
   ·exact ih2 o ho
theorem OwL.cells {S : Store} {ts : List Ty} {rs xs : List V} {ids : List Nat} (h : OwL S ts rs xs ids) : ∀ r ∈ rs, r.closed1 = true ∨ ∃ o n, r = .slice o 0 n := by
 induction h with
 | nil => simp
 | c h _ ih => intro x hx; rcases List.mem_cons.1 hx with rfl | hx; exact .inl h; exact ih x hx
 | s _ _ _ _ _ ih => intro x hx; rcases List.mem_cons.1 hx with rfl | hx; exact .inr ⟨_, _, rfl⟩; exact ih x hx
theorem OwL.all_c {S : Store} : ∀ {xs : List V}, (∀ x ∈ xs, x.closed1 = true) → OwL S (List.replicate xs.length .c) xs xs []
 | [], _ => .nil
 | x :: xs, h => .c (h x (by simp)) (OwL.all_c fun y hy => h y (by simp [hy]))
theorem repL_cons {m : Imm} {β : Objs} {x : V} {xs : List V} {vs : List Value} (h : RepL m β (x :: xs) vs) : ∃ v r, vs = v :: r ∧ Rep m β x v ∧ RepL m β xs r := by
 cases vs with
 | nil => have := h.1; simp at this
 | cons v r => exact ⟨v, r, rfl, h.2 0 x v rfl rfl, by have := h.1; simpa using this, fun i y u hy hu => h.2 (i + 1) y u (by simpa using hy) (by simpa using hu)⟩
theorem dels_cons_upd {S : Store} {o : Nat} {i : List Nat} {c : Nat × List V} : ((S.dels i).upd o c).del o = S.dels (o :: i) := by
 refine Store.ext' (funext fun o' => ?_) (by simp only [Store.del, Store.upd]; rw [dels_nx, dels_nx])
 rw [del_at, upd_at, dels_at, dels_at]
 by_cases h : o' = o <;> simp [h]
theorem dels_app (S : Store) (i j : List Nat) : S.dels (i ++ j) = (S.dels i).dels j := by simp [Store.dels, List.foldl_append]
theorem OwL.freeze {S0 : Store} {ts : List Ty} {rs xs : List V} {ids : List Nat} (h : OwL S0 ts rs xs ids) : ids.Nodup → ∀ S : Store, (∀ o ∈ ids, S.get o = S0.get o) → GhostArgs rs S xs (S.dels ids) := by
 induction h with
 | nil => exact fun _ S _ m β w vs hS hr => ⟨m, β, hS, Ext.refl _ _ _, hr⟩
 | @c ts rs xs j x h _ ih =>
  intro hn S hk m β w vs hS hr
  obtain ⟨v, r, rfl, h1, h2⟩ := repL_cons hr
  obtain ⟨m', β', k1, k2, k3⟩ := ih hn S hk m β w r hS h2
  exact ⟨m', β', k1, k2, k3.cons (k2.rep h1)⟩
 | @s tys ts rs xs cells ys i j o h hs d t ih1 ih2 =>
  intro hn S hk m β w vs hS hr
  obtain ⟨v, r, rfl, h1, h2⟩ := repL_cons hr
  obtain ⟨hno, hnij⟩ := List.nodup_cons.1 hn
  obtain ⟨hni, hnj, hd⟩ := List.nodup_append.1 hnij
  have hoi : o ∉ i := fun h => hno (by simp [h])
  have hoj : o ∉ j := fun h => hno (by simp [h])
  have hget : S.get o = some (tys.length, cells) := (hk o (by simp)).trans h
  -- the object's cells become immutable
  have step1 : ∃ m1 β1, Holds ((S.dels i).upd o (tys.length, ys.flatMap V.cells)) m1 β1 w ∧ Ext m β w m1 β1 w := by
   have hl := hS.live o _ hget
   have hlen : cells.length = (ys.flatMap V.cells).length := by rw [d.len.1, d.len.2]
   have hgi : (S.dels i).get o = some (tys.length, cells) := by rw [dels_at, if_neg hoi]; exact hget
   cases hβ : β o with
   | fresh => rw [hβ] at hl; exact hl.elim
   | dead => rw [hβ] at hl; exact hl.elim
   | void =>
    rw [hβ] at hl
    simp only [Live] at hl
    subst hl
    obtain ⟨m1, β1, k1, k2, _⟩ := ih1 hni S (fun o ho => hk o (by simp [ho])) m β w [] hS (RepL.nil _ _)
    have e : ys.flatMap V.cells = [] := List.eq_nil_of_length_eq_zero (by rw [← hlen]; rfl)
    rw [e]
    refine ⟨m1, β1, ?_, k2⟩
    have : (S.dels i).upd o (tys.length, []) = S.dels i := by
     refine Store.ext' (funext fun o' => ?_) rfl
     rw [upd_at]
     split
     ·rename_i e'; subst e'; exact hgi.symm
     ·rfl
    rw [this]; exact k1
   | mp b' =>
    rw [hβ] at hl
    obtain ⟨es, clock, e1, e2, e3⟩ := hl
    have hz : cells = [] := by
     cases cells with
     | nil => rfl
     | cons c0 cr =>
      exfalso
      have hi2 : 0 < es.size := by simp only [List.length_cons] at e2; omega
      obtain ⟨k, v, e4, _⟩ := e3 0 c0 es[0] rfl (Array.getElem?_eq_getElem hi2)
      subst e4
      rcases d.cells _ (List.mem_cons_self) with h | ⟨_, _, h⟩
      ·simp [V.closed1] at h
      ·cases h
    subst hz
    obtain ⟨m1, β1, k1, k2, _⟩ := ih1 hni S (fun o ho => hk o (by simp [ho])) m β w [] hS (RepL.nil _ _)
    have e : ys.flatMap V.cells = [] := List.eq_nil_of_length_eq_zero (by rw [← hlen]; rfl)
    rw [e]
    refine ⟨m1, β1, ?_, k2⟩
    have : (S.dels i).upd o (tys.length, []) = S.dels i := by
     refine Store.ext' (funext fun o' => ?_) rfl
     rw [upd_at]
     split
     ·rename_i e'; subst e'; exact hgi.symm
     ·rfl
    rw [this]; exact k1
   | lies b base s n =>
    rw [hβ] at hl
    obtain ⟨h0, arr, T, e1, e2, e3, e4⟩ := hl
    simp only at e3 e4
    have hvs : RepL m β cells ((List.range cells.length).map fun q => arr.getD (base + q) undef) := by
     refine ⟨by simp, fun q x u hx hu => ?_⟩
     obtain ⟨u', f1, f2, _⟩ := e4 q x hx
     have hq : q < cells.length := (List.getElem?_eq_some_iff.1 hx).1
     simp only [List.getElem?_map, List.getElem?_range hq, Option.map_some, Option.some.injEq] at hu
     subst hu
     have : arr.getD (base + q) undef = u' := by rw [Array.getD_eq_getD_getElem?, f1]; rfl
     rw [this]; exact f2
    obtain ⟨m1, β1, k1, k2, k3⟩ := ih1 hni S (fun o ho => hk o (by simp [ho])) m β w _ hS hvs
    have hb' : β1 o = .lies b base s n := by
     rcases k2.step o (by rw [hβ]; exact Loc.noConfusion) with h' | h'
     ·rw [h', hβ]
     ·have := k1.live o _ hgi
      rw [h'] at this; exact this.elim
    refine ⟨m1, β1, ?_, k2⟩
    refine k1.reseen hgi hb' e1 _ hlen.symm fun q x u hx hu => ?_
    have hq : q < cells.length := by rw [hlen]; exact (List.getElem?_eq_some_iff.1 hx).1
    refine k3.2 q x u hx ?_
    simp only [List.getElem?_map, List.getElem?_range hq, Option.map_some, Option.some.injEq]
    rw [Array.getD_eq_getD_getElem?, hu]; rfl
  obtain ⟨m1, β1, k1, k2⟩ := step1
  -- the slice becomes a list
  have hg : Ghost (.slice o 0 ys.length) ((S.dels i).upd o (tys.length, ys.flatMap V.cells)) (.list ys) (S.dels (o :: i)) := by
   rw [← dels_cons_upd (c := (tys.length, ys.flatMap V.cells))]
   let enc : {y // y ∈ ys} → V := fun y => y.1
   have e1 : flatC enc ys.attach = ys.flatMap V.cells := by
    have : ys.attach.map enc = ys := List.attach_map_subtype_val ys
    calc flatC enc ys.attach = (ys.attach.map enc).flatMap V.cells := by simp [flatC, List.flatMap_map]
     _ = _ := by rw [this]
   have e2 : vl enc ys.attach = .list ys := by
    show V.list _ = _
    rw [List.attach_map_subtype_val]
   have := frzS (enc := enc) (s := tys.length) (fun y => (hs y.1 y.2).1) (fun y => (hs y.1 y.2).2) (S := (S.dels i).upd o (tys.length, ys.flatMap V.cells)) (o := o) ys.attach (by rw [e1]; exact upd_new)
   rw [e2, List.length_attach] at this
   exact this
  obtain ⟨m2, β2, q1, q2, q3⟩ := hg m1 β1 w v k1 (k2.rep h1)
  have hkj : ∀ o' ∈ j, (S.dels (o :: i)).get o' = S0.get o' := by
   intro o' ho'
   have hm : ¬ o' ∈ o :: i := by
    intro hm
    rcases List.mem_cons.1 hm with rfl | hm
    ·exact hoj ho'
    ·exact hd o' hm o' ho' rfl
   rw [dels_at, if_neg hm]
   exact hk o' (by simp [ho'])
  obtain ⟨m3, β3, p1, p2, p3⟩ := ih2 hnj (S.dels (o :: i)) hkj m2 β2 w r q1 ⟨h2.1, fun a x u hx hu => q2.rep (k2.rep (h2.2 a x u hx hu))⟩
  refine ⟨m3, β3, ?_, (k2.trans q2).trans p2, p3.cons (p2.rep q3)⟩
  rw [show o :: (i ++ j) = (o :: i) ++ j from rfl, dels_app]
  exact p1
theorem reps_c (n s : Nat) : reps n (List.replicate s .c) = List.replicate (n * s) .c := by
 induction n with
 | zero => simp [reps]
 | succ n ih => rw [reps_succ, ih, List.replicate_append_replicate, Nat.succ_mul, Nat.add_comm]
theorem flatC_map {α : Type} (enc : α → V) (ls : List α) : (ls.map enc).flatMap V.cells = flatC enc ls := by simp [flatC, List.flatMap_map]
theorem OwL.flat {α : Type} {enc : α → V} {s : Nat} (hs : ∀ a, (enc a).cells.length = s) (hc : ∀ a, (enc a).closed = true) {S : Store} (ls : List α) : OwL S (reps ls.length (List.replicate s .c)) (flatC enc ls) (flatC enc ls) [] := by
 have h := OwL.all_c (S := S) (xs := flatC enc ls) (by simpa using flatC_closed hc ls)
 rwa [flatC_len hs, ← reps_c] at h
theorem OwL.slice {α : Type} {enc : α → V} {s : Nat} (hs : ∀ a, (enc a).cells.length = s) (hc : ∀ a, (enc a).closed = true) {S : Store} {o : Nat} (ls : List α) (hg : S.get o = some (s, flatC enc ls)) {ts : List Ty} {rs xs : List V} {j : List Nat} (t : OwL S ts rs xs j) :
  OwL S (.s (List.replicate s .c) :: ts) (.slice o 0 ls.length :: rs) (vl enc ls :: xs) (o :: j) := by
 have := OwL.s (S := S) (o := o) (tys := List.replicate s .c) (cells := flatC enc ls) (ys := ls.map enc) (i := []) (by rw [List.length_replicate]; exact hg)
  (fun y hy => by obtain ⟨a, _, rfl⟩ := List.mem_map.1 hy; exact ⟨by rw [hs, List.length_replicate], hc a⟩) (by rw [List.length_map, flatC_map]; exact OwL.flat hs hc ls) t
 rw [List.length_map] at this
 exact this
theorem OwL.old {S : Store} {n : Nat} {ts : List Ty} {rs xs : List V} {ids : List Nat} (h : OwL S ts rs xs ids) (hn : ∀ o ∈ ids, o < n) (ks : List Nat) : V.idsL (gcP n ks) rs = true ∧ V.renL (gcTo n ks) rs = rs := by
 induction h with
 | nil => exact ⟨by simp [V.idsL], by simp [V.renL]⟩
 | @c ts rs xs j x h _ ih =>
  obtain ⟨h1, h2⟩ := ih hn
  have e1 : x.ids (gcP n ks) = true := by cases x <;> first | (simp [V.ids]; done) | (simp [V.closed1] at h)
  have e2 : x.ren (gcTo n ks) = x := by cases x <;> first | (simp [V.ren]; done) | (simp [V.closed1] at h)
  exact ⟨by simp [V.idsL, e1, h1], by simp [V.renL, e2, h2]⟩
 | @s tys ts rs xs cells ys i j o h hs d t ih1 ih2 =>
  obtain ⟨h1, h2⟩ := ih2 fun o ho => hn o (by simp [ho])
  have ho := hn o (by simp)
  exact ⟨by simp [V.idsL, V.ids, gcP_old ks ho, h1], by simp [V.renL, V.ren, gcTo_old ks ho, h2]⟩
theorem closed1_ids {x : V} (h : x.closed1 = true) (p : Nat → Bool) : x.ids p = true := by cases x <;> first | (simp [V.ids]; done) | (simp [V.closed1] at h)
theorem OwL.ids_lt {S : Store} {p : Nat → Bool} {ts : List Ty} {rs xs : List V} {ids : List Nat} (h : OwL S ts rs xs ids) (hn : ∀ o ∈ ids, p o = true) : V.idsL p rs = true := by
 induction h with
 | nil => simp [V.idsL]
 | c h _ ih => simp [V.idsL, closed1_ids h, ih hn]
 | @s tys ts rs xs cells ys i j o h hs d t ih1 ih2 => simp [V.idsL, V.ids, hn o (by simp), ih2 fun o ho => hn o (by simp [ho])]
theorem vseg_nil {P : Program} {z : Option ZZ} {r : List CO} {K : Fr → Store → Prop} {σ : Fr} {T : Store} (h : T.Wf) (k : vsegG P z r K σ (St T [] [])) : vsegG P z r K σ T := by rwa [St_nil h] at k
theorem vw_nil {P : Program} {N b : Nat} {Q : Exit → Fr → Store → Prop} {σ : Fr} {T : Store} {c : Code} (h : T.Wf) (k : VWp P N b c Q σ (St T [] [])) : VWp P N b c Q σ T := by rwa [St_nil h] at k
theorem lid_lt (b j k : Nat) : (lid b j < lid b k) = (j < k) := by simp [lid]
theorem upd_wf {S : Store} (h : S.Wf) {o : Nat} {c : Nat × List V} (ho : o < S.nx) (hc : V.idsL (fun o => decide (o < S.nx)) c.2 = true) : (S.upd o c).Wf := by
 refine ⟨fun o' ho' => ?_, fun o' c' hc' => ?_⟩
 ·have h1 : S.nx ≤ o' := ho'
  rw [upd_at, if_neg (by omega)]; exact h.gone o' h1
 ·rw [upd_at] at hc'
  split at hc'
  ·cases hc'; exact hc
  ·exact h.ids o' c' hc'
theorem done_gc {S : Store} {l l' : List (Option (Nat × List V))} {r r' : V} {R : V → Store → Prop} (ks : List Nat) (hw : S.Wf) (h1 : ks.Nodup) (h2 : (gcOkL S.nx ks l ks && r.ids (gcP S.nx ks)) = true) (hl : gcL S.nx ks l ks = l') (hr : r.ren (gcTo S.nx ks) = r') (hR : R r' (St S [] l')) : PostB S.nx R r (St S [] l) := by
 obtain ⟨h3, h4⟩ := Bool.and_eq_true_iff.1 h2
 have h := gc_ren (u := []) hw h1 rfl h3
 subst hl
 subst hr
 exact ⟨_, _, GhostB.ren h (ren_back (fun o ho => gc_back o ho) r h4).symm, hR⟩
theorem own_closed {S : Store} : ∀ {n : Nat} {rs xs : List V} {ids : List Nat}, OwL S (List.replicate n .c) rs xs ids → rs = xs ∧ ids = []
 | 0, rs, xs, ids, h => by
  generalize hr : List.replicate 0 Ty.c = ts at h
  cases h with
  | nil => exact ⟨rfl, rfl⟩
  | c _ _ => cases hr
  | s _ _ _ _ => cases hr
 | n + 1, rs, xs, ids, h => by
  rw [List.replicate_succ] at h
  cases h with
  | c h t =>
   obtain ⟨rfl, rfl⟩ := own_closed t
   exact ⟨rfl, rfl⟩
theorem ghost_agg {rs xs : List V} {S S' : Store} (h : GhostArgs rs S xs S') : Ghost (.agg rs) S (.agg xs) S' := by
 intro m β w v hS hr
 obtain ⟨vs, rfl, hl, hr, hone⟩ := hr.inv_agg
 obtain ⟨m', β', h1, h2, h3⟩ := h m β w vs hS ⟨hl, hr⟩
 exact ⟨m', β', h1, h2, .agg xs vs h3.1 h3.2 hone⟩
end Go.Vw
