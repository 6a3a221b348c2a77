import Derived.Test.YtenhhokhkkfgbaaGreatC26
import Derived.Test.YtenhhokhkkfgbaaGreatC22
import Derived.Test.YtenhhokhkkfgbaaGreatC25
/-
  Part of the proof (texts SRepl).
-/
set_option linter.unusedVariables false
set_option linter.unusedSimpArgs false
namespace Go.Vw
open Go.Proofs Go.RowKit
set_option maxRecDepth 10000
set_option maxHeartbeats 2000000
theorem CloneO_v (S : Store) (l : List Int) (hl : l.length ≤ 1048576) : VCalls Tryz.prog 67 [vl vint l] S (fun r T => r = .slice (lid S.nx 0) 0 l.length ∧ T = St S [] [some (1, l.map vint)]) := by
 refine vcalls_start (c := bodyOf Tryz.f67) Tryz.func67 rfl rfl (by simp [Tryz.ntmps67]) ?_
 rw [Tryz.ntmps67]
 intro hwf
 repeat refine QS ?_
 refine QR (r:=by conv=>lhs;simp[-List.map_set,QV]) (k:=?_)
 refine QN ?_
 repeat refine QS ?_
 refine vw_isnil (l := l.map vint) rfl rfl (by rfl) rfl rfl rfl rfl (by rfl) rfl rfl Tryz.underlying23 rfl ?_
 intro b hb
 simp only [Fr.set]
 by_cases h : b = true
 ·have hl0 : l = [] := by simpa using hb h
  subst hl0
  subst h
  repeat (first|refine QG ?_|refine QX (r:=by conv=>lhs;simp[-List.map_set,QV]) (k:=?_))
  exact ⟨_, _, (Ghost.nils (St S [] []) 1).toB _, by rw [St_nx]; rfl, by rw [St_add]; rfl⟩
 ·have h' : b = false := by simpa using h
  subst h'
  have hb1 : l.length * 8 ≤ 140737488355328 := by omega
  have hb2 : l.length ≤ 140737488355328 := by omega
  repeat (first|refine QG ?_|refine QX (r:=by conv=>lhs;simp[-List.map_set,QV,hb1,hb2,opAppend_vl,nc_vint,flatC_vint,rep0]) (k:=?_))
  exact done_gc [1] hwf (by decide) (by simp) (by simp; rfl) (by simp; rfl) ⟨by simp, by simp⟩
theorem Clone_v (l : List Int) (hl : l.length ≤ 1048576) : VPure Tryz.prog 67 [vl vint l] (vl vint l) := by
 intro S
 refine vcalls_wf fun hwf => vcalls_postB ((CloneO_v S l hl).mono ?_)
 rintro r T ⟨rfl, rfl⟩
 exact done_via hwf ((frz1 (k := 0) (by simp) (by rfl) (all_closed1 vint (fun _ => rfl) _) (by simp)).toB _) rfl
theorem one_v (v : Int) (to : List Int) (ht : to.length < 2^63) : VPure Tryz.prog 69 ([vint v] ++ [.ref (vl vint to)]) (vint (Ss.putv to v)) := by
 intro S
 refine vcalls_start (c := bodyOf Tryz.f69) Tryz.func69 rfl rfl (by simp [Tryz.ntmps69]) ?_
 rw [Tryz.ntmps69]
 intro hwf
 by_cases h1 : 0 ≤ v
 ·obtain ⟨n, rfl⟩ : ∃ n : Nat, v = n := ⟨v.toNat, by omega⟩
  by_cases h2 : n < to.length
  ·repeat (first|refine QG ?_|refine QX (r:=by conv=>lhs;simp[-List.map_set,QV,h2]) (k:=?_))
   exact done_pure hwf (by simp [Ss.putv, h2]) rfl
  ·repeat (first|refine QG ?_|refine QX (r:=by conv=>lhs;simp[-List.map_set,QV,h2]) (k:=?_))
   exact done_pure hwf (by simp [Ss.putv, h2]) rfl
 ·repeat (first|refine QG ?_|refine QX (r:=by conv=>lhs;simp[-List.map_set,QV,h1]) (k:=?_))
  exact done_pure hwf (by simp [Ss.putv, h1]) rfl
theorem allO_v (S : Store) (l to : List Int) (ps : Nat) (hps : S.get ps = some (1, [.func 69 [.ref (vl vint to)]])) (hl : l.length ≤ 1048576) (ht : to.length < 2^63) : VCalls Tryz.prog 70 ([vl vint l] ++ [.ptr ps 0]) S (fun r T => r = .slice (lid S.nx 0) 0 l.length ∧ T = St S [] [some (1, (l.map (Ss.putv to)).map vint)]) := by
 have cp := fun v => one_v v to ht
 generalize Ss.putv to = g at *
 refine vcalls_start (c := bodyOf Tryz.f70) Tryz.func70 rfl rfl (by simp [Tryz.ntmps70]) ?_
 rw [Tryz.ntmps70]
 intro hwf
 have hpn := old_lt hwf hps
 have p1 := fun u l => @St_old S u l _ hpn
 have pP := fun ks => gcP_old (n := S.nx) ks hpn
 have pT := fun ks => gcTo_old (n := S.nx) ks hpn
 repeat refine QS ?_
 refine QR (r:=by conv=>lhs;simp[-List.map_set,QV]) (k:=?_)
 refine QN ?_
 repeat refine QS ?_
 refine QR (r:=by conv=>lhs;simp[-List.map_set,QV]) (k:=?_)
 refine QN ?_
 refine vw_void 4 1 rfl (by conv => lhs; simp [Fr.set]) ?_
 repeat (first|refine QG ?_|refine QX (r:=by conv=>lhs;simp[-List.map_set,QV]) (k:=?_))
 repeat refine QS ?_
 refine vw_loopAt [1, 4, 7, 8, 9] rfl (fun c σ S' => ∃ (k : Nat) (out : List Int), k ≤ l.length ∧ c = l.length - k ∧ out = (l.take k).map g ∧ out.length = k ∧ σ = [(1, .ptr ps 0), (4, .slice (lid S.nx 0) 0 k), (7, vl vint l), (8, vnat l.length), (9, vnat k)] ∧ S' = St S [] [some (1, out.map vint)]) l.length ?_ ?_
 ·exact ⟨0, [], by omega, rfl, by simp, rfl, by simp [Fr.only], by simp⟩
 ·rintro c σ T ⟨k, out, hk, rfl, ho, hlen, rfl, rfl⟩
  by_cases hkt : k < l.length
  ·have hw := wrapNat hkt (by omega)
   have cpk := cp l[k]
   have htk : (l.take (k + 1)).map g = (l.take k).map g ++ [g l[k]] := by rw [List.take_add_one, List.getElem?_eq_getElem hkt, List.map_append]; rfl
   generalize g l[k] = gv at *
   have hb : (k + 1) * 8 ≤ 140737488355328 := by omega
   have hb' : k + 1 ≤ 140737488355328 := by omega
   repeat (first|refine QG ?_|refine QX (r:=by conv=>lhs;simp[-List.map_set,QV,hkt]) (k:=?_))
   repeat refine QS ?_
   refine QR (r:=by conv=>lhs;simp[-List.map_set,QV,hkt,p1,hps]) (k:=?_)
   refine vcallv_useH (cpk) (by rfl) (by rfl) (by rfl) ?_
   refine QM (by conv=>lhs;simp[-List.map_set,QV,hb,hb',hlen]) ?_
   refine QN ?_
   repeat (first|refine QG ?_|refine QX (r:=by conv=>lhs;simp[-List.map_set,QV,hb,hb',hlen,hw]) (k:=?_))
   refine again_gc [2] (by conv => lhs; simp [Fr.only]) hwf (by decide) (by simp [-List.map_set, pP, pT]) (by conv => lhs; simp [-List.map_set, pP, pT]) (by conv => lhs; simp [-List.map_set, pP, pT]) (by conv => lhs; simp [-List.map_set, pP, pT]) ⟨?_, k + 1, out ++ [gv], hkt, rfl, by rw [htk, ho], by simp [hlen], by simp [hw], by simp⟩
   omega
  ·have hke : k = l.length := by omega
   subst hke
   rw [List.take_length] at ho
   repeat (first|refine QG ?_|refine QX (r:=by conv=>lhs;simp[-List.map_set,QV,hkt]) (k:=?_))
   rw [← ho]
   exact done_as ⟨by simp, rfl⟩
end Go.Vw
