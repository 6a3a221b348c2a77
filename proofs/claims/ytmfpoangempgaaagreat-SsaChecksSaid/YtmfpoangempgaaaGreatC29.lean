import Derived.Test.YtmfpoangempgaaaGreatC23
import Derived.Test.YtmfpoangempgaaaGreatC16
import Derived.Test.YtmfpoangempgaaaGreatC28
import Derived.Test.YtmfpoangempgaaaGreatC18
import Derived.Test.YtmfpoangempgaaaGreatC22
/-
  Part of the proof (texts SRing, SRing2, SShape, SChk).
-/
set_option linter.unusedVariables false
set_option linter.unusedSimpArgs false
namespace Go.Vw
open Go.Proofs Go.RowKit
set_option maxRecDepth 10000
set_option maxHeartbeats 4000000

theorem rings11_v (x : Ss.Ins) : VPure Tryz.prog 72 ([encIns x] ++ []) (.bool (decide (x.op = 258))) := by
  intro S
  obtain ⟨o, n, a, u⟩ := x
  refine vcalls_start (c := bodyOf Tryz.f72) Tryz.func72 rfl rfl (by simp [Tryz.ntmps72]) ?_
  rw [Tryz.ntmps72]
  intro hwf
  repeat (first|refine QG ?_|refine QX (r:=by conv=>lhs;simp[-List.map_set,QV]) (k:=?_))
  exact done_pure hwf (by simp) rfl

theorem tick_v (l : List Ss.Ins) (hl : l.length < 2^63) : VPure Tryz.prog 71 [vl encIns l, .func 72 []] (.bool (l.any fun x => decide (x.op = 258))) :=
  AnyN_v l (fun x => decide (x.op = 258)) _ [] rfl hl (fun x _ => rings11_v x)

theorem rings1_v (f : Ss.Fn) (g : List (List Nat)) (hgl : g.length = f.blocks.length) (hgb : g.length < 2^62) (hrow : ∀ r ∈ g, r.length < 2^62 ∧ ∀ k ∈ r, k < g.length) (hcode : ∀ b ∈ f.blocks, b.code.length < 2^63) :
    ∀ (fuel n : Nat) (st : List Nat) (r : Bool) (s : List Nat) (S : Store) (ps os pw : Nat), n < g.length → st.length = g.length → S.get ps = some (1, [.slice os 0 g.length]) → S.get os = some (1, st.map vnat) →
      S.get pw = some (1, [.func 70 [.ref (encFn f), .ptr ps 0, .ref (vl (vl vnat) g), .ptr pw 0]]) → ps ≠ os → pw ≠ os → Ss.ringW (f.blocks.map Ss.tickB) g fuel n st = some (r, s) →
      VCalls Tryz.prog 70 [vnat n, .ref (encFn f), .ptr ps 0, .ref (vl (vl vnat) g), .ptr pw 0] S (fun x T => x = .bool r ∧ T = S.upd os (1, s.map vnat)) := by
  intro fuel
  induction fuel with
  | zero => intro n st r s S ps os pw _ _ _ _ _ _ _ h; rw [Ss.ringW] at h; cases h
  | succ fuel ih =>
    intro n st r s S ps os pw hn hsl hps hos hpw h1 h2 hr
    obtain ⟨⟨fi, fo⟩, ts, bs⟩ := f
    simp only at hgl hcode hr
    have hnb : n < bs.length := by omega
    have hns : n < st.length := by omega
    have hct := tick_v _ (hcode _ (List.getElem_mem hnb))
    obtain ⟨⟨bp, bc, ⟨tk, ta, to, az⟩⟩, hx⟩ : ∃ b, bs[n] = b := ⟨_, rfl⟩
    have htk : (bs.map Ss.tickB).getD n false = bc.any fun x => decide (x.op = 258) := by simp [hnb, hx, Ss.tickB]
    rw [hx] at hct
    simp only at hct
    rw [Ss.ringW, htk] at hr
    generalize (bc.any fun x => decide (x.op = 258)) = tb at *
    refine vcalls_start (c := bodyOf Tryz.f70) Tryz.func70 rfl rfl (by simp [Tryz.ntmps70]) ?_
    rw [Tryz.ntmps70]
    intro hwf
    have psn := old_lt hwf hps
    have osn := old_lt hwf hos
    have pwn := old_lt hwf hpw
    have ops := fun u l => @St_old S u l ps psn
    have oos := fun u l => @St_old S u l os osn
    have opw := fun u l => @St_old S u l pw pwn
    have hupd := fun u l c => @St_updOld S u l c os osn
    rw [St_touch hos]
    have fin : ∀ (b : Bool) (d : List Nat) (v : V), v = .bool b → r = b → s = d → PostB S.nx (fun x T => x = .bool r ∧ T = S.upd os (1, s.map vnat)) v (St S [(os, some (1, d.map vnat))] []) := by
      rintro b d v rfl rfl rfl
      refine done_turned (X := .bool r) (S' := S.upd os (1, s.map vnat)) hwf rfl rfl (by simp [gcOkU, gcOkE, idsL_vnat]) ?_ ⟨rfl, rfl⟩
      simp only [gcU, gcE, Option.map_some, renL_vnat]
      exact St_upd1 hwf osn
    repeat refine QS ?_
    refine QR (r:=by conv=>lhs;simp[-List.map_set,QV]) (k:=?_)
    refine QN ?_
    repeat refine QS ?_
    refine QR (r:=by conv=>lhs;simp[-List.map_set,QV,hnb,hx]) (k:=?_)
    refine vcall_useH (hct) (by rfl) ?_
    by_cases ht : tb = true
    · rw [if_pos ht] at hr
      cases hr
      refine QM (by conv=>lhs;simp[-List.map_set,QV,ht]) ?_
      refine QN ?_
      repeat (first|refine QG ?_|refine QX (r:=by conv=>lhs;simp[-List.map_set,QV]) (k:=?_))
      exact fin _ _ _ (by simp) rfl rfl
    have ht' : tb = false := by simpa using ht
    rw [if_neg ht] at hr
    have hgd : g.getD n [] = g[n] := by simp [hn]
    rw [hgd] at hr
    obtain ⟨hrl, hrk⟩ := hrow _ (List.getElem_mem hn)
    obtain ⟨row, hrow'⟩ : ∃ row, g[n] = row := ⟨_, rfl⟩
    rw [hrow'] at hr hrl hrk
    refine QM (by conv=>lhs;simp[-List.map_set,QV,ht']) ?_
    refine QN ?_
    repeat (first|refine QG ?_|refine QX (r:=by conv=>lhs;simp[-List.map_set,QV,ops,oos,opw,hps,hos,hpw,h1,h2,hn,hns,hupd,hrow']) (k:=?_))
    obtain ⟨q, hq⟩ : ∃ q, Ss.ringL (bs.map Ss.tickB) g fuel row (st.set n 1) = some q := by
      cases hz : Ss.ringL (bs.map Ss.tickB) g fuel row (st.set n 1) with
      | none => rw [hz] at hr; cases hr
      | some q => exact ⟨q, rfl⟩
    rw [hq] at hr
    repeat refine QS ?_
    refine vw_loopAt [0, 2, 4, 22, 23, 24] rfl (fun c σ S' => ∃ (k : Nat) (d : List Nat), k ≤ row.length ∧ c = row.length - k ∧ d.length = g.length ∧ Ss.ringL (bs.map Ss.tickB) g fuel (row.drop k) d = some q ∧ σ = [(0, vnat n), (2, .ptr ps 0), (4, .ptr pw 0), (22, vl vnat row), (23, vnat row.length), (24, vnat k)] ∧ S' = St S [(os, some (1, d.map vnat))] []) row.length ?_ ?_
    · exact ⟨0, st.set n 1, by omega, rfl, by simpa using hsl, hq, by simp [Fr.only], by simp⟩
    · rintro c σ T ⟨k, d, hk, rfl, hdl, hql, rfl, rfl⟩
      by_cases hkt : k < row.length
      · have hw := wrapNat hkt (by omega)
        rw [List.drop_eq_getElem_cons hkt, Ss.ringL] at hql
        have hkk := hrk _ (List.getElem_mem hkt)
        obtain ⟨m, hm⟩ : ∃ m, row[k] = m := ⟨_, rfl⟩
        rw [hm] at hql hkk
        have hmd : m < d.length := by omega
        obtain ⟨x, hxd⟩ : ∃ x, d[m] = x := ⟨_, rfl⟩
        have hgd2 : d.getD m 0 = x := by simp [hmd, hxd]
        rw [hgd2] at hql
        by_cases x1 : x = 1
        · rw [if_pos x1] at hql
          cases hql
          simp only at hr
          cases hr
          repeat (first|refine QG ?_|refine QX (r:=by conv=>lhs;simp[-List.map_set,QV,hkt,hm,ops,oos,hps,hos,h1,hkk,hmd,hxd,x1]) (k:=?_))
          exact fin _ _ _ (by simp) rfl rfl
        have x1' : ¬ (x : Int) = 1 := by omega
        rw [if_neg x1] at hql
        by_cases x0 : x = 0
        · rw [if_pos x0] at hql
          obtain ⟨⟨b2, s2⟩, hw2⟩ : ∃ p, Ss.ringW (bs.map Ss.tickB) g fuel m d = some p := by
            cases hz : Ss.ringW (bs.map Ss.tickB) g fuel m d with
            | none => rw [hz] at hql; cases hql
            | some q => exact ⟨q, rfl⟩
          rw [hw2] at hql
          have hs2 := Ss.ringW_len _ _ _ _ _ hw2
          have x0' : (x : Int) = 0 := by omega
          repeat (first|refine QG ?_|refine QX (r:=by conv=>lhs;simp[-List.map_set,QV,hkt,hm,ops,oos,hps,hos,h1,hkk,hmd,hxd,x1,x1',x0,x0']) (k:=?_))
          repeat refine QS ?_
          refine QR (r:=by conv=>lhs;simp[-List.map_set,QV,hkt,hm,ops,oos,opw,hps,hos,hpw,h1,h2,hkk,hmd,hxd,x1,x1',x0,x0']) (k:=?_)
          refine vcallv_any rfl rfl rfl (ih m d b2 s2 _ ps os pw hkk hdl (by rw [ops]; simp [uGet, h1, hps]) (by rw [oos]; simp [uGet]) (by rw [opw]; simp [uGet, h2, hpw]) h1 h2 hw2) ?_
          rintro X S2 ⟨rfl, rfl⟩
          rw [hupd]
          simp only [uSet, if_true]
          by_cases hb2 : b2 = true
          · rw [hb2] at hql
            simp only at hql
            cases hql
            simp only at hr
            cases hr
            refine QM (by conv=>lhs;simp[-List.map_set,QV,hb2]) ?_
            refine QN ?_
            repeat (first|refine QG ?_|refine QX (r:=by conv=>lhs;simp[-List.map_set,QV]) (k:=?_))
            exact fin _ _ _ (by simp) rfl rfl
          · have hb2' : b2 = false := by simpa using hb2
            rw [hb2'] at hql
            simp only at hql
            refine QM (by conv=>lhs;simp[-List.map_set,QV,hb2']) ?_
            refine QN ?_
            repeat (first|refine QG ?_|refine QX (r:=by conv=>lhs;simp[-List.map_set,QV]) (k:=?_))
            show Again _ _ _ _ _ _ _
            exact again ⟨Nat.sub_lt_sub_left hkt (Nat.lt_succ_self k), k + 1, s2, hkt, rfl, by omega, hql, by simp [Fr.only, hw], rfl⟩
        · rw [if_neg x0] at hql
          have x0' : ¬ (x : Int) = 0 := by omega
          repeat (first|refine QG ?_|refine QX (r:=by conv=>lhs;simp[-List.map_set,QV,hkt,hm,ops,oos,hps,hos,h1,hkk,hmd,hxd,x1,x1',x0,x0']) (k:=?_))
          show Again _ _ _ _ _ _ _
          exact again ⟨Nat.sub_lt_sub_left hkt (Nat.lt_succ_self k), k + 1, d, hkt, rfl, hdl, hql, by simp [Fr.only, hw], rfl⟩
      · have e1 : row.drop k = [] := by rw [List.drop_eq_nil_iff]; omega
        rw [e1, Ss.ringL] at hql
        cases hql
        simp only at hr
        cases hr
        have hnd : n < d.length := by omega
        have e2 : (d.map vnat).set n (.int .i64 2) = (d.set n 2).map vnat := by simp [List.map_set, vnat]
        repeat (first|refine QG ?_|refine QX (r:=by conv=>lhs;simp[-List.map_set,QV,hkt,ops,oos,hps,hos,h1,hn,hnd,hupd]) (k:=?_))
        rw [e2]
        exact fin _ _ _ (by simp) rfl rfl
end Go.Vw

namespace Go.Vw
open Go.Proofs Go.RowKit
set_option maxRecDepth 10000
set_option maxHeartbeats 4000000

theorem renL_repI (f : Nat → Nat) (n : Nat) (k : IntKind) (x : Int) : V.renL f (List.replicate n (V.int k x)) = List.replicate n (V.int k x) := by
  rw [renL_eq]; simp [V.ren]
theorem idsL_repI (p : Nat → Bool) (n : Nat) (k : IntKind) (x : Int) : V.idsL p (List.replicate n (V.int k x)) = true := by
  rw [idsL_eq]; simp [V.ids]
theorem rings_v (f : Ss.Fn) (g : List (List Nat)) (hgl : g.length = f.blocks.length) (hgb : g.length ≤ 4096) (hrow : ∀ r ∈ g, r.length < 2^62 ∧ ∀ k ∈ r, k < g.length) (hcode : ∀ b ∈ f.blocks, b.code.length < 2^63) :
    VPure Tryz.prog 49 [encFn f, vl (vl vnat) g] (.bool (Ss.rings f.blocks g)) := by
  intro S
  have hg0 : ∀ n, ∀ k ∈ g.getD n [], k < g.length := by
    intro n k hk
    by_cases h : n < g.length
    · rw [List.getD_eq_getElem?_getD, List.getElem?_eq_getElem h] at hk
      exact (hrow _ (List.getElem_mem h)).2 k hk
    · rw [List.getD_eq_getElem?_getD, List.getElem?_eq_none (by omega)] at hk
      simp at hk
  obtain ⟨q, hq⟩ := Ss.ringM_ends (tick := f.blocks.map Ss.tickB) (fuel := g.length + 1) hg0 (by omega) (List.range g.length) (List.replicate g.length 0) (by simp) (by simp)
  have hX : Ss.rings f.blocks g = q := by simp [Ss.rings, hq]
  rw [hX]
  have cw := rings1_v f g hgl (by omega) hrow hcode
  obtain ⟨⟨fi, fo⟩, ts, bs⟩ := f
  simp only at hq cw
  have hb8 : g.length * 8 ≤ 140737488355328 := by omega
  have hb0 : g.length ≤ 140737488355328 := by omega
  refine vcalls_start (c := bodyOf Tryz.f49) Tryz.func49 rfl rfl (by simp [Tryz.ntmps49]) ?_
  rw [Tryz.ntmps49]
  intro hwf
  repeat refine QS ?_
  refine QR (r:=by conv=>lhs;simp[-List.map_set,QV]) (k:=?_)
  refine QN ?_
  refine vw_ghost' 2 rfl ((refSt (k := 0) (by simp) (by rfl) (by rfl) (by simp))) (by conv => lhs; simp [Fr.set]) ?_
  simp only [List.set_cons_succ, List.set_cons_zero]
  refine vw_ghost' 3 rfl ((boxSt (k := 1) (by simp) (by rfl) (by rfl))) (by conv => lhs; simp [Fr.set]) ?_
  simp only [List.set_cons_succ, List.set_cons_zero]
  repeat (first|refine QG ?_|refine QX (r:=by conv=>lhs;simp[-List.map_set,QV,hb8,hb0]) (k:=?_))
  refine vw_only' [5, 6, 13, 14] (by conv => lhs; simp [Fr.only, Fr.look]) ?_
  refine vw_gc [2, 3, 4] hwf (by decide) (by simp [-List.map_set, idsL_repI, renL_repI]) (by conv => lhs; simp [-List.map_set, idsL_repI, renL_repI]) (by conv => lhs; simp [-List.map_set, idsL_repI, renL_repI]) (by conv => lhs; simp [-List.map_set, idsL_repI, renL_repI]) ?_
  repeat refine QS ?_
  refine vw_loopAt [5, 6, 13, 14] rfl (fun c σ S' => ∃ (k : Nat) (st : List Nat), k ≤ g.length ∧ c = g.length - k ∧ st.length = g.length ∧ Ss.ringM (bs.map Ss.tickB) g (g.length + 1) ((List.range g.length).drop k) st = some q ∧ σ = [(5, .ptr (lid S.nx 1) 0), (6, .ptr (lid S.nx 2) 0), (13, vnat g.length), (14, vnat k)] ∧ S' = St S [] [some (1, st.map vnat), some (1, [.slice (lid S.nx 0) 0 g.length]), some (1, [.func 70 [.ref (.agg [vl vint fi, vl vint fo, vl vint ts, vl encBlock bs]), .ptr (lid S.nx 1) 0, .ref (vl (vl vnat) g), .ptr (lid S.nx 2) 0]])]) g.length ?_ ?_
  · exact ⟨0, List.replicate g.length 0, by omega, rfl, by simp, hq, by simp [Fr.only], by simp [vnat]⟩
  · rintro c σ T ⟨k, st, hk, rfl, hsl, hm, rfl, rfl⟩
    by_cases hkt : k < g.length
    · have hw := wrapNat hkt (by omega)
      rw [List.drop_eq_getElem_cons (by simpa using hkt), List.getElem_range, Ss.ringM] at hm
      have hks : k < st.length := by omega
      obtain ⟨x, hx⟩ : ∃ x, st[k] = x := ⟨_, rfl⟩
      have hgd : st.getD k 0 = x := by simp [hks, hx]
      rw [hgd] at hm
      by_cases x0 : x = 0
      · rw [if_pos x0] at hm
        have x0' : (x : Int) = 0 := by omega
        obtain ⟨⟨b, s⟩, hwk⟩ : ∃ p, Ss.ringW (bs.map Ss.tickB) g (g.length + 1) k st = some p := by
          cases hz : Ss.ringW (bs.map Ss.tickB) g (g.length + 1) k st with
          | none => rw [hz] at hm; cases hm
          | some p => exact ⟨p, rfl⟩
        rw [hwk] at hm
        have hs2 := Ss.ringW_len _ _ _ _ _ hwk
        repeat (first|refine QG ?_|refine QX (r:=by conv=>lhs;simp[-List.map_set,QV,hkt,hks,hx,x0,x0']) (k:=?_))
        repeat refine QS ?_
        refine QR (r:=by conv=>lhs;simp[-List.map_set,QV,hkt,hks,hx,x0,x0']) (k:=?_)
        refine vcallv_any rfl rfl rfl (cw (g.length + 1) k st b s _ (lid S.nx 1) (lid S.nx 0) (lid S.nx 2) hkt hsl (by simp) (by simp) (by simp) (by simp [lid]) (by simp [lid]) hwk) ?_
        rintro X S2 ⟨rfl, rfl⟩
        rw [St_upd (by simp)]
        simp only [List.set_cons_succ, List.set_cons_zero]
        by_cases hb : b = true
        · rw [hb] at hm
          simp only [Option.some.injEq] at hm
          refine QM (by conv=>lhs;simp[-List.map_set,QV,hb]) ?_
          refine QN ?_
          repeat (first|refine QG ?_|refine QX (r:=by conv=>lhs;simp[-List.map_set,QV]) (k:=?_))
          exact done_pure hwf (by simp [← hm]) rfl
        · have hb' : b = false := by simpa using hb
          rw [hb'] at hm
          simp only at hm
          refine QM (by conv=>lhs;simp[-List.map_set,QV,hb']) ?_
          refine QN ?_
          repeat (first|refine QG ?_|refine QX (r:=by conv=>lhs;simp[-List.map_set,QV]) (k:=?_))
          show Again _ _ _ _ _ _ _
          exact again ⟨Nat.sub_lt_sub_left hkt (Nat.lt_succ_self k), k + 1, s, hkt, rfl, by omega, hm, by simp [Fr.only, hw], rfl⟩
      · rw [if_neg x0] at hm
        have x0' : ¬ (x : Int) = 0 := by omega
        repeat (first|refine QG ?_|refine QX (r:=by conv=>lhs;simp[-List.map_set,QV,hkt,hks,hx,x0,x0']) (k:=?_))
        show Again _ _ _ _ _ _ _
        exact again ⟨Nat.sub_lt_sub_left hkt (Nat.lt_succ_self k), k + 1, st, hkt, rfl, hsl, hm, by simp [Fr.only, hw], rfl⟩
    · have e1 : (List.range g.length).drop k = [] := by rw [List.drop_eq_nil_iff]; simp; omega
      rw [e1, Ss.ringM] at hm
      cases hm
      repeat (first|refine QG ?_|refine QX (r:=by conv=>lhs;simp[-List.map_set,QV,hkt]) (k:=?_))
      exact done_pure hwf rfl rfl
end Go.Vw

namespace Ss
open Go.Vw in
/-- Are a function's blocks all reached, and is there no circle without a tick? -/
def shapeOk (f : Fn) : Bool :=
  G.right (succs f.blocks) && decide ((G.ordI (succs f.blocks)).length = f.blocks.length) && !rings f.blocks (G.nats (succs f.blocks)) && decide (typesOf f.types (f.blocks.getD 0 default).params = f.sig.inn) &&
    match (f.blocks.getD 0 default).code with
    | x :: _ => decide (x.op = 258)
    | [] => false
end Ss
namespace Go.Vw
open Go.Proofs Go.RowKit
set_option maxRecDepth 10000
set_option maxHeartbeats 4000000

theorem typesO_v (S : Store) (e : Ss.Env) (f : Ss.Fn) (dv nv : V) (ck : Nat) (l : List Int) (hc : S.get ck = some (11, ckC e f dv nv)) (hl : l.length ≤ 1048576) (hv : Ss.InTs f.types.length l) :
    VCalls Tryz.prog 52 [.ptr ck 0, vl vint l] S (fun r T => r = vl vint (Ss.typesOf f.types l) ∧ T = S) := by
  obtain ⟨⟨fi, fo⟩, ts, bs⟩ := f
  simp only at hv ⊢
  generalize hg : (fun v : Int => ts.getD v.toNat 0) = g
  have hX : Ss.typesOf ts l = l.map g := by rw [Ss.typesOf, hg]
  rw [hX]
  refine vcalls_start (c := bodyOf Tryz.f52) Tryz.func52 rfl rfl (by simp [Tryz.ntmps52]) ?_
  rw [Tryz.ntmps52]
  intro hwf
  have hcn := old_lt hwf hc
  have oc := fun u l => @St_old S u l ck hcn
  have gp := fun ks => gcP_old (n := S.nx) ks hcn
  have gt := fun ks => gcTo_old (n := S.nx) ks hcn
  repeat refine QS ?_
  refine QR (r:=by conv=>lhs;simp[-List.map_set,QV]) (k:=?_)
  refine QN ?_
  repeat refine QS ?_
  refine QR (r:=by conv=>lhs;simp[-List.map_set,QV]) (k:=?_)
  refine QN ?_
  refine vw_void 5 1 rfl (by conv => lhs; simp [Fr.set]) ?_
  repeat (first|refine QG ?_|refine QX (r:=by conv=>lhs;simp[-List.map_set,QV]) (k:=?_))
  repeat refine QS ?_
  refine vw_loopAt [0, 5, 8, 9, 10] rfl (fun c σ S' => ∃ (k : Nat) (out : List Int), k ≤ l.length ∧ c = l.length - k ∧ out = (l.take k).map g ∧ out.length = k ∧ σ = [(0, .ptr ck 0), (5, .slice (lid S.nx 0) 0 k), (8, vl vint l), (9, vnat l.length), (10, vnat k)] ∧ S' = St S [] [some (1, out.map vint)]) l.length ?_ ?_
  · exact ⟨0, [], by omega, rfl, by simp, rfl, by simp [Fr.only], by simp⟩
  · rintro c σ T ⟨k, out, hk, rfl, ho, hlen, rfl, rfl⟩
    by_cases hkt : k < l.length
    · have hw := wrapNat hkt (by omega)
      obtain ⟨h0, h1⟩ := hv _ (List.getElem_mem hkt)
      obtain ⟨v, hx⟩ : ∃ v, l[k] = v := ⟨_, rfl⟩
      rw [hx] at h0 h1
      obtain ⟨n, rfl⟩ : ∃ n : Nat, v = n := ⟨v.toNat, by omega⟩
      have hn : n < ts.length := by omega
      have hgn : g (n : Int) = ts[n] := by rw [← hg]; simp [hn]
      have htk : l.take (k + 1) = l.take k ++ [(n : Int)] := by rw [List.take_add_one, List.getElem?_eq_getElem hkt, hx]; rfl
      have hb : (k + 1) * 8 ≤ 140737488355328 := by omega
      have hb' : k + 1 ≤ 140737488355328 := by omega
      repeat (first|refine QG ?_|refine QX (r:=by conv=>lhs;simp[-List.map_set,QV,hkt,hx,hn,hlen,hb,hb',oc,hc]) (k:=?_))
      refine again_gc [2] (by conv => lhs; simp [Fr.only]) hwf (by decide) (by simp [-List.map_set, gp, gt]) (by conv => lhs; simp [-List.map_set, gp, gt]) (by conv => lhs; simp [-List.map_set, gp, gt]) (by conv => lhs; simp [-List.map_set, gp, gt]) ⟨?_, k + 1, out ++ [ts[n]], hkt, rfl, by rw [htk, List.map_append, ho]; simp [hgn], by simp [hlen], by simp [hw], by simp⟩
      omega
    · have hke : k = l.length := by omega
      subst hke
      rw [List.take_length] at ho
      repeat (first|refine QG ?_|refine QX (r:=by conv=>lhs;simp[-List.map_set,QV,hkt]) (k:=?_))
      rw [← ho]
      exact done_via hwf ((frz1 (by simp) (by rfl) (all_closed1 vint (fun _ => rfl) _) (by simpa using hlen)).toB _) rfl

theorem vcall_useZ {P : Program} {Z : Store} {σ : Fr} {S : Store} {K : Fr → Store → Prop} {d : Option Nat} {f : FuncId} {args : List Arg} {xs : List V} {r : List CO} {X : V} (h : VPureZ P Z f xs X) (ha : args.map (ev σ) = xs) (H : vsegG P (some (ZZ.plain Z)) r K (σ.put d X) S) : vsegG P (some (ZZ.plain Z)) (⟨d, none, .call f args⟩ :: r) K σ S := by
  rw [vs_call, ha]
  refine ⟨X, ?_, H⟩
  have e : (ZZ.plain Z).early d = false := by cases d <;> simp [ZZ.early, ZZ.plain]
  rw [e]
  exact h

theorem shape_v (S : Store) (e : Ss.Env) (f : Ss.Fn) (ck od : Nat) (hf : f.Fits) (hsm : f.small = true) (hc : S.get ck = some (11, ckC e f (.slice od 0 f.types.length) .nils)) (hod : od < S.nx)
    (hps : ∀ b ∈ f.blocks, Ss.InTs f.types.length b.params) :
    VCalls Tryz.prog 19 [.ptr ck 0] S (fun r T => ∃ nv : V, nv.closed1 = true ∧ r = .bool (Ss.shapeOk f) ∧ (Ss.shapeOk f = true → nv = vl vint (G.nearI (Ss.succs f.blocks))) ∧ T = S.upd ck (11, ckC e f (.slice od 0 f.types.length) nv)) := by
  have csu := Succ_v f hf
  rw [if_pos hsm] at csu
  obtain ⟨hst, hsb, hsf, _⟩ := small_blocks hsm
  have hcode : ∀ b ∈ f.blocks, b.code.length < 2^63 := fun b hb => by have := (hsf b hb).2.2.2; omega
  have hgf : Fits (Ss.succs f.blocks) := by
    refine ⟨by simp [Ss.succs]; omega, fun l hl => ?_⟩
    obtain ⟨b, hb, rfl⟩ := List.mem_map.1 hl
    have := (hsf b hb).2.1
    simp [Ss.rowOf]; omega
  have hgl : (Ss.succs f.blocks).length = f.blocks.length := by simp [Ss.succs]
  have co := OrderAll_v _ hgf
  have cn := NearestAll_v _ hgf
  have hol := ordI_len (Ss.succs f.blocks)
  have cr : G.right (Ss.succs f.blocks) = true → VPure Tryz.prog 49 [encFn f, vl (vl vint) (Ss.succs f.blocks)] (.bool (Ss.rings f.blocks (G.nats (Ss.succs f.blocks)))) := by
    intro hr
    have hok := G.right_ok hr
    rw [G.right_enc hr]
    have hnl : (G.nats (Ss.succs f.blocks)).length = f.blocks.length := by rw [← hgl]; simp [G.nats]
    exact rings_v f _ hnl (by have := hok.max; omega) (fun r hr' => ⟨by have := hok.row r hr'; omega, fun k hk => hok.elt r hr' k hk⟩) hcode
  generalize hsu : Ss.succs f.blocks = g at *
  have hX : Ss.shapeOk f = (G.right g && decide ((G.ordI g).length = f.blocks.length) && !Ss.rings f.blocks (G.nats g) && decide (Ss.typesOf f.types (f.blocks.getD 0 default).params = f.sig.inn) &&
    match (f.blocks.getD 0 default).code with
    | x :: _ => decide (x.op = 258)
    | [] => false) := by rw [Ss.shapeOk, hsu]
  generalize Ss.shapeOk f = X at *
  generalize hrg : Ss.rings f.blocks (G.nats g) = rg at *
  have hil : f.sig.inn.length < 2^63 := by have := hf.1.1.1; omega
  obtain ⟨⟨fi, fo⟩, ts, bs⟩ := f
  simp only at *
  have csu' : VPure Tryz.prog 38 [.agg [vl vint fi, vl vint fo, vl vint ts, vl encBlock bs]] (vl (vl vint) g) := csu
  obtain ⟨sg, im, gl, mu, me⟩ := e
  refine vcalls_start (c := bodyOf Tryz.f19) Tryz.func19 rfl rfl (by simp [Tryz.ntmps19]) ?_
  rw [Tryz.ntmps19]
  intro hwf
  have hcn := old_lt hwf hc
  have oc := fun u l => @St_old S u l ck hcn
  have hupd := fun u l c => @St_updOld S u l c ck hcn
  have gp := fun ks => gcP_old (n := S.nx) ks hod
  have gt := fun ks => gcTo_old (n := S.nx) ks hod
  rw [St_touch hc]
  have fin : ∀ (nv : V) (l : List (Option (Nat × List V))) (r : V), nv.closed1 = true → r = .bool X → (X = true → nv = vl vint (G.nearI g)) →
      PostB S.nx (fun r T => ∃ nv : V, nv.closed1 = true ∧ r = .bool X ∧ (X = true → nv = vl vint (G.nearI g)) ∧ T = S.upd ck (11, ckC ⟨sg, im, gl, mu, me⟩ ⟨⟨fi, fo⟩, ts, bs⟩ (.slice od 0 ts.length) nv)) r (St S [(ck, some (11, ckC ⟨sg, im, gl, mu, me⟩ ⟨⟨fi, fo⟩, ts, bs⟩ (.slice od 0 ts.length) nv))] l) := by
    rintro nv l r k1 rfl k2
    have e1 : ∀ p, nv.ids p = true := fun p => by cases nv <;> first | rfl | (simp [V.closed1] at k1; done) | (simp [V.ids]; done)
    have e2 : ∀ q, nv.ren q = nv := fun q => by cases nv <;> first | rfl | (simp [V.closed1] at k1; done) | (simp [V.ren]; done)
    refine done_turned (X := .bool X) (S' := S.upd ck (11, ckC ⟨sg, im, gl, mu, me⟩ ⟨⟨fi, fo⟩, ts, bs⟩ (.slice od 0 ts.length) nv)) hwf rfl rfl (by simp [gcOkU, gcOkE, e1, gp]) ?_ ⟨nv, k1, rfl, k2, rfl⟩
    simp only [gcU, gcE, Option.map_some]
    rw [St_upd1 hwf hcn]
    simp [e2, gt]
  repeat refine QS ?_
  refine QR (r:=by conv=>lhs;simp[-List.map_set,QV]) (k:=?_)
  refine QN ?_
  repeat refine QS ?_
  refine QR (r:=by conv=>lhs;simp[-List.map_set,QV,oc,hc]) (k:=?_)
  refine vcall_useH (csu') (by rfl) ?_
  refine QM (by conv=>lhs;simp[-List.map_set,QV]) ?_
  refine QN ?_
  repeat refine QS ?_
  refine QR (r:=by conv=>lhs;simp[-List.map_set,QV]) (k:=?_)
  refine vcall_useH (co) (by rfl) ?_
  by_cases hr : G.right g = true
  case neg =>
    have he : G.err g = 1 := by simp [G.err, hr]
    have hX0 : X = false := by rw [hX]; simp [hr]
    refine QM (by conv=>lhs;simp[-List.map_set,QV,he]) ?_
    refine QN ?_
    repeat (first|refine QG ?_|refine QX (r:=by conv=>lhs;simp[-List.map_set,QV,he]) (k:=?_))
    exact fin .nils _ _ rfl (by simp [hX0]) (by simp [hX0])
  have he : G.err g = 0 := by simp [G.err, hr]
  have cr1 := cr hr
  have cr' : VPure Tryz.prog 49 [.agg [vl vint fi, vl vint fo, vl vint ts, vl encBlock bs], vl (vl vint) g] (.bool rg) := cr1
  by_cases hl : (G.ordI g).length = g.length
  case neg =>
    have hl' : ¬ ((G.ordI g).length : Int) = (g.length : Int) := by omega
    have hX0 : X = false := by
      rw [hX, show decide ((G.ordI g).length = bs.length) = false by simp; omega]; simp
    refine QM (by conv=>lhs;simp[-List.map_set,QV,he]) ?_
    refine QN ?_
    repeat (first|refine QG ?_|refine QX (r:=by conv=>lhs;simp[-List.map_set,QV,he,hl,hl']) (k:=?_))
    exact fin .nils _ _ rfl (by simp [hX0]) (by simp [hX0])
  have hl' : ((G.ordI g).length : Int) = (g.length : Int) := by omega
  refine QM (by conv=>lhs;simp[-List.map_set,QV,he]) ?_
  refine QN ?_
  repeat (first|refine QG ?_|refine QX (r:=by conv=>lhs;simp[-List.map_set,QV,he,hl,hl',oc]) (k:=?_))
  repeat refine QS ?_
  refine QR (r:=by conv=>lhs;simp[-List.map_set,QV,he,hl,hl',oc]) (k:=?_)
  refine vcall_useH (cr') (by rfl) ?_
  by_cases hrt : rg = true
  · have hX0 : X = false := by rw [hX, hrt]; simp
    refine QM (by conv=>lhs;simp[-List.map_set,QV,hrt]) ?_
    refine QN ?_
    repeat (first|refine QG ?_|refine QX (r:=by conv=>lhs;simp[-List.map_set,QV]) (k:=?_))
    exact fin .nils _ _ rfl (by simp [hX0]) (by simp [hX0])
  have hrt' : rg = false := by simpa using hrt
  rw [hr, hrt', show decide ((G.ordI g).length = bs.length) = true by simp; omega] at hX
  simp only [Bool.true_and, Bool.not_false] at hX
  refine QM (by conv=>lhs;simp[-List.map_set,QV,hrt']) ?_
  refine QN ?_
  repeat (first|refine QG ?_|refine QX (r:=by conv=>lhs;simp[-List.map_set,QV]) (k:=?_))
  repeat refine QS ?_
  refine QR (r:=by conv=>lhs;simp[-List.map_set,QV]) (k:=?_)
  refine vcall_useH (cn) (by rfl) ?_
  refine QM (by conv=>lhs;simp[-List.map_set,QV,oc,hupd]) ?_
  refine QN ?_
  have hbp : 0 < bs.length := by
    have h1 := (G.right_ok hr).pos
    simp only [G.nats_length] at h1
    omega
  obtain ⟨⟨ps, code, ⟨tk, ta, to, az⟩⟩, hb0⟩ : ∃ b, bs[0]? = some b := ⟨bs[0], List.getElem?_eq_getElem hbp⟩
  have hbm := List.mem_of_getElem? hb0
  have hbd : bs.getD 0 default = ⟨ps, code, ⟨tk, ta, to, az⟩⟩ := by rw [List.getD_eq_getElem?_getD, hb0]; rfl
  have hpl := (hsf _ hbm).1
  have hpi := hps _ hbm
  rw [hbd] at hX
  simp only at hX hpl hpi
  repeat (first|refine QG ?_|refine QX (r:=by conv=>lhs;simp[-List.map_set,QV,oc,hb0]) (k:=?_))
  have hcl := (hsf _ hbm).2.2.2
  simp only at hcl
  have hZ : (St S [(ck, some (11, ckC ⟨sg, im, gl, mu, me⟩ ⟨⟨fi, fo⟩, ts, bs⟩ (.slice od 0 ts.length) (vl vint (G.nearI g))))] [some (6, [vl vint ps, vl encIns code, .int .i64 tk, .int .i64 ta, vl encEdge to, vl vint az])]).get ck = some (11, ckC ⟨sg, im, gl, mu, me⟩ ⟨⟨fi, fo⟩, ts, bs⟩ (.slice od 0 ts.length) (vl vint (G.nearI g))) := by rw [oc]; simp [uGet]
  have ctz : VPureZ Tryz.prog (St S [(ck, some (11, ckC ⟨sg, im, gl, mu, me⟩ ⟨⟨fi, fo⟩, ts, bs⟩ (.slice od 0 ts.length) (vl vint (G.nearI g))))] [some (6, [vl vint ps, vl encIns code, .int .i64 tk, .int .i64 ta, vl encEdge to, vl vint az])]) 52 [.ptr ck 0, vl vint ps] (vl vint (Ss.typesOf ts ps)) := fun T hT => typesO_v T ⟨sg, im, gl, mu, me⟩ ⟨⟨fi, fo⟩, ts, bs⟩ _ _ ck ps (hT _ _ hZ) (by omega) hpi
  have ceq := Equal_v (Ss.typesOf ts ps) fi (by simp [Ss.typesOf]; omega)
  repeat refine QS ?_
  refine QD (r:=by conv=>lhs;simp[-List.map_set,QV,oc]) (k:=?_)
  refine vcall_useZ ctz (by rfl) ?_
  refine QM (by conv=>lhs;simp[-List.map_set,QV,oc]) ?_
  refine vcall_useH (ceq) (by rfl) ?_
  by_cases ht : Ss.typesOf ts ps = fi
  case neg =>
    have hX0 : X = false := by rw [hX]; simp [ht]
    refine QM (by conv=>lhs;simp[-List.map_set,QV,ht]) ?_
    refine QN ?_
    repeat (first|refine QG ?_|refine QX (r:=by conv=>lhs;simp[-List.map_set,QV]) (k:=?_))
    exact fin _ _ _ rfl (by simp [hX0]) (by simp [hX0])
  rw [decide_eq_true ht, Bool.true_and] at hX
  cases code with
  | nil =>
    have hX0 : X = false := by rw [hX]
    refine QM (by conv=>lhs;simp[-List.map_set,QV,ht]) ?_
    refine QN ?_
    repeat (first|refine QG ?_|refine QX (r:=by conv=>lhs;simp[-List.map_set,QV]) (k:=?_))
    exact fin _ _ _ rfl (by simp [hX0]) (by simp [hX0])
  | cons x r =>
    obtain ⟨xo, xn, xa, xu⟩ := x
    have hpos : (0 : Int) < (r.length : Int) + 1 := by omega
    by_cases h8 : xo = 258
    · have hX0 : X = true := by rw [hX]; simp [h8]
      refine QM (by conv=>lhs;simp[-List.map_set,QV,ht,hpos,h8]) ?_
      refine QN ?_
      repeat (first|refine QG ?_|refine QX (r:=by conv=>lhs;simp[-List.map_set,QV]) (k:=?_))
      exact fin _ _ _ rfl (by simp [hX0]) (by simp)
    · have hX0 : X = false := by rw [hX]; simp [h8]
      refine QM (by conv=>lhs;simp[-List.map_set,QV,ht,hpos,h8]) ?_
      refine QN ?_
      repeat (first|refine QG ?_|refine QX (r:=by conv=>lhs;simp[-List.map_set,QV]) (k:=?_))
      exact fin _ _ _ rfl (by simp [hX0]) (by simp [hX0])
end Go.Vw

namespace Ss
def checkCode (e : Env) (f : Fn) (ds : List Def) (near : List Int) (i : Int) : Nat → List Ins → Bool
  | _, [] => true
  | k, x :: r => insOk e f ds near i k x && checkCode e f ds near i (k + 1) r
def checkBlocks (e : Env) (f : Fn) (ds : List Def) (near : List Int) : Nat → List Block → Bool
  | _, [] => true
  | i, b :: bs => checkCode e f ds near i 0 b.code && termOk f ds near i b && checkBlocks e f ds near (i + 1) bs
def checkHead (e : Env) (f : Fn) : Bool := e.right && f.small && decide (f.blocks.length ≤ 256) && kinds 2048 f.types && f.sig.right && f.blocks.all fun b => decide (b.params.length ≤ 256)
/-- May a function be? -/
def check (e : Env) (f : Fn) : Bool := checkHead e f && match defsOf f with
  | none => false
  | some ds => shapeOk f && checkBlocks e f ds (Go.Vw.G.nearI (succs f.blocks)) 0 f.blocks

theorem put_in {block pos : Int} : ∀ {l : List Int} {ds d : List Def}, put block pos ds l = some d → InTs ds.length l
  | [], ds, d, h => by intro v hv; cases hv
  | v :: l, ds, d, h => by
    simp only [put] at h
    split at h
    · cases h
    · rename_i hn
      have h1 := put_in h
      intro x hx
      rcases List.mem_cons.1 hx with rfl | hx
      · have k1 : ¬ x < 0 := fun h => hn (.inl h)
        have k2 : ¬ (ds.length : Int) ≤ x := fun h => hn (.inr (.inl h))
        exact ⟨by omega, by omega⟩
      · have := h1 x hx
        simpa using this
theorem putCode_in {i : Int} : ∀ {l : List Ins} {k : Nat} {ds d : List Def}, putCode i k ds l = some d → d.length = ds.length ∧ ∀ x ∈ l, InTs ds.length x.outs
  | [], k, ds, d, h => by simp only [putCode, Option.some.injEq] at h; subst h; exact ⟨rfl, by simp⟩
  | x :: l, k, ds, d, h => by
    simp only [putCode] at h
    obtain ⟨d1, h1, h2⟩ := Option.bind_eq_some_iff.1 h
    obtain ⟨k1, k2⟩ := putCode_in h2
    have e1 := put_len h1
    refine ⟨k1.trans e1, fun y hy => ?_⟩
    rcases List.mem_cons.1 hy with rfl | hy
    · exact put_in h1
    · rw [← e1]; exact k2 y hy
theorem putBlocks_in : ∀ {l : List Block} {i : Nat} {ds d : List Def}, putBlocks i ds l = some d → d.length = ds.length ∧ ∀ b ∈ l, InTs ds.length b.params ∧ ∀ x ∈ b.code, InTs ds.length x.outs
  | [], i, ds, d, h => by simp only [putBlocks, Option.some.injEq] at h; subst h; exact ⟨rfl, by simp⟩
  | b :: l, i, ds, d, h => by
    simp only [putBlocks] at h
    obtain ⟨d2, h1, h2⟩ := Option.bind_eq_some_iff.1 h
    obtain ⟨d1, h3, h4⟩ := Option.bind_eq_some_iff.1 h1
    have e1 := put_len h3
    obtain ⟨e2, k2⟩ := putCode_in h4
    obtain ⟨e3, k3⟩ := putBlocks_in h2
    refine ⟨by omega, fun y hy => ?_⟩
    rcases List.mem_cons.1 hy with rfl | hy
    · exact ⟨put_in h3, fun x hx => by rw [← e1]; exact k2 x hx⟩
    · have := k3 y hy
      rw [show ds.length = d2.length by omega]; exact this
theorem defs_in {f : Fn} {ds : List Def} (h : defsOf f = some ds) : ds.length = f.types.length ∧ ∀ b ∈ f.blocks, InTs f.types.length b.params ∧ ∀ x ∈ b.code, InTs f.types.length x.outs := by
  have := putBlocks_in h
  simpa using this
theorem right_to {f : Fn} (h : Go.Vw.G.right (succs f.blocks) = true) : ∀ b ∈ f.blocks, ∀ x ∈ b.term.to, 0 ≤ x.to ∧ x.to < f.blocks.length := by
  intro b hb x hx
  simp only [Go.Vw.G.right, Bool.and_eq_true, List.all_eq_true] at h
  have h1 := h.2 (rowOf b) (List.mem_map.2 ⟨b, hb, rfl⟩)
  have h2 := (Go.Vw.G.rowOk_iff.1 h1).2 x.to (List.mem_map.2 ⟨x, hx, rfl⟩)
  simpa [succs] using h2
end Ss
namespace Go.Vw
open Go.Proofs Go.RowKit
set_option maxRecDepth 10000
set_option maxHeartbeats 4000000

theorem lid_lid (b j k : Nat) : lid (lid b j) k = lid b (j + k) := by simp [lid]; omega
theorem St_one {S : Store} (hwf : S.Wf) {o : Nat} {c d : Nat × List V} (ho : o < S.nx) : St S [(o, some c)] [some d] = (S.upd o c).add d := by
  rw [← St_upd1 hwf ho, St_add]; rfl
theorem St_St {B : Store} {u : Upds} {l : List (Option (Nat × List V))} {o : Nat} {c d : Nat × List V} (ho : o < (St B u l).nx) : St (St B u l) [(o, some c)] [some d] = ((St B u l).upd o c).add d := by
  refine Store.ext' (funext fun o' => ?_) rfl
  rw [St_at, add_at, upd_at]
  by_cases h : o' < (St B u l).nx
  · rw [if_pos h]
    have hn : ¬ o' = ((St B u l).upd o c).nx := by show ¬ o' = (St B u l).nx; omega
    rw [if_neg hn]
    simp only [uGet]
  · rw [if_neg h]
    by_cases e : o' = (St B u l).nx
    · subst e
      have : (St B u l).nx = ((St B u l).upd o c).nx := rfl
      rw [if_pos this]; simp
    · have hn : ¬ o' = ((St B u l).upd o c).nx := e
      rw [if_neg hn, if_neg (by omega), St_at]
      have hnx : (St B u l).nx = B.nx + l.length := by rw [St_nx]; rfl
      rw [if_neg (by omega), List.getElem?_eq_none (l := l) (by omega), List.getElem?_eq_none (by rw [List.length_singleton]; omega)]
theorem Reach.frzCellS {α : Type} {enc : α → V} {s : Nat} (hs : ∀ a, (enc a).cells.length = s) (hcl : ∀ a, (enc a).closed = true) {N b0 : Nat} {σ : Fr} {B : Store} {u : Upds} {l : List (Option (Nat × List V))} {k j i s' : Nat} {cs : List V} (ls : List α) (hkj : k ≠ j) (hk : k < l.length) (hj : j < l.length) (hck : (l[k]?).join = some (s', cs)) (hi : cs[i]? = some (.slice (lid B.nx j) 0 ls.length))
    (hcj : (l[j]?).join = some (s, flatC enc ls)) : Reach N b0 σ (St B u l) σ (St B u ((l.set j none).set k (some (s', cs.set i (vl enc ls))))) := by
  have hg : Ghost (.slice (lid B.nx j) 0 ls.length) (St B u l) (vl enc ls) (St B u (l.set j none)) := frzSt hs hcl ls hj hcj
  have := Reach.cell (N := N) (b0 := b0) (σ := σ) (o := lid B.nx k) (i := i) (s := s') (cs := cs) hg (by simp [V.one]) (by rw [St_get]; exact hck) hi (by rw [St_get, List.getElem?_set_ne (Ne.symm hkj)]; exact hck)
  rw [St_upd (by simpa using hk)] at this
  exact this
theorem checkCode_one {e : Ss.Env} {f : Ss.Fn} {ds : List Ss.Def} {near : List Int} {i : Int} {k : Nat} {l : List Ss.Ins} (h : k < l.length) : Ss.checkCode e f ds near i k (l.drop k) = (Ss.insOk e f ds near i k l[k] && Ss.checkCode e f ds near i (k + 1) (l.drop (k + 1))) := by
  rw [List.drop_eq_getElem_cons h, Ss.checkCode]
theorem checkBlocks_one {e : Ss.Env} {f : Ss.Fn} {ds : List Ss.Def} {near : List Int} {i : Nat} {l : List Ss.Block} (h : i < l.length) : Ss.checkBlocks e f ds near i (l.drop i) = (Ss.checkCode e f ds near i 0 l[i].code && Ss.termOk f ds near i l[i] && Ss.checkBlocks e f ds near (i + 1) (l.drop (i + 1))) := by
  rw [List.drop_eq_getElem_cons h, Ss.checkBlocks]
end Go.Vw
