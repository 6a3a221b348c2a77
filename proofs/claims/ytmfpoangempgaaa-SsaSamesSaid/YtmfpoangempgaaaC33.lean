import Derived.Test.YtmfpoangempgaaaC32
import Derived.Test.YtmfpoangempgaaaC24
import Derived.Test.YtmfpoangempgaaaC28
import Derived.Test.YtmfpoangempgaaaC19
/-
  Part of the proof (texts SIns).
-/
set_option linter.unusedVariables false
set_option linter.unusedSimpArgs false
namespace Ss
def insOut (ts : List Int) (x : Ins) : Int := match x.outs with
  | [] => 0
  | v :: _ => ts.getD v.toNat 0
/-- May an instruction be? -/
def insOk (e : Env) (f : Fn) (ds : List Def) (near : List Int) (block pos : Int) (x : Ins) : Bool :=
  (form e x.op x.n (insOut f.types x)).ok && decide (x.n ≤ (form e x.op x.n (insOut f.types x)).most) && decide (typesOf f.types x.outs = (form e x.op x.n (insOut f.types x)).outs) && asks f.types ds near block pos x.args (form e x.op x.n (insOut f.types x)).inn
def branches (t : Term) : Bool := decide (t.kind = 2) || decide (t.kind = 3)
/-- How many targets an end has, and what it answers. -/
def termHead (fo : List Int) (k : Int) : Option (Nat × Nat × List Int) :=
  if k = 1 then some (1, 1, []) else if k = 2 then some (2, 2, []) else if k = 3 then some (1, 65, []) else if k = 4 then some (0, 0, fo) else if k = 5 then some (0, 0, []) else none
def edgeOk (f : Fn) (ds : List Def) (near : List Int) (i pos : Int) (x : Edge) : Bool :=
  !decide (x.to = 0) && asks f.types ds near i pos x.args (typesOf f.types (f.blocks.getD x.to.toNat default).params)
def termTail (f : Fn) (ds : List Def) (near : List Int) (i pos : Int) (t : Term) (le mo : Nat) (rs : List Int) : Bool :=
  (if branches t then asks f.types ds near i pos [t.arg] [127] else decide (t.arg = 0)) && decide (le ≤ t.to.length) && decide (t.to.length ≤ mo) && asks f.types ds near i pos t.args rs && t.to.all (edgeOk f ds near i pos)
def termOk (f : Fn) (ds : List Def) (near : List Int) (i : Int) (b : Block) : Bool := match termHead f.sig.out b.term.kind with
  | some (le, mo, rs) => termTail f ds near i b.code.length b.term le mo rs
  | none => false
end Ss
namespace Go.Vw
open Go.Proofs Go.RowKit
set_option maxRecDepth 10000
set_option maxHeartbeats 4000000

/-- Ways that meet again. -/
theorem vw_join {P : Program} {N b : Nat} {Q Q2 : Exit → Fr → Store → Prop} {σ : Fr} {S : Store} {c c2 : Code} (Mid : Fr → Store → Prop) (ks : List Nat) (h1 : VWp P N b c (thenV (fun σ S => Mid (σ.only ks) S) Q) σ S) (h2 : ∀ σ S, Mid σ S → VWp P N b c2 Q2 σ S) : VWp P N b c (thenV (VWp P N b c2 Q2) Q) σ S :=
  vw_mono h1 fun e σ S q => by
    cases e with
    | normal => exact vw_only ks (h2 _ _ q)
    | exit id => exact q
    | goto l => exact q
    | ret => exact q
    | panic ch => exact q
    | outgrown => exact q

/-- .. where what only we see may be turned. -/
theorem vw_joinR {P : Program} {N b : Nat} {Q Q2 : Exit → Fr → Store → Prop} {σ : Fr} {S : Store} {c c2 : Code} (Mid : Fr → Store → Prop) (ks : List Nat) (h1 : VWp P N b c (thenV (fun σ S => ∃ σc Sc, Reach N b (σ.only ks) S σc Sc ∧ Mid σc Sc) Q) σ S) (h2 : ∀ σ S, Mid σ S → VWp P N b c2 Q2 σ S) : VWp P N b c (thenV (VWp P N b c2 Q2) Q) σ S :=
  vw_mono h1 fun e σ S q => by
    cases e with
    | normal => obtain ⟨σc, Sc, hr, hm⟩ := q; exact vw_only ks (vw_reach hr (h2 _ _ hm))
    | exit id => exact q
    | goto l => exact q
    | ret => exact q
    | panic ch => exact q
    | outgrown => exact q
theorem mid_gc {N : Nat} {Mid : Fr → Store → Prop} {σ σ1 σ' : Fr} {B : Store} {u u' : Upds} {l l' : List (Option (Nat × List V))} (ks gs : List Nat) (hσ1 : σ.only ks = σ1) (hw : B.Wf) (h1 : gs.Nodup)
    (h2 : (gcOkU B.nx gs u && gcOkL B.nx gs l gs && idsF (gcP B.nx gs) σ1) = true) (hu : gcU B.nx gs u = u') (hl : gcL B.nx gs l gs = l') (hσ : renF (gcTo B.nx gs) σ1 = σ') (h : Mid σ' (St B u' l')) :
    ∃ σc Sc, Reach N B.nx (σ.only ks) (St B u l) σc Sc ∧ Mid σc Sc := ⟨σ', _, by rw [hσ1]; exact Reach.gc gs hw h1 h2 hu hl hσ, h⟩

theorem ins_v (e : Ss.Env) (f : Ss.Fn) (ds : List Ss.Def) (near : List Int) (block pos : Int) (x : Ss.Ins) (hsl : e.sigs.length ≤ 140737488355328) (hgl : e.globals.length ≤ 140737488355328) (hml : e.muts.length = e.globals.length)
    (hds : ds.length = f.types.length) (htl : f.types.length < 2^63) (hnl : near.length < 2^63) (hx : x.Fits) (hol : x.outs.length ≤ 1048576) (hov : Ss.InTs f.types.length x.outs) :
    VPure Try.prog 36 [ckV e f ds near, vint block, vint pos, encIns x] (.bool (Ss.insOk e f ds near block pos x)) := by
  intro S
  have cf := form_v e x.op x.n (Ss.insOut f.types x) hsl hgl hml hx.1 hx.2.1.1
  have ct := types_v e f ds near x.outs hol hov
  have hal := hx.2.2.1.1
  have ca : ∀ l : List Int, VPure Try.prog 63 [ckV e f ds near, vint block, vint pos, vl vint x.args, vl vint l] (.bool (Ss.asks f.types ds near block pos x.args l)) := fun l => asks_v e f ds near block pos x.args l hds htl hnl (by omega)
  unfold Ss.insOk
  generalize hr : Ss.form e x.op x.n (Ss.insOut f.types x) = r at *
  have hql : (Ss.typesOf f.types x.outs).length < 2^63 := by simp [Ss.typesOf]; omega
  generalize htt : Ss.typesOf f.types x.outs = tt at *
  obtain ⟨ri, ro, rm, rk⟩ := r
  have ceq := Equal_v tt ro hql
  obtain ⟨xo, xn, xa, xu⟩ := x
  obtain ⟨⟨fi, fo⟩, ts, bs⟩ := f
  obtain ⟨sg, im, gl, mu, me⟩ := e
  simp only at *
  have ca' := ca ri
  generalize Ss.asks ts ds near block pos xa ri = ax at ca'
  generalize hio : Ss.insOut ts ⟨xo, xn, xa, xu⟩ = io at cf
  have cf' : VPure Try.prog 62 [.agg [vl encSig sg, .int .i64 im, vl vint gl, vl V.bool mu, .bool me], .int .i64 xo, .int .u64 xn, .int .i64 io] (.tuple [vl vint ri, vl vint ro, .int .u64 rm, .bool rk]) := cf
  refine vcalls_start (c := bodyOf Try.f36) Try.func36 rfl rfl (by simp [Try.ntmps36]) ?_
  rw [Try.ntmps36]
  intro hwf
  repeat refine vw_seqAt rfl ?_
  refine vw_regionRun rfl (by conv => lhs; reduce) (by conv => lhs; simp [-List.map_set, set_vnat, set_vnat1, set_vint, set_bool]) ?_
  refine vseg_done ?_
  repeat refine vw_seqAt rfl ?_
  refine vw_regionRun rfl (by conv => lhs; reduce) (by conv => lhs; simp [-List.map_set, set_vnat, set_vnat1, set_vint, set_bool]) ?_
  refine vseg_done ?_
  refine vw_seqAt rfl ?_
  refine vw_join (fun σ S' => σ = [(0, ckV ⟨sg, im, gl, mu, me⟩ ⟨⟨fi, fo⟩, ts, bs⟩ ds near), (1, vint block), (2, vint pos), (7, .ptr (lid S.nx 0) 0), (8, .bool false), (9, vint io)] ∧ S' = St S [] [some (4, [vint xo, vu xn, vl vint xa, vl vint xu])]) [0, 1, 2, 7, 8, 9] ?_ ?_
  · cases xu with
    | nil =>
      have h0 : io = 0 := by rw [← hio]; rfl
      subst h0
      repeat (first | refine vw_seqAt rfl ?_ | refine vw_scopeAt rfl ?_ | refine vw_labelAt rfl ?_ | refine vw_skipAt rfl ?_ | refine vw_exitAt _ rfl rfl ?_ | refine vw_retAt rfl ?_ | (refine vw_condT rfl rfl ?_ ?_; focus (simp [ev, Fr.look]; done)) | (refine vw_condF rfl rfl ?_ ?_; focus (simp [ev, Fr.look]; done)) | refine vw_blockAt _ rfl rfl ?_ | (apply vw_regionRun; (focus rfl); (focus ((conv => lhs; reduce); done)); (focus ((conv => lhs; simp [-List.map_set, set_vnat, set_vnat1, set_vint, set_bool]); done)); refine vseg_done ?_) | (apply vw_drawPlain; (focus rfl); (focus kernel_rfl); (focus ((conv => lhs; reduce); done)); (focus ((conv => lhs; reduce); done)); (focus (kernel_rfl)); (focus ((conv => lhs; simp [-List.map_set, set_vnat, set_vnat1, set_vint, set_bool]); done)); refine vseg_done ?_))
      exact ⟨by simp [Fr.only], by simp⟩
    | cons v r =>
      obtain ⟨h0, h1⟩ := hov v (by simp)
      obtain ⟨n, rfl⟩ : ∃ n : Nat, v = n := ⟨v.toNat, by omega⟩
      have hn : n < ts.length := by omega
      have h2 : io = ts[n] := by rw [← hio]; simp [Ss.insOut, hn]
      subst h2
      have hpos : (0 : Int) < ((r.length : Int) + 1) := by omega
      repeat (first | refine vw_seqAt rfl ?_ | refine vw_scopeAt rfl ?_ | refine vw_labelAt rfl ?_ | refine vw_skipAt rfl ?_ | refine vw_exitAt _ rfl rfl ?_ | refine vw_retAt rfl ?_ | (refine vw_condT rfl rfl ?_ ?_; focus (simp [ev, Fr.look]; done)) | (refine vw_condF rfl rfl ?_ ?_; focus (simp [ev, Fr.look]; done)) | refine vw_blockAt _ rfl rfl ?_ | (apply vw_regionRun; (focus rfl); (focus ((conv => lhs; reduce); done)); (focus ((conv => lhs; simp [-List.map_set, set_vnat, set_vnat1, set_vint, set_bool, hn, hpos]); done)); refine vseg_done ?_) | (apply vw_drawPlain; (focus rfl); (focus kernel_rfl); (focus ((conv => lhs; reduce); done)); (focus ((conv => lhs; reduce); done)); (focus (kernel_rfl)); (focus ((conv => lhs; simp [-List.map_set, set_vnat, set_vnat1, set_vint, set_bool, hn, hpos]); done)); refine vseg_done ?_))
      exact ⟨by simp [Fr.only], by simp⟩
  rintro σ S' ⟨rfl, rfl⟩
  repeat refine vw_seqAt rfl ?_
  repeat refine vw_seqAt rfl ?_
  refine vw_drawPlain rfl (by kernel_rfl) (by conv => lhs; reduce) (by conv => lhs; reduce) (by kernel_rfl) (by conv => lhs; simp [-List.map_set, set_vnat, set_vnat1, set_vint, set_bool]) ?_
  refine vcall_useH (cf') (by rfl) ?_
  refine vseg_more (by conv => lhs; simp [-List.map_set, set_vnat, set_vnat1, set_vint, set_bool]) ?_
  refine vseg_done ?_
  by_cases h1 : rk = true
  case neg =>
    have h1' : rk = false := by simpa using h1
    repeat (first | refine vw_seqAt rfl ?_ | refine vw_scopeAt rfl ?_ | refine vw_labelAt rfl ?_ | refine vw_skipAt rfl ?_ | refine vw_exitAt _ rfl rfl ?_ | refine vw_retAt rfl ?_ | (refine vw_condT rfl rfl ?_ ?_; focus (simp [ev, Fr.look]; done)) | (refine vw_condF rfl rfl ?_ ?_; focus (simp [ev, Fr.look]; done)) | refine vw_blockAt _ rfl rfl ?_ | (apply vw_regionRun; (focus rfl); (focus ((conv => lhs; reduce); done)); (focus ((conv => lhs; simp [-List.map_set, set_vnat, set_vnat1, set_vint, set_bool, h1']); done)); refine vseg_done ?_) | (apply vw_drawPlain; (focus rfl); (focus kernel_rfl); (focus ((conv => lhs; reduce); done)); (focus ((conv => lhs; reduce); done)); (focus (kernel_rfl)); (focus ((conv => lhs; simp [-List.map_set, set_vnat, set_vnat1, set_vint, set_bool, h1']); done)); refine vseg_done ?_))
    exact done_pure hwf (by simp [h1']) rfl
  by_cases h2 : xn ≤ rm
  case neg =>
    repeat (first | refine vw_seqAt rfl ?_ | refine vw_scopeAt rfl ?_ | refine vw_labelAt rfl ?_ | refine vw_skipAt rfl ?_ | refine vw_exitAt _ rfl rfl ?_ | refine vw_retAt rfl ?_ | (refine vw_condT rfl rfl ?_ ?_; focus (simp [ev, Fr.look]; done)) | (refine vw_condF rfl rfl ?_ ?_; focus (simp [ev, Fr.look]; done)) | refine vw_blockAt _ rfl rfl ?_ | (apply vw_regionRun; (focus rfl); (focus ((conv => lhs; reduce); done)); (focus ((conv => lhs; simp [-List.map_set, set_vnat, set_vnat1, set_vint, set_bool, h1, h2]); done)); refine vseg_done ?_) | (apply vw_drawPlain; (focus rfl); (focus kernel_rfl); (focus ((conv => lhs; reduce); done)); (focus ((conv => lhs; reduce); done)); (focus (kernel_rfl)); (focus ((conv => lhs; simp [-List.map_set, set_vnat, set_vnat1, set_vint, set_bool, h1, h2]); done)); refine vseg_done ?_))
    exact done_pure hwf (by simp [h2]) rfl
  repeat (first | refine vw_seqAt rfl ?_ | refine vw_scopeAt rfl ?_ | refine vw_labelAt rfl ?_ | refine vw_skipAt rfl ?_ | refine vw_exitAt _ rfl rfl ?_ | refine vw_retAt rfl ?_ | (refine vw_condT rfl rfl ?_ ?_; focus (simp [ev, Fr.look]; done)) | (refine vw_condF rfl rfl ?_ ?_; focus (simp [ev, Fr.look]; done)) | refine vw_blockAt _ rfl rfl ?_ | (apply vw_regionRun; (focus rfl); (focus ((conv => lhs; reduce); done)); (focus ((conv => lhs; simp [-List.map_set, set_vnat, set_vnat1, set_vint, set_bool, h1, h2]); done)); refine vseg_done ?_) | (apply vw_drawPlain; (focus rfl); (focus kernel_rfl); (focus ((conv => lhs; reduce); done)); (focus ((conv => lhs; reduce); done)); (focus (kernel_rfl)); (focus ((conv => lhs; simp [-List.map_set, set_vnat, set_vnat1, set_vint, set_bool, h1, h2]); done)); refine vseg_done ?_))
  repeat refine vw_seqAt rfl ?_
  refine vw_regionRun rfl (by conv => lhs; reduce) (by conv => lhs; simp [-List.map_set, set_vnat, set_vnat1, set_vint, set_bool, h1, h2]) ?_
  refine vcall_useH (ct) (by rfl) ?_
  refine vseg_more (by conv => lhs; simp [-List.map_set, set_vnat, set_vnat1, set_vint, set_bool]) ?_
  refine vcall_useH (ceq) (by rfl) ?_
  by_cases h3 : tt = ro
  case neg =>
    refine vseg_more (by conv => lhs; simp [-List.map_set, set_vnat, set_vnat1, set_vint, set_bool, h3]) ?_
    refine vseg_done ?_
    repeat (first | refine vw_seqAt rfl ?_ | refine vw_scopeAt rfl ?_ | refine vw_labelAt rfl ?_ | refine vw_skipAt rfl ?_ | refine vw_exitAt _ rfl rfl ?_ | refine vw_retAt rfl ?_ | (refine vw_condT rfl rfl ?_ ?_; focus (simp [ev, Fr.look]; done)) | (refine vw_condF rfl rfl ?_ ?_; focus (simp [ev, Fr.look]; done)) | refine vw_blockAt _ rfl rfl ?_ | (apply vw_regionRun; (focus rfl); (focus ((conv => lhs; reduce); done)); (focus ((conv => lhs; simp [-List.map_set, set_vnat, set_vnat1, set_vint, set_bool]); done)); refine vseg_done ?_) | (apply vw_drawPlain; (focus rfl); (focus kernel_rfl); (focus ((conv => lhs; reduce); done)); (focus ((conv => lhs; reduce); done)); (focus (kernel_rfl)); (focus ((conv => lhs; simp [-List.map_set, set_vnat, set_vnat1, set_vint, set_bool]); done)); refine vseg_done ?_))
    exact done_pure hwf (by simp [h3]) rfl
  refine vseg_more (by conv => lhs; simp [-List.map_set, set_vnat, set_vnat1, set_vint, set_bool, h3]) ?_
  refine vcall_useH (ca') (by rfl) ?_
  refine vseg_more (by conv => lhs; simp [-List.map_set, set_vnat, set_vnat1, set_vint, set_bool]) ?_
  refine vseg_done ?_
  repeat (first | refine vw_seqAt rfl ?_ | refine vw_scopeAt rfl ?_ | refine vw_labelAt rfl ?_ | refine vw_skipAt rfl ?_ | refine vw_exitAt _ rfl rfl ?_ | refine vw_retAt rfl ?_ | (refine vw_condT rfl rfl ?_ ?_; focus (simp [ev, Fr.look]; done)) | (refine vw_condF rfl rfl ?_ ?_; focus (simp [ev, Fr.look]; done)) | refine vw_blockAt _ rfl rfl ?_ | (apply vw_regionRun; (focus rfl); (focus ((conv => lhs; reduce); done)); (focus ((conv => lhs; simp [-List.map_set, set_vnat, set_vnat1, set_vint, set_bool]); done)); refine vseg_done ?_) | (apply vw_drawPlain; (focus rfl); (focus kernel_rfl); (focus ((conv => lhs; reduce); done)); (focus ((conv => lhs; reduce); done)); (focus (kernel_rfl)); (focus ((conv => lhs; simp [-List.map_set, set_vnat, set_vnat1, set_vint, set_bool]); done)); refine vseg_done ?_))
  exact done_pure hwf (by simp [h1, h2, h3]) rfl
end Go.Vw
