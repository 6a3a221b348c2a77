import Derived.Test.YtkfllaokjaldnaaGreatRows
import Derived.ProofKit
import Derived.ShutString
import Derived.ChangeOld
import Derived.Test.YtkfllaokjaldnaaGreatC22
/-
  LicmMeans: for every input the law answers true, and each argument reads behind the call as it read before. No condition.
-/
namespace Go.Proofs.YtkfllaokjaldnaaGreat.licmMeans
open Go.ChangeShapes Go.WideShapes Go.ChangeAt Go.RowKit
open Go.Vw
theorem own:ownKnob Tryz.prog.godebug=none:=by kernel_rfl
theorem laidOut:laidOutB Tryz.prog=true:=by kernel_rfl
set_option maxRecDepth 100000 in
theorem rdAsk:ReadsC Tryz.prog 48 (fun q:Int × List Int × Ev.State=>[cj q.1,vl vu q.2.1,vl vby q.2.2.mem,cj q.2.2.most,vl vu q.2.2.globals,cj q.2.2.fuel,vl vu q.2.2.input,vl vu q.2.2.log]) (fun q=>Ss.I64 q.1/\Ev.words q.2.1/\Ev.StFits q.2.2) :=
  (ReadsC.struct Tryz.underlying48 (by kernel_rfl) (ReadsF.cons (by kernel_rfl) jcN (ReadsF.cons (by kernel_rfl) jcM (ReadsF.cons (by kernel_rfl) ave ReadsF.nil)))).map (fun p=>(p.1,p.2.1,p.2.2.1)) (fun _=>rfl) (fun p h=>⟨h.1,h.2.1,h.2.2.1⟩)
set_option maxRecDepth 100000 in
theorem lifted (os:Os) (started:os.Started) (H:Type) (enc:TypeId × Value->H) :
    ReturnsInHanded {} Tryz.checked os 5 .any (Rows.licmMeansSpec.pre6 enc Tryz.prog Tryz.f5 Rows.licmMeansRow.domain false) (Rows.licmMeansSpec.post enc Tryz.prog Tryz.f5 false true false false):=by
  refine returnsInHanded_of_change_sized (C:=Tryz.checked) own started (by kernel_rfl) Tryz.func5
    (ChangeSpec.witness6 (enc:=enc) (C:=Tryz.checked) false ⟨#[], #[.agg #[.slice none 0 0, .int .i64 0, .slice none 0 0, .slice none 0 0, .bool false, .slice none 0 0], .agg #[.int .i64 0, .slice none 0 0, .slice none 0 0, .int .i64 0, .slice none 0 0, .int .i64 0, .slice none 0 0, .slice none 0 0]],[]⟩ 8 (by kernel_rfl) (by kernel_rfl) (by kernel_rfl) (by kernel_rfl)) ?_
  intro W base args ds gs before hval0 hW hcnd hsz _;have hval : ∀ (j:Nat) t v,Tryz.f5.params[j]? = some t->args[j]? = some v->Value.okWide Tryz.prog W .any base t v:=hval0
  have hW':=hW;obtain ⟨p,q,hA0,hV,rfl,hfz,hnd⟩:=hW;have hA:DataW.TrodAll enc Tryz.prog W 0 (fun _=>true) true Tryz.f5.params.toList args.toList ds p:=hA0;have hsz' : ∀ n∈DataW.weightsEach Tryz.prog (Tryz.f5.params.toList++Rows.licmMeansSpec.plain.varTypes Tryz.prog) (ds++gs),n<=reachBytes:=fun n hn=>by simpa using aD.1 hsz n hn
  rw [Tryz.params5] at hA hval hsz';obtain ⟨v0,vs0,d0,ds0,p0,q0,hargs,rfl,rfl,h0,r0⟩:=trodAll_cons hA;obtain ⟨v1,vs1,d1,ds1,p1,q1,rfl,rfl,rfl,h1,r1⟩:=trodAll_cons r0;obtain ⟨rfl,rfl,rfl⟩:=trodAll_nil r1;obtain rfl:args = #[v0,v1]:=by cases args; simp_all
  obtain ⟨rfl,rfl⟩:=trodVars_none hV;obtain ⟨cs0,rfl,_⟩ : ∃ cs,v0 = .agg cs/\True:=by
    have hv:=hval 0 42 v0 rfl rfl;simp only [Value.okWide,Tryz.underlying42] at hv;obtain ⟨cs,e,_⟩:=hv;exact ⟨cs,e,trivial⟩
  have k0:=h0;have lt0 : ∀ x∈p0,x.block<W.heap.size:=by obtain ⟨m,hm⟩:=k0; exact DataW.trod_lt m _ _ _ hm
  have z0 : ∀ n∈d0.weights Tryz.prog 42,n<=reachBytes:=fun n hn=>hsz' n (DataW.weights_mem_each (j:=0) (t:=42) (d:=d0) rfl rfl n hn)
  obtain ⟨a0,w0,e0⟩:=ReadsC.agg ayy k0 z0;obtain ⟨cs1,rfl,_⟩ : ∃ cs,v1 = .agg cs/\True:=by
    have hv:=hval 1 48 v1 rfl rfl;simp only [Value.okWide,Tryz.underlying48] at hv;obtain ⟨cs,e,_⟩:=hv;exact ⟨cs,e,trivial⟩
  have k1:=h1;have lt1 : ∀ x∈p1,x.block<W.heap.size:=by obtain ⟨m,hm⟩:=k1; exact DataW.trod_lt m _ _ _ hm
  have z1 : ∀ n∈d1.weights Tryz.prog 48,n<=reachBytes:=fun n hn=>hsz' n (DataW.weights_mem_each (j:=1) (t:=48) (d:=d1) rfl rfl n hn)
  obtain ⟨a1,w1,e1⟩:=ReadsC.agg rdAsk k1 z1;clear hA0 hval0;refine (alj (xs:=[JF a0,encAsk a1.1 a1.2.1 a1.2.2]) (vs:=[.agg cs0, .agg cs1]) rfl ?_ (aiw a0 a1.1 a1.2.1 a1.2.2 w0 w1.1 w1.2.1 w1.2.2)).mono fun e W' ⟨he,bel⟩ => ?_
  .intro i x v hx hv
   match i,hx,hv with
   | 0,hx,hv=>cases hx; cases hv; exact e0
   | 1,hx,hv=>cases hx; cases hv; exact e1
  subst he;exact ⟨_,rfl,_,_,_,[],_,[],hW',trodAll_mk1 (shut_bool Tryz.underlying4 _),(trodAll_cons_mk (Below.trod laidOut (by kernel_rfl) (aP (by kernel_rfl)) k0 bel lt0) (trodAll_cons_mk (Below.trod laidOut (by kernel_rfl) (aP (by kernel_rfl)) k1 bel lt1) trodAll_mk0)),rfl,bel.frame _,fun h=>by cases h⟩
theorem over:Rows.licmMeansRow.holds Tryz.pinned (OpenSpec.ofChange Rows.licmMeansSpec) :=
  OpenClaim.holds_of_wide 5 Tryz.f5 rfl rfl rfl rfl rfl rfl rfl ⟨rfl,rfl,rfl,rfl,rfl⟩ rfl rfl rfl rfl rfl (by kernel_rfl) Tryz.func5 (by kernel_rfl)
    (aP (by kernel_rfl)) (by unfold Func.isWrapper; first | (rw [if_pos (by decide +kernel)]; kernel_rfl) | (rw [if_neg (by decide +kernel)]; exact ⟨rfl,rfl⟩))
    (fun os started H enc _=>lifted os started H enc)
theorem proved:Rows.LicmMeansSaid:=over
end Go.Proofs.YtkfllaokjaldnaaGreat.licmMeans
