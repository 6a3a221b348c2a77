import Derived.Test.YtjkfgakbijjegaaGreatRows
import Derived.ProofKit
import Derived.ShutString
import Derived.ChangeOld
import Derived.Test.YtjkfgakbijjegaaGreatC22
/-
  TopRound: for every input the law answers true, and each argument reads behind the call as it read before. No condition.
-/
namespace Go.Proofs.YtjkfgakbijjegaaGreat.topRound
open Go.ChangeShapes Go.WideShapes Go.ChangeAt Go.RowKit
open Go.Vw
theorem own:ownKnob Tryz.prog.godebug=none:=by kernel_rfl
theorem laidOut:laidOutB Tryz.prog=true:=by kernel_rfl
set_option maxRecDepth 100000 in
theorem lifted (os:Os) (started:os.Started) (H:Type) (enc:TypeId × Value->H) :
    ReturnsInHanded {} Tryz.checked os 3 .any (Rows.topRoundSpec.pre6 enc Tryz.prog Tryz.f3 Rows.topRoundRow.domain false) (Rows.topRoundSpec.post enc Tryz.prog Tryz.f3 false true false false):=by
  refine returnsInHanded_of_change_sized (C:=Tryz.checked) own started (by kernel_rfl) Tryz.func3
    (ChangeSpec.witness6 (enc:=enc) (C:=Tryz.checked) false ⟨#[], #[.slice none 0 0],[]⟩ 8 (by kernel_rfl) (by kernel_rfl) (by kernel_rfl) (by kernel_rfl)) ?_
  intro W base args ds gs before hval0 hW hcnd hsz _;have hval : ∀ (j:Nat) t v,Tryz.f3.params[j]? = some t->args[j]? = some v->Value.okWide Tryz.prog W .any base t v:=hval0;have hW':=hW;obtain ⟨p,q,hA0,hV,rfl,hfz,hnd⟩:=hW;have hA:DataW.TrodAll enc Tryz.prog W 0 (fun _=>true) true Tryz.f3.params.toList args.toList ds p:=hA0;have hsz' : ∀ n∈DataW.weightsEach Tryz.prog (Tryz.f3.params.toList++Rows.topRoundSpec.plain.varTypes Tryz.prog) (ds++gs),n<=reachBytes:=fun n hn=>by simpa using ax.1 hsz n hn
  rw [Tryz.params3] at hA hval hsz';obtain ⟨v0,vs0,d0,ds0,p0,q0,hargs,rfl,rfl,h0,r0⟩:=trodAll_cons hA;obtain ⟨rfl,rfl,rfl⟩:=trodAll_nil r0;obtain rfl:args = #[v0]:=by cases args; simp_all
  obtain ⟨rfl,rfl⟩:=trodVars_none hV;obtain ⟨ad0,len0,cap0,rfl⟩:=okWide_slice Tryz.underlying22 (hval 0 22 v0 rfl rfl);have k0:=h0;have lt0 : ∀ x∈p0,x.block<W.heap.size:=by obtain ⟨m,hm⟩:=k0; exact DataW.trod_lt m _ _ _ hm
  have z0 : ∀ n∈d0.weights Tryz.prog 22,n<=reachBytes:=fun n hn=>hsz' n (DataW.weights_mem_each (j:=0) (t:=22) (d:=d0) rfl rfl n hn);obtain ⟨a0,w0,e0⟩:=ReadsC.one as6 rfl k0 z0;clear hA0 hval0;refine (ah5 (xs:=[vl vby a0]) (vs:=[.slice ad0 len0 cap0]) rfl ?_ (ajl a0 w0)).mono fun e W' ⟨he,bel⟩ => ?_
  .intro i x v hx hv
   match i,hx,hv with
   | 0,hx,hv=>cases hx; cases hv; exact e0
  subst he;exact ⟨_,rfl,_,_,_,[],_,[],hW',trodAll_mk1 (shut_bool Tryz.underlying4 _),(trodAll_cons_mk (Below.trod laidOut (by kernel_rfl) (aI (by kernel_rfl)) k0 bel lt0) trodAll_mk0),rfl,bel.frame _,fun h=>by cases h⟩
theorem over:Rows.topRoundRow.holds Tryz.pinned (OpenSpec.ofChange Rows.topRoundSpec) :=
  OpenClaim.holds_of_wide 3 Tryz.f3 rfl rfl rfl rfl rfl rfl rfl ⟨rfl,rfl,rfl,rfl,rfl⟩ rfl rfl rfl rfl rfl (by kernel_rfl) Tryz.func3 (by kernel_rfl)
    (aI (by kernel_rfl)) (by unfold Func.isWrapper; first | (rw [if_pos (by decide +kernel)]; kernel_rfl) | (rw [if_neg (by decide +kernel)]; exact ⟨rfl,rfl⟩))
    (fun os started H enc _=>lifted os started H enc)
theorem proved:Rows.TopRoundSaid:=over
end Go.Proofs.YtjkfgakbijjegaaGreat.topRound
