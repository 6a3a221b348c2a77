import Derived.Test.YtkfllaokjaldnaaRows
import Derived.WalkKit
import Derived.ProofKit
import Derived.OpenShut
import Derived.ShutString
import Derived.ChangeOld
import Derived.Below
import Derived.SizedLaws
import Derived.Test.YtkfllaokjaldnaaC10
import Derived.Test.YtkfllaokjaldnaaC12
import Derived.Test.YtkfllaokjaldnaaC34
/-
  LicmPorches: for every input the law answers true, and each argument reads behind the call as it read before. No condition.
-/
namespace Go.Proofs.Ytkfllaokjaldnaa.licmPorches
open Go.ChangeShapes Go.WideShapes Go.ChangeAt Go.RowKit
open Go.Vw
theorem own:ownKnob Try.prog.godebug=none:=by kernel_rfl
theorem laidOut:laidOutB Try.prog=true:=by kernel_rfl
set_option maxRecDepth 100000 in
theorem lifted (os:Os) (started:os.Started) (H:Type) (enc:TypeId × Value→H) :
    ReturnsInHanded {} Try.checked os 3 .any (Rows.licmPorchesSpec.pre6 enc Try.prog Try.f3 Rows.licmPorchesRow.domain false) (Rows.licmPorchesSpec.post enc Try.prog Try.f3 false true false false):=by
  refine returnsInHanded_of_change_sized (C:=Try.checked) own started (by kernel_rfl) Try.func3
    (ChangeSpec.witness6 (enc:=enc) (C:=Try.checked) false ⟨#[], #[.agg #[.slice none 0 0, .slice none 0 0, .slice none 0 0, .slice none 0 0], .int .i64 0, .slice none 0 0],[]⟩ 8 (by kernel_rfl) (by kernel_rfl) (by kernel_rfl) (by kernel_rfl)) ?_
  intro W base args ds gs before hval0 hW hcnd hsz _
  have hval : ∀ (j:Nat) t v,Try.f3.params[j]? = some t→args[j]? = some v→Value.okWide Try.prog W .any base t v:=hval0
  have hW':=hW
  obtain ⟨p,q,hA0,hV,rfl,hfz,hnd⟩:=hW
  have hA:DataW.TrodAll enc Try.prog W 0 (fun _=>true) true Try.f3.params.toList args.toList ds p:=hA0
  have hsz' : ∀ n∈DataW.weightsEach Try.prog (Try.f3.params.toList++Rows.licmPorchesSpec.plain.varTypes Try.prog) (ds++gs),n≤reachBytes:=fun n hn=>by simpa using List.all_eq_true.1 hsz n hn
  rw [Try.params3] at hA hval hsz'
  obtain ⟨v0,vs0,d0,ds0,p0,q0,hargs,rfl,rfl,h0,r0⟩:=trodAll_cons hA
  obtain ⟨v1,vs1,d1,ds1,p1,q1,rfl,rfl,rfl,h1,r1⟩:=trodAll_cons r0
  obtain ⟨v2,vs2,d2,ds2,p2,q2,rfl,rfl,rfl,h2,r2⟩:=trodAll_cons r1
  obtain ⟨rfl,rfl,rfl⟩:=trodAll_nil r2
  obtain rfl:args = #[v0,v1,v2]:=by cases args; simp_all
  obtain ⟨rfl,rfl⟩:=trodVars_none hV
  obtain ⟨cs0,rfl,_⟩ : ∃ cs,v0 = .agg cs∧True:=by
    have hv:=hval 0 27 v0 rfl rfl
    simp only [Value.okWide,Try.underlying27] at hv
    obtain ⟨cs,e,_⟩:=hv
    exact ⟨cs,e,trivial⟩
  have k0:=h0
  have lt0 : ∀ x∈p0,x.block<W.heap.size:=by obtain ⟨m,hm⟩:=k0; exact DataW.trod_lt m _ _ _ hm
  have z0 : ∀ n∈d0.weights Try.prog 27,n≤reachBytes:=fun n hn=>hsz' n (DataW.weights_mem_each (j:=0) (t:=27) (d:=d0) rfl rfl n hn)
  obtain ⟨a0,w0,e0⟩:=ReadsC.agg rdFn k0 z0
  obtain ⟨a1,rfl,rfl,rfl,x1⟩:=open_int Try.underlying3 (hval 1 3 v1 rfl rfl) h1
  have w1:=i64_of x1
  obtain ⟨ad2,len2,cap2,rfl⟩:=okWide_slice Try.underlying22 (hval 2 22 v2 rfl rfl)
  have k2:=h2
  have lt2 : ∀ x∈p2,x.block<W.heap.size:=by obtain ⟨m,hm⟩:=k2; exact DataW.trod_lt m _ _ _ hm
  have z2 : ∀ n∈d2.weights Try.prog 22,n≤reachBytes:=fun n hn=>hsz' n (DataW.weights_mem_each (j:=2) (t:=22) (d:=d2) rfl rfl n hn)
  obtain ⟨a2,w2,e2⟩:=ReadsC.one KJ rfl k2 z2
  clear hA0 hval0
  refine (lift_calls (xs:=[za a0,vint a1,vl vint a2]) (vs:=[.agg cs0, .int .i64 a1, .slice ad2 len2 cap2]) rfl ?_ (jbc a0 w0 a1 a2 (by have:=w2.1; omega))).mono fun e W' ⟨he,bel⟩ => ?_
  · intro i x v hx hv
    match i,hx,hv with
    | 0,hx,hv=>cases hx; cases hv; exact e0
    | 1,hx,hv=>cases hx; cases hv; exact .int _ _
    | 2,hx,hv=>cases hx; cases hv; exact e2
  subst he
  exact ⟨_,rfl,_,_,_,[],_,[],hW',trodAll_mk1 (shut_bool Try.underlying4 _),(trodAll_cons_mk (Below.trod laidOut (by kernel_rfl) (of_decide_eq_true (by kernel_rfl)) k0 bel lt0) (trodAll_cons_mk (shut_int Try.underlying3 x1) (trodAll_cons_mk (Below.trod laidOut (by kernel_rfl) (of_decide_eq_true (by kernel_rfl)) k2 bel lt2) trodAll_mk0))),rfl,bel.frame _,fun h=>by cases h⟩
theorem over:Rows.licmPorchesRow.holds Try.pinned (OpenSpec.ofChange Rows.licmPorchesSpec) :=
  OpenClaim.holds_of_wide 3 Try.f3 rfl rfl rfl rfl rfl rfl rfl ⟨rfl,rfl,rfl,rfl,rfl⟩ rfl rfl rfl rfl rfl (by kernel_rfl) Try.func3 (by kernel_rfl)
    (of_decide_eq_true (by kernel_rfl)) (by unfold Func.isWrapper; first | (rw [if_pos (by decide +kernel)]; kernel_rfl) | (rw [if_neg (by decide +kernel)]; exact ⟨rfl,rfl⟩))
    (fun os started H enc _=>lifted os started H enc)
theorem proved:Rows.LicmPorchesSaid:=over
end Go.Proofs.Ytkfllaokjaldnaa.licmPorches
