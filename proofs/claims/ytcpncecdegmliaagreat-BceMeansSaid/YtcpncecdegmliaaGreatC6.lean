import Derived.Test.YtcpncecdegmliaaGreatC5
/- Part of the proof. -/
set_option linter.unusedVariables false
set_option linter.unusedSimpArgs false
/-
  The calculus: code over values without addresses.
-/
namespace Go.Vw
open Go.RowKit
def VWp (P:Program) (N b:Nat) (c:Code) (Q:Exit→Fr→Store→Prop) (σ:Fr) (S:Store):Prop :=
  ∀ m β w a,Holds S m β w→FrameRep N m β σ a→c.wp P (fun e a' w' => ∃ σ' S' m' β',Q e σ' S'∧Holds S' m' β' w'∧FrameRep N m' β' σ' a'∧ExtB b m β w m' β' w') a w
def Ka (K:Fr→Store→Prop) (Q:Exit→Fr→Store→Prop):Exit→Fr→Store→Prop
  | .normal=>K
  | e=>Q e
def Zd (id:Nat) (Q:Exit→Fr→Store→Prop):Exit→Fr→Store→Prop
  | .exit id'=>if id'=id then Q .normal else Q (.exit id')
  | e=>Q e
section
variable {P:Program} {N b:Nat} {Q:Exit→Fr→Store→Prop} {σ:Fr} {S:Store}
theorem vw_mono {c:Code} {Q':Exit→Fr→Store→Prop} (h:VWp P N b c Q σ S) (hq : ∀ e σ S,Q e σ S→Q' e σ S):VWp P N b c Q' σ S :=
  fun m β w a hS hF=>wp_mono (h m β w a hS hF) fun e a' w' ⟨σ',S',m',β',q,r⟩=>⟨σ',S',m',β',hq _ _ _ q,r⟩
theorem vw_skip (h:Q .normal σ S):VWp P N b .skip Q σ S:=fun m β w a hS hF=>wp_skip ⟨σ,S,m,β,h,hS,hF,ExtB.refl _ _ _ _⟩
theorem vw_exit {id:Nat} (h:Q (.exit id) σ S):VWp P N b (.exit id) Q σ S:=fun m β w a hS hF=>wp_exit ⟨σ,S,m,β,h,hS,hF,ExtB.refl _ _ _ _⟩
theorem vw_ret (h:Q .ret σ S):VWp P N b .ret Q σ S:=fun m β w a hS hF=>wp_ret ⟨σ,S,m,β,h,hS,hF,ExtB.refl _ _ _ _⟩
theorem jbC {c:Code} {m m':Imm} {β β':Objs} {w w':World} {a:Act} (h:VWp P N b c Q σ S) (hS:Holds S m' β' w') (hF:FrameRep N m' β' σ a) (he:ExtB b m β w m' β' w') :
    c.wp P (fun e a' w'' => ∃ σ' S' m'' β'',Q e σ' S'∧Holds S' m'' β'' w''∧FrameRep N m'' β'' σ' a'∧ExtB b m β w m'' β'' w'') a w' :=
  wp_mono (h m' β' w' a hS hF) fun e a' w'' ⟨σ',S',m'',β'',q,r1,r2,r3⟩=>⟨σ',S',m'',β'',q,r1,r2,he.trans r3⟩
theorem vw_seq {x y:Code} (h:VWp P N b x (Ka (VWp P N b y Q) Q) σ S):VWp P N b (.seq x y) Q σ S:=by
  intro m β w a hS hF;refine wp_seq (wp_mono (h m β w a hS hF) ?_);rintro e a' w' ⟨σ',S',m',β',q,r1,r2,r3⟩
  cases e with
  | normal=>exact jbC q r1 r2 r3
  | exit id=>exact ⟨σ',S',m',β',q,r1,r2,r3⟩
  | goto l=>exact ⟨σ',S',m',β',q,r1,r2,r3⟩
  | ret=>exact ⟨σ',S',m',β',q,r1,r2,r3⟩
  | panic ch=>exact ⟨σ',S',m',β',q,r1,r2,r3⟩
  | outgrown=>exact ⟨σ',S',m',β',q,r1,r2,r3⟩
theorem vw_block {id:Nat} {c:Code} (h:VWp P N b c (Zd id Q) σ S):VWp P N b (.block id c) Q σ S:=by
  intro m β w a hS hF;refine wp_block (wp_mono (h m β w a hS hF) ?_);rintro e a' w' ⟨σ',S',m',β',q,r1,r2,r3⟩
  cases e with
  | normal=>exact ⟨σ',S',m',β',q,r1,r2,r3⟩
  | exit id' =>
    simp only [Exit.inBlock,Zd] at q ⊢;split
    ·rename_i e; rw [if_pos e] at q; exact ⟨σ',S',m',β',q,r1,r2,r3⟩
    ·rename_i e; rw [if_neg e] at q; exact ⟨σ',S',m',β',q,r1,r2,r3⟩
  | goto l=>exact ⟨σ',S',m',β',q,r1,r2,r3⟩
  | ret=>exact ⟨σ',S',m',β',q,r1,r2,r3⟩
  | panic ch=>exact ⟨σ',S',m',β',q,r1,r2,r3⟩
  | outgrown=>exact ⟨σ',S',m',β',q,r1,r2,r3⟩
theorem vw_cond {c:Operand} {x y:Code} {z:Arg} {t:Bool} (hz:jo c=some z) (ht:ev σ z = .bool t) (hx:t=true→VWp P N b x Q σ S) (hy:t=false→VWp P N b y Q σ S):VWp P N b (.cond c x y) Q σ S:=by
  intro m β w a hS hF;have hc:a.eval c = .bool t:=by
    have:=jA hF hz;rw [ht] at this;exact this.inv_bool
  exact wp_cond_split hc (fun h=>hx h m β w a hS hF) (fun h=>hy h m β w a hS hF)
def Reach (N b:Nat) (σ:Fr) (S:Store) (σ':Fr) (S':Store):Prop :=
  ∀ m β w a,Holds S m β w→FrameRep N m β σ a → ∃ m' β',Holds S' m' β' w∧FrameRep N m' β' σ' a∧ExtB b m β w m' β' w
theorem Reach.refl (σ:Fr) (S:Store):Reach N b σ S σ S:=fun m β w a h r=>⟨m,β,h,r,ExtB.refl _ _ _ _⟩
theorem Reach.trans {σ' σ'':Fr} {S' S'':Store} (h:Reach N b σ S σ' S') (k:Reach N b σ' S' σ'' S''):Reach N b σ S σ'' S'':=by
  intro m β w a hS hr;obtain ⟨m',β',h1,h2,h3⟩:=h m β w a hS hr;obtain ⟨m'',β'',k1,k2,k3⟩:=k m' β' w a h1 h2;exact ⟨m'',β'',k1,k2,h3.trans k3⟩
theorem Reach.only (ks:List Nat):Reach N b σ S (σ.only ks) S:=fun m β w a h r=>⟨m,β,h,r.only ks,ExtB.refl _ _ _ _⟩
theorem jF {σ':Fr} {S':Store} {c:Code} (hr:Reach N b σ S σ' S') (h:VWp P N b c Q σ' S'):VWp P N b c Q σ S:=by
  intro m β w a hS hF;obtain ⟨m',β',h1,h2,h3⟩:=hr m β w a hS hF;exact jbC h h1 h2 h3
theorem vw_only (ks:List Nat) {c:Code} (h:VWp P N b c Q (σ.only ks) S):VWp P N b c Q σ S:=fun m β w a hS hF=>h m β w a hS (hF.only ks)
theorem least {p:Nat→Prop} (h : ∃ n,p n) : ∃ n,p n ∧ ∀ k,p k→n≤k:=by
  obtain ⟨n,hn⟩:=h
  induction n using Nat.strongRecOn with
  | _ n ih =>
    by_cases hx : ∃ k,k<n∧p k
    ·obtain ⟨k,hk,hp⟩:=hx; exact ih k hk hp
    ·exact ⟨n,hn,fun k hk=>by
       rcases Nat.lt_or_ge k n with h' | h'
       ·exact absurd ⟨k,h',hk⟩ hx
       ·exact h'⟩
theorem wp_loop_num {c:Code} {Q:Exit→Act→World→Prop} {a:Act} {w:World} (R:Nat→Act→World→Prop) (n0:Nat) (h0:R n0 a w)
    (round : ∀ n a w,R n a w→c.wp P (Exit.then (fun a' w' => ∃ n',n'<n∧R n' a' w') Q) a w):(Code.loop c).wp P Q a w:=by
  classical
  let μ:Act→World→Nat:=fun a w=>if h : ∃ n,R n a w then Classical.choose (least h) else 0
  have hμ : ∀ a w,(∃ n,R n a w)→R (μ a w) a w ∧ ∀ k,R k a w→μ a w≤k:=by
    intro a w h;have e:μ a w=Classical.choose (least h):=by simp only [μ]; rw [dif_pos h]
    rw [e];exact Classical.choose_spec (least h)
  refine wp_loop (fun a w => ∃ n,R n a w) μ ⟨n0,h0⟩ fun a w hI => ?_
  obtain ⟨hR,_⟩:=hμ a w hI;refine wp_mono (round (μ a w) a w hR) ?_;intro e a' w' q
  cases e with
  | normal =>
    obtain ⟨n',hlt,hn'⟩:=q;exact ⟨⟨n',hn'⟩,Nat.lt_of_le_of_lt ((hμ a' w' ⟨n',hn'⟩).2 n' hn') hlt⟩
  | exit id=>exact q
  | goto l=>exact q
  | ret=>exact q
  | panic ch=>exact q
  | outgrown=>exact q
theorem vw_loop (ks:List Nat) {c:Code} (I:Nat→Fr→Store→Prop) (n0:Nat) (h0:I n0 (σ.only ks) S)
    (round : ∀ n σ S,I n σ S→VWp P N b c (Ka (fun σ' S' => ∃ n',n'<n ∧ ∃ σc Sc,Reach N b (σ'.only ks) S' σc Sc∧I n' σc Sc) Q) σ S):VWp P N b (.loop c) Q σ S:=by
  intro m β w a hS hF;refine wp_loop_num (fun n a' w' => ∃ σ' S' m' β',I n σ' S'∧Holds S' m' β' w'∧FrameRep N m' β' σ' a'∧ExtB b m β w m' β' w') n0 ⟨_,S,m,β,h0,hS,hF.only ks,ExtB.refl _ _ _ _⟩ ?_;rintro n a' w' ⟨σ',S',m',β',hI,r1,r2,r3⟩;refine wp_mono (jbC (round n σ' S' hI) r1 r2 r3) ?_;rintro e a'' w'' ⟨σ'',S'',m'',β'',q,s1,s2,s3⟩
  cases e with
  | normal =>
    obtain ⟨n',hlt,σc,Sc,hr,hI'⟩:=q;obtain ⟨m3,β3,t1,t2,t3⟩:=hr m'' β'' w'' _ s1 (s2.only ks);exact ⟨n',hlt,σc,Sc,m3,β3,hI',t1,t2,s3.trans t3⟩
  | exit id=>exact ⟨σ'',S'',m'',β'',q,s1,s2,s3⟩
  | goto l=>exact ⟨σ'',S'',m'',β'',q,s1,s2,s3⟩
  | ret=>exact ⟨σ'',S'',m'',β'',q,s1,s2,s3⟩
  | panic ch=>exact ⟨σ'',S'',m'',β'',q,s1,s2,s3⟩
  | outgrown=>exact ⟨σ'',S'',m'',β'',q,s1,s2,s3⟩
end
/-! ### Regions -/
structure CO where
  dst:Option Nat
  guard:Option (Nat × Bool)
  op:COp
deriving Inhabited
def zK (ops:Array Oper):Option (Nat × Bool)→Option (Option (Nat × Bool))
  | none=>some none
  | some (j,want)=>match (ops[j]?).bind (·.dst) with
    | some t=>some (some (t,want))
    | none=>none
def KW (P:Program) (N:Nat) (ops:Array Oper) (o:Oper):Option CO :=
  match Wz P o,zK ops o.guard with
  | some c,some g=>if o.dst.all (· < N) then some ⟨o.dst,g,c⟩ else none
  | _,_=>none
def qf (P:Program) (N:Nat) (ops:Array Oper):Option (List CO):=ops.toList.mapM (KW P N ops)
def jQ (P:Program) (f:FuncId):Bool :=
  match P.funcs[f]? with
  | some fn => !(fn.name == "runtime.NumGoroutine" || fn.body.isNone)
  | none=>false
def vop (P:Program) (σ:Fr) (S:Store) (op:COp) (k:V→Store→Prop):Prop :=
  match op with
  | .call f args=>VCalls P f (args.map (ev σ)) S k
  | .callv f args=>match ev σ f with
    | .func g caps=>jQ P g=true∧VCalls P g (args.map (ev σ)++caps) S k
    | _=>False
  | op=>match jg (ev σ) S op with
    | some (v,S')=>k v S'
    | none=>False
def vseg (P:Program):List CO→(Fr→Store→Prop)→Fr→Store→Prop
  | [],K,σ,S=>K σ S
  | o::r,K,σ,S=>match o.guard with
    | none=>vop P σ S o.op fun v S'=>vseg P r K (σ.put o.dst v) S'
    | some (t,want)=>match σ.look t with
      | .bool b=>if b=want then vop P σ S o.op fun v S'=>vseg P r K (σ.put o.dst v) S' else vseg P r K (σ.put o.dst (.tuple [])) S
      | .tuple []=>vseg P r K (σ.put o.dst (.tuple [])) S
      | _=>False
theorem Yp {N:Nat} {m:Imm} {β:Objs} {σ:Fr} {a:Act} (hF:FrameRep N m β σ a) {ops:Array Oper} {j t:Nat} (h:(ops[j]?).bind (·.dst)=some t) {b:Bool} (hb:σ.look t = .bool b) :
    yielded ops a.tmps j=some b:=by
  have hr:=hF.rep t;rw [hb] at hr;have e:=hr.inv_bool;have:a.tmps[t]? = some (.bool b):=by
    rw [Array.getD_eq_getD_getElem?] at e
    cases hx:a.tmps[t]? with
    | none=>rw [hx] at e; simp [undef] at e
    | some v=>rw [hx] at e; simpa using e
  simp [yielded,h,this]
theorem KY {N:Nat} {m:Imm} {β:Objs} {σ:Fr} {a:Act} (hF:FrameRep N m β σ a) {ops:Array Oper} {j t:Nat} (h:(ops[j]?).bind (·.dst)=some t) (hb:σ.look t = .tuple []) :
    yielded ops a.tmps j=none:=by
  have hr:=hF.rep t;rw [hb] at hr;obtain ⟨vs,e,hl,_⟩:=hr.inv_tuple;have hv:vs=[]:=by cases vs<;>simp at hl ⊢
  subst hv;simp only [yielded,h,Option.bind_some];rw [Array.getD_eq_getD_getElem?] at e
  cases hx:a.tmps[t]? with
  | none=>rfl
  | some v=>rw [hx] at e; simp at e; subst e; rfl
theorem call_run {P:Program} {N:Nat} {m:Imm} {β:Objs} {w:World} {a:Act} {σ:Fr} {o:Oper} {c:Call} {f:FuncId} {args:List Arg} (ho:o.op = .call c) (hc:JL P c=some (.call f args)) (hF:FrameRep N m β σ a) :
    ∃ vs:List Value,(execOp a.eval o).run P w = .ok (.enter f vs.toArray) w∧RepL m β (args.map (ev σ)) vs:=by
  obtain ⟨callee,as,argTypes⟩:=c;unfold JL at hc;split at hc
  ·split at hc<;>(try cases hc)<;>(obtain ⟨z,hz,h⟩:=Option.map_eq_some_iff.1 hc; cases h)
  ·split at hc
   ·split at hc
    ·split at hc
     ·split at hc<;>cases hc
     ·cases hc
    ·cases hc
   ·split at hc
    ·split at hc
     ·split at hc<;>cases hc
     ·cases hc
    ·cases hc
  ·split at hc<;>cases hc
  ·split at hc
   ·split at hc<;>cases hc
   ·cases hc
  ·split at hc
   ·split at hc<;>cases hc
   ·cases hc
  ·rename_i f' h1;subst h1;split at hc
   ·rename_i fn hfn;split at hc
    ·cases hc
    ·rename_i hn;obtain ⟨zs,hz,h⟩:=Option.map_eq_some_iff.1 hc
     cases h
     refine ⟨as.toList.map a.eval, ?_,evs_rep hF hz⟩;simp only [Bool.or_eq_true,not_or,Bool.not_eq_true] at hn;obtain ⟨hn1,hn2⟩:=hn;have hargs:as.map a.eval=(as.toList.map a.eval).toArray:=by simp [←Array.toList_map]
     have hn1' : ¬ fn.name = "runtime.NumGoroutine" := by simpa using hn1
     have hn2' : ¬ fn.body=none:=by intro h; simp [h] at hn2
     simp [execOp,ho,resolve,Act.eval,Deferred.ofValue,invoke,callFunc,hfn,hn1',hn2',hargs]
   ·cases hc
  ·split at hc
   ·cases hc
   ·cases hc
  ·cases hc
theorem compOp_call {P:Program} {o:Oper} {co:COp} (h:Wz P o=some co) (hs:co.simple=false) : ∃ c,o.op = .call c∧JL P c=some co:=by
  unfold Wz at h;split at h <;>
    first
    | exact ⟨_, ‹_›,h⟩
    | (exfalso
       revert hs
       repeat' (first | (split at h))
       all_goals first
         | (cases h; done)
         | (cases h; simp [COp.simple]; done)
         | (obtain ⟨z,hz,hh⟩:=Option.map_eq_some_iff.1 h; cases hh; simp [COp.simple]; done))
end Go.Vw
/-
 Regions and bodies: from values without addresses to the model's runs.
-/
namespace Go.Vw
open Go.RowKit
theorem callv_run {P:Program} {N:Nat} {m:Imm} {β:Objs} {w:World} {a:Act} {σ:Fr} {o:Oper} {c:Call} {fz:Arg} {args:List Arg} {g:FuncId} {caps:List V} (ho:o.op = .call c) (hc:JL P c=some (.callv fz args)) (hF:FrameRep N m β σ a)
  (hg:ev σ fz = .func g caps) (hcall:jQ P g=true) :
  ∃ vs:List Value,(execOp a.eval o).run P w = .ok (.enter g vs.toArray) w∧RepL m β (args.map (ev σ)++caps) vs:=by
 obtain ⟨callee,as,argTypes⟩:=c;unfold JL at hc;split at hc
 ·split at hc<;>(try cases hc)<;>(obtain ⟨z,hz,h⟩:=Option.map_eq_some_iff.1 hc; cases h)
 ·split at hc
  ·split at hc
   ·split at hc
    ·split at hc<;>cases hc
    ·cases hc
   ·cases hc
  ·split at hc
   ·split at hc
    ·split at hc<;>cases hc
    ·cases hc
   ·cases hc
 ·split at hc<;>cases hc
 ·split at hc
  ·split at hc<;>cases hc
  ·cases hc
 ·split at hc
  ·split at hc<;>cases hc
  ·cases hc
 ·split at hc
  ·split at hc
   ·cases hc
   ·obtain ⟨zs,hz,h⟩:=Option.map_eq_some_iff.1 hc
    cases h
  ·cases hc
 ·rename_i fv hnf h1;simp only at h1;subst h1;split at hc
  ·rename_i fz' args' k1 k2
   cases hc
   have hr:=jA hF k1;rw [hg] at hr;obtain ⟨cvs,e,hcr⟩:=hr.inv_func;have has:=evs_rep hF k2;unfold jQ at hcall;split at hcall
   ·rename_i fn hfn;simp only [Bool.not_eq_true',Bool.or_eq_false_iff] at hcall;have hn1' : ¬ fn.name = "runtime.NumGoroutine" := by simpa using hcall.1
    have hn2' : ¬ fn.body=none:=by intro h; simp [h] at hcall
    refine ⟨as.toList.map a.eval++cvs, ?_,has.append hcr⟩;have hargs:as.map a.eval=(as.toList.map a.eval).toArray:=by simp [←Array.toList_map]
    simp [execOp,ho,resolve,e,Deferred.ofValue,invoke,callFunc,hfn,hn1',hn2',hargs]
   ·cases hcall
  ·cases hc
 ·cases hc
section
variable {P:Program} {N b:Nat} {Q:Exit→Fr→Store→Prop}
def Post (N b:Nat) (Q:Exit→Fr→Store→Prop) (m:Imm) (β:Objs) (w:World) (e:Exit) (a':Act) (w':World):Prop :=
 ∃ σ' S' m' β',Q e σ' S'∧Holds S' m' β' w'∧FrameRep N m' β' σ' a'∧ExtB b m β w m' β' w'
theorem Zu {o:Oper} {co:COp} (hc:Wz P o=some co) (hd : ∀ t,o.dst=some t→t<N) {σ:Fr} {S:Store} {k:V→Store→Prop} (h:vop P σ S co k) {m0:Imm} {β0:Objs} {w0:World} {m:Imm} {β:Objs} {w:World} {a:Act}
  (hS:Holds S m β w) (hF:FrameRep N m β σ a) (he:ExtB b m0 β0 w0 m β w) {next:Act→World→Prop} {Q':Exit→Act→World→Prop}
  (hnext : ∀ x S' m' β' w' a',k x S'→Holds S' m' β' w'→FrameRep N m' β' (σ.put o.dst x) a'→ExtB b m0 β0 w0 m' β' w'→next a' w'):o.wp P a w next Q':=by
 by_cases hs:co.simple=true
 ·have hev : ∃ x S',jg (ev σ) S co=some (x,S')∧k x S':=by
   cases co<;>first | (simp [COp.simple] at hs; done) | (simp only [vop] at h; split at h<;>first | exact ⟨_,_, ‹_›,h⟩ | exact h.elim)
  obtain ⟨x,S',hx,hk⟩:=hev;obtain ⟨v,w',m',β',hr,hx',hS',hE⟩:=op_sound hc hx hS hF;unfold Oper.wp;have hF':=(hF.ext hE).put o.dst hd hx';rcases hr with hr | ⟨hr,hv⟩
  ·rw [hr]; exact hnext _ _ _ _ _ _ hk hS' hF' (he.trans (hE.toB b))
  ·rw [hr]; subst hv; exact hnext _ _ _ _ _ _ hk hS' hF' (he.trans (hE.toB b))
 ·obtain ⟨c,ho,hcc⟩:=compOp_call hc (by simpa using hs);have fin : ∀ (f:FuncId) (args:List V) (vs:List Value),VCalls P f args S k→RepL m β args vs→(execOp a.eval o).run P w = .ok (.enter f vs.toArray) w→o.wp P a w next Q':=by
   intro f args vs h1 h2 h3;unfold Oper.wp;rw [h3];refine (h1 m β w vs hS h2).mono ?_;rintro e w' ⟨v,x,S',m',β',rfl,hk,hx,hS',hE⟩;exact hnext x S' m' β' w' _ hk hS' ((hF.ext hE).put o.dst hd hx) (he.trans (hE.toB b))
  cases co with
  | call f args =>
   obtain ⟨vs,h1,h2⟩:=call_run (w:=w) ho hcc hF;exact fin f _ vs h h2 h1
  | callv fz args =>
   simp only [vop] at h;split at h
   ·rename_i g caps hg;obtain ⟨vs,h1,h2⟩:=callv_run (w:=w) ho hcc hF hg h.1;exact fin g _ vs h.2 h2 h1
   ·exact h.elim
  | _=>simp [COp.simple] at hs
theorem WK {ops:Array Oper} {m0:Imm} {β0:Objs} {w0:World} : ∀ (l:List Oper) (cs:List CO) (σ:Fr) (S:Store) (m:Imm) (β:Objs) (w:World) (a:Act),l.mapM (KW P N ops)=some cs→vseg P cs (Q .normal) σ S →
  Holds S m β w→FrameRep N m β σ a→ExtB b m0 β0 w0 m β w→wpList P ops (Post N b Q m0 β0 w0) l a w
 | [],cs,σ,S,m,β,w,a,hl,h,hS,hF,he=>by
  simp at hl; subst hl;exact ⟨σ,S,m,β,h,hS,hF,he⟩
 | o::l,cs,σ,S,m,β,w,a,hl,h,hS,hF,he=>by
  simp only [List.mapM_cons,Option.bind_eq_bind,Option.bind_eq_some_iff] at hl;obtain ⟨c,hc,cs',hcs',hl⟩:=hl;simp at hl; subst hl;unfold KW at hc;split at hc
  ·rename_i co g h1 h2;split at hc
   ·rename_i hdst
    cases hc
    have hd : ∀ t,o.dst=some t→t<N:=by
     intro t ht; rw [ht] at hdst; simpa using hdst
    simp only [wpList];have run:vop P σ S co (fun v S'=>vseg P cs' (Q .normal) (σ.put o.dst v) S')→o.wp P a w (wpList P ops (Post N b Q m0 β0 w0) l) (Post N b Q m0 β0 w0):=fun hv =>
     Zu h1 hd hv hS hF he fun x S' m' β' w' a' k1 k2 k3 k4=>WK l cs' _ S' m' β' w' a' hcs' k1 k2 k3 k4
    have skip:vseg P cs' (Q .normal) (σ.put o.dst (.tuple [])) S→wpList P ops (Post N b Q m0 β0 w0) l (a.put o.dst undef) w:=fun hv =>
     WK l cs' _ S m β w _ hcs' hv hS (hF.put o.dst hd (zp m β)) he
    cases hg:o.guard with
    | none =>
     rw [hg] at h2;simp [zK] at h2; subst h2;have hw:Region.wanted o (yielded ops a.tmps)=true:=by simp [Region.wanted,hg]
     rw [if_pos hw];simp only [vseg] at h;exact .inl (run h)
    | some jw =>
     obtain ⟨j,want⟩:=jw;rw [hg] at h2;simp only [zK] at h2;split at h2
     ·rename_i t ht
      cases h2
      simp only [vseg] at h;split at h
      ·rename_i b hb;have hy:=Yp hF ht hb;split at h
       ·rename_i hbw;have hw:Region.wanted o (yielded ops a.tmps)=true:=by simp [Region.wanted,hg,hy,hbw]
        rw [if_pos hw]; exact .inl (run h)
       ·rename_i hbw;have hw : ¬ Region.wanted o (yielded ops a.tmps)=true:=by simp [Region.wanted,hg,hy,hbw]
        rw [if_neg hw]; exact skip h
      ·rename_i hb;have hy:=KY hF ht hb;have hw : ¬ Region.wanted o (yielded ops a.tmps)=true:=by simp [Region.wanted,hg,hy]
       rw [if_neg hw]; exact skip h
      ·exact h.elim
     ·cases h2
   ·cases hc
  ·cases hc
theorem vw_region {id:Nat} {ops:Array Oper} {cs:List CO} {σ:Fr} {S:Store} (hc:qf P N ops=some cs) (h:vseg P cs (Q .normal) σ S):VWp P N b (.region id ops false) Q σ S :=
 fun m β w a hS hF=>wp_region_list (WK ops.toList cs σ S m β w a hc h hS hF (ExtB.refl _ _ _ _))
/-! ### Bodies -/
def resT (fn:Func):Option (List Nat):=fn.results.toList.mapM fun | .tmp t=>some t | .cell _ _=>none
def resV (ts:List Nat) (σ:Fr):V :=
 match ts with
 | [t]=>σ.look t
 | ts => .tuple (ts.map σ.look)
def bodyV (ts:List Nat) (R:V→Store→Prop):Exit→Fr→Store→Prop
 | .normal,σ,S=>R (resV ts σ) S
 | .ret,σ,S=>R (resV ts σ) S
 | _,_,_=>False
def JS (k:Nat):List V→Fr
 | []=>[]
 | x::xs=>(k,x)::JS (k+1) xs
theorem KQ : ∀ (xs:List V) (k t:Nat),(JS k xs).look t=if k≤t then (xs[t-k]?).getD .junk else .junk
 | [],k,t=>by simp [JS,Fr.look]
 | x::xs,k,t=>by
  simp only [JS,Fr.look]
  by_cases h:t=k
  ·subst h; simp
  ·rw [if_neg h,KQ xs (k+1) t]
   by_cases h2:k≤t
   ·rw [if_pos h2,if_pos (by omega)];have:t-k=(t-(k+1))+1:=by omega
    rw [this,List.getElem?_cons_succ]
   ·rw [if_neg h2,if_neg (by omega)]
theorem ZC {fn:Func} {ts:List Nat} (h:resT fn=some ts) {N:Nat} {m:Imm} {β:Objs} {σ:Fr} {a:Act} (hF:FrameRep N m β σ a) (w:World) : ∃ v,(results fn a.tmps).run P w = .ok v w∧Rep m β (resV ts σ) v:=by
 have gen : ∀ (g:ResultVar→Sem Value) (g':ResultVar→Option Nat),(∀ t,g (.tmp t)=pure (a.tmps.getD t undef))→(∀ t,g' (.tmp t)=some t)→(∀ p t,g' (.cell p t)=none) → ∀ (l:List ResultVar) (ts:List Nat),l.mapM g'=some ts →
   (l.mapM g).run P w = .ok (ts.map fun t=>a.tmps.getD t undef) w:=by
  intro g g' hg hg1 hg2 l
  induction l with
  | nil=>intro ts h; simp at h; subst h; rfl
  | cons r l ih =>
   intro ts h;simp only [List.mapM_cons,Option.bind_eq_bind,Option.bind_eq_some_iff] at h;obtain ⟨b,hb,r',hr',h⟩:=h;simp at h; subst h
   cases r with
   | cell=>rw [hg2] at hb; cases hb
   | tmp t =>
    rw [hg1] at hb
    cases hb
    rw [List.mapM_cons,Sem.run_bind,hg,Sem.run_pure,Result.andThen_ok,Sem.run_bind,ih r' hr']
    rfl
 have hrun:(results fn a.tmps).run P w = .ok (if h:(ts.map fun t=>a.tmps.getD t undef).toArray.size=1 then (ts.map fun t=>a.tmps.getD t undef).toArray[0] else .tuple (ts.map fun t=>a.tmps.getD t undef).toArray) w:=by
  unfold results;rw [Sem.run_bind,Array.mapM_eq_mapM_toList,Sem.run_map,gen _ _ (fun _=>rfl) (fun _=>rfl) (fun _ _=>rfl) fn.results.toList ts h]
  rfl
 refine ⟨_,hrun, ?_⟩
 match ts with
 | [t]=>simpa [resV] using hF.rep t
 | []=>exact zp m β
 | t::u::ts =>
  rw [dif_neg (by simp)];exact .tuple _ _ (by simp) fun i x v hx hv=>by
   simp only [List.getElem?_map,Option.map_eq_some_iff] at hx hv;obtain ⟨t1,h1,rfl⟩:=hx;obtain ⟨t2,h2,rfl⟩:=hv;rw [h1] at h2; cases h2;exact hF.rep t1
theorem qu {f:FuncId} {fn:Func} {c:Code} {ts:List Nat} {args:List V} {S:Store} {R:V→Store→Prop} (hf:P.funcs[f]? = some fn) (hb:fn.body=some c) (ht:resT fn=some ts) (hn:args.length≤fn.ntmps)
  (h:VWp P fn.ntmps S.nx c (bodyV ts R) (JS 0 args) S):VCalls P f args S R:=by
 intro m β w vs hS hr;refine calls_of_wp hf hb ?_;have hF:FrameRep fn.ntmps m β (JS 0 args) { tmps:=vs.toArray++Array.replicate (fn.ntmps-vs.toArray.size) undef,defers:=[] }:=by
  have hl:=hr.1;refine ⟨by simp; omega,rfl,fun t => ?_⟩;rw [KQ];simp only [Nat.zero_le,if_true,Nat.sub_zero]
  cases hx:args[t]? with
  | none=>exact .junk _
  | some x =>
   have hlt:t<vs.length:=by rw [←hl]; exact (List.getElem?_eq_some_iff.1 hx).1
   have:(vs.toArray++Array.replicate (fn.ntmps-vs.toArray.size) undef).getD t undef=vs[t]:=by
    simp [Array.getD_eq_getD_getElem?,Array.getElem?_append,hlt]
   simp only [this,Option.getD_some];exact hr.2 t x _ hx (List.getElem?_eq_getElem hlt)
 refine wp_mono (h m β w _ hS hF) ?_;rintro e a' w' ⟨σ',S',m',β',q,r1,r2,r3⟩;have back:ExtB S.nx m β w m' β' w'→Ext m β w m' β' w':=fun h=>⟨h.imm,fun o ho=>h.step o (by
  rcases Nat.lt_or_ge o S.nx with hl | hl
  ·exact hl
  ·exact absurd ((hS.fresh o).2 hl) ho) ho,h.size,h.keep,h.os,h.tape,h.output⟩
 cases e with
 | normal =>
  obtain ⟨v,hv,hrv⟩:=ZC (P:=P) ht r2 w';exact ⟨r2.defers,v,hv,v,_,S',m',β',rfl,q,hrv,r1,back r3⟩
 | ret =>
  obtain ⟨v,hv,hrv⟩:=ZC (P:=P) ht r2 w';exact ⟨r2.defers,v,hv,v,_,S',m',β',rfl,q,hrv,r1,back r3⟩
 | _=>exact q.elim
end
end Go.Vw
/-
 Steps that only we see: an object that is never written again becomes a list; a pure call leaves the store as it was.
-/
namespace Go.Vw
open Go.RowKit
def V.closed:V→Bool
 | .agg xs=>xs.all V.closed1
 | x=>x.closed1
theorem Rep.closed1 {m:Imm} {β:Objs} {x:V} {v:Value} (h:Rep m β x v) (hc:x.closed1=true):RepI m x v:=by
 cases h with
 | imm h=>exact h
 | _=>simp [V.closed1] at hc
theorem Rep.closed {m:Imm} {β:Objs} {x:V} {v:Value} (h:Rep m β x v) (hc:x.closed=true):RepI m x v:=by
 cases h with
 | imm h=>exact h
 | agg xs vs hl hr h1=>exact .agg xs vs hl (fun i x v hx hv=>(hr i x v hx hv).closed1 (by
   have : ∀ x∈xs,x.closed1=true:=by simpa [V.closed] using hc
   exact this x (List.mem_of_getElem? hx))) h1
 | _=>simp [V.closed,V.closed1] at hc
def Ghost (x:V) (S:Store) (x':V) (S':Store):Prop :=
 ∀ m β w v,Holds S m β w→Rep m β x v → ∃ m' β',Holds S' m' β' w∧Ext m β w m' β' w∧Rep m' β' x' v
theorem Ghost.refl (x:V) (S:Store):Ghost x S x S:=fun m β w v h r=>⟨m,β,h,Ext.refl _ _ _,r⟩
theorem Ghost.trans {x y z:V} {S S' S'':Store} (h:Ghost x S y S') (k:Ghost y S' z S''):Ghost x S z S'':=by
 intro m β w v hS hr;obtain ⟨m',β',h1,h2,h3⟩:=h m β w v hS hr;obtain ⟨m'',β'',k1,k2,k3⟩:=k m' β' w v h1 h3;exact ⟨m'',β'',k1,h2.trans k2,k3⟩
theorem Ghost.nils (S:Store) (s:Nat):Ghost .nils S (.slice S.nx 0 0) (S.add (s,[])):=by
 intro m β w v hS hr;obtain ⟨a,rfl⟩:=hr.inv_nils;obtain ⟨h1,h2,h3⟩:=hS.addVoid s;exact ⟨m,_,h1,h2, .sliceVoid _ _ _ h3⟩
theorem Ghost.nils_list (S:Store):Ghost .nils S (.list []) S:=by
 intro m β w v hS hr;obtain ⟨a,rfl⟩:=hr.inv_nils;exact ⟨m,β,hS,Ext.refl _ _ _, .imm (.list0 _ _ (Nat.zero_le _))⟩
def Imm.set (m:Imm) (b:Nat) (o:Obj):Imm:=fun b'=>if b'=b then some o else m b'
theorem Holds.freeze {S:Store} {m:Imm} {β:Objs} {w:World} (hS:Holds S m β w) {o b base s n:Nat} {c:Nat × List V} (hc:S.get o=some c) (hob:β o = .lies b base s n) {ob:Obj} (hb:w.heap[b]? = some ob) :
  Holds (S.del o) (m.set b ob) (β.set o .dead) w∧Ext m β w (m.set b ob) (β.set o .dead) w:=by
 have hbl:(β o).block? = some b:=by rw [hob]; rfl
 have hd:=hS.drop o (hS.lt hc);have hmb:=hS.apart o b hbl;have hm : ∀ b' x,m b'=some x→(m.set b ob) b'=some x:=by
  intro b' x hx;simp only [Imm.set];split
  ·rename_i e; subst e; rw [hmb] at hx; cases hx
  ·exact hx
 refine ⟨⟨fun b' x hx => ?_,fun o' b' hb' => ?_,hd.inj,hd.fresh,hd.gone,hd.dead,fun o' c' hc'=>(hd.live o' c' hc').mono hm (Step.refl _) (fun _ _=>rfl)⟩,⟨hm,Step.kill β o,Nat.le_refl _,fun b' hb' h1 h2=>⟨rfl, ?_,fun o' ho' => ?_⟩,rfl,rfl,rfl⟩⟩
 ·simp only [Imm.set] at hx;split at hx
  ·rename_i e; subst e; cases hx; exact hb
  ·exact hd.imm b' x hx
 ·simp only [Imm.set];split
  ·rename_i e;subst e
   exfalso
   by_cases e2:o'=o
   ·subst e2; rw [Objs.set_same] at hb'; cases hb'
   ·rw [Objs.set_other _ _ e2] at hb'; exact e2 (hS.inj _ _ _ hb' hbl)
  ·exact hd.apart o' b' hb'
 ·simp only [Imm.set];rw [if_neg (fun e=>by subst e; exact h2 o hbl)];exact h1
 ·by_cases e2:o'=o
  ·subst e2; rw [Objs.set_same] at ho'; cases ho'
  ·rw [Objs.set_other _ _ e2] at ho'; exact h2 o' ho'
theorem Holds.drop' {S:Store} {m:Imm} {β:Objs} {w:World} (hS:Holds S m β w) {o:Nat} {c} (hc:S.get o=some c):Holds (S.del o) m (β.set o .dead) w∧Ext m β w m (β.set o .dead) w :=
 ⟨hS.drop o (hS.lt hc),(Ext.refl m (β.set o .dead) w).dropNew fun b hb=>hS.apart o b hb⟩
theorem Ghost.freeze {S:Store} {o off len s:Nat} {cells:List V} (hc:S.get o=some (s,cells)) (hcl:cells.all V.closed1=true) (xs:List V) (hl:xs.length=len)
  (hx : ∀ (i:Nat) x,xs[i]? = some x→x.cells.length=s∧x.closed=true ∧ ∀ (j:Nat) c,x.cells[j]? = some c→cells[off+i*s+j]? = some c):Ghost (.slice o off len) S (.list xs) (S.del o):=by
 intro m β w v hS hr;obtain ⟨ad,cap,rfl,hlc,hcm,hcase⟩:=hr.inv_slice (hS.alive hc);have triv:len=0 → ∃ m' β',Holds (S.del o) m' β' w∧Ext m β w m' β' w∧Rep m' β' (.list xs) (.slice ad len cap):=by
  intro h0;obtain ⟨h1,h2⟩:=hS.drop' hc;have:xs=[]:=List.eq_nil_of_length_eq_zero (by omega);subst this; subst h0;exact ⟨_,_,h1,h2, .imm (.list0 _ _ hcm)⟩
 rcases hcase with ⟨hv,h1,h2⟩ | ⟨b,base,s',n,hob,hcase⟩
 ·exact triv h1
 ·rcases hcase with hcap | ⟨had,hroom⟩
  ·exact triv (by omega)
  ·subst had;obtain ⟨hs',arr,T,h1,h2,h3,h4⟩:=hS.cells_at hc hob;simp only at hs' h3 h4;subst hs';obtain ⟨k1,k2⟩:=hS.freeze hc hob h1;refine ⟨_,_,k1,k2, ?_⟩
   -- the elements' values
   let val:Nat→V→Value:=fun i x=>match x with
    | .agg _ => .agg ((List.range s).map fun j=>arr.getD (base+off+i*s+j) undef).toArray
    | _=>arr.getD (base+off+i*s) undef
   have cell : ∀ (i:Nat) x (j:Nat) c,xs[i]? = some x→x.cells[j]? = some c → ∃ u,arr[base+off+i*s+j]? = some u∧RepI m c u∧u.oneCell'=true:=by
    intro i x j c hi hj;obtain ⟨e1,e2,e3⟩:=hx i x hi;have hcj:=e3 j c hj;obtain ⟨u,f1,f2,f3⟩:=h4 _ c hcj;refine ⟨u,by rw [←f1]; congr 1; omega,f2.closed1 ?_,f3⟩;have hall : ∀ x∈cells,x.closed1=true:=by simpa using hcl
    exact hall c (List.mem_of_getElem? hcj)
   have hval : ∀ (i:Nat) x,xs[i]? = some x→(val i x).cells.size=s∧RepI m x (val i x) ∧ ∀ (j:Nat) c,(val i x).cells[j]? = some c→arr[base+off+i*s+j]? = some c:=by
    intro i x hi;obtain ⟨e1,e2,e3⟩:=hx i x hi
    by_cases hag : ∃ cs,x = .agg cs
    ·obtain ⟨cs,rfl⟩:=hag;have e1':cs.length=s:=e1;refine ⟨by simp [val,Value.cells], ?_,fun j c hj => ?_⟩
     ·refine .agg cs _ (by simp [e1']) (fun j c u hj hu => ?_) (fun u hu => ?_)
      ·simp only [List.getElem?_map,Option.map_eq_some_iff] at hu;obtain ⟨j',hj',rfl⟩:=hu;obtain ⟨hlt,e⟩:=List.getElem?_eq_some_iff.1 hj';simp at e; subst e;obtain ⟨u,f1,f2,_⟩:=cell i _ j c hi hj;simpa [Array.getD_eq_getD_getElem?,f1] using f2
      ·simp only [List.mem_map,List.mem_range] at hu;obtain ⟨j,hj,rfl⟩:=hu;obtain ⟨u,f1,_,f3⟩:=cell i (.agg cs) j cs[j] hi (List.getElem?_eq_getElem (by omega));simpa [Array.getD_eq_getD_getElem?,f1] using f3
     ·simp only [val,Value.cells,List.getElem?_toArray,List.getElem?_map,Option.map_eq_some_iff] at hj;obtain ⟨j',hj',rfl⟩:=hj;obtain ⟨hlt,e⟩:=List.getElem?_eq_some_iff.1 hj';simp at e hlt; subst e;obtain ⟨u,f1,_,_⟩:=cell i (.agg cs) j cs[j] hi (List.getElem?_eq_getElem (by omega));simp [Array.getD_eq_getD_getElem?,f1]
    ·have ec:x.cells=[x]:=by cases x<;>first | rfl | exact absurd ⟨_,rfl⟩ hag
     have ev':val i x=arr.getD (base+off+i*s) undef:=by cases x<;>first | rfl | exact absurd ⟨_,rfl⟩ hag
     obtain ⟨u,f1,f2,f3⟩:=cell i x 0 x hi (by rw [ec]; rfl);simp only [Nat.add_zero] at f1;have eu:val i x=u:=by rw [ev']; simp [Array.getD_eq_getD_getElem?,f1]
     have euc:u.cells = #[u]:=by cases u<;>first | rfl | simp [Value.oneCell'] at f3
     rw [eu];refine ⟨by rw [euc, ←e1,ec]; rfl,f2,fun j c hj => ?_⟩;rw [euc] at hj
     cases j with
     | zero=>simp at hj; subst hj; simpa using f1
     | succ j=>simp at hj
   have himm : ∀ b' x,m b'=some x→(m.set b (.cells arr T (0,0))) b'=some x:=k2.imm
   have:=RepI.list (m:=m.set b (.cells arr T (0,0))) xs (xs.mapIdx val) b (base+off) cap s arr T (0,0) (by simp [Imm.set]) (by simp) (by omega) hcm
    (fun v hv=>by
     obtain ⟨i,hi,rfl⟩:=List.getElem_of_mem hv;simp only [List.getElem_mapIdx];exact (hval i _ (List.getElem?_eq_getElem (by simpa using hi))).1)
    (fun i x v hi hv=>by
     rw [List.getElem?_mapIdx,hi] at hv;simp at hv; subst hv;exact (hval i x hi).2.1.mono himm)
    (fun i v j c hv hj=>by
     rw [List.getElem?_mapIdx] at hv;obtain ⟨x,hx1,rfl⟩:=Option.map_eq_some_iff.1 hv;exact (hval i x hx1).2.2 j c hj)
   rw [hl] at this;exact .imm this
theorem Ghost.freeze1 {S:Store} {o len:Nat} {cells:List V} (hc:S.get o=some (1,cells)) (hcl:cells.all V.closed1=true) (hl:cells.length=len):Ghost (.slice o 0 len) S (.list cells) (S.del o):=by
 refine Ghost.freeze hc hcl cells hl fun i x hx => ?_
 have h1:x.closed1=true:=by
  have hall : ∀ x∈cells,x.closed1=true:=by simpa using hcl
  exact hall x (List.mem_of_getElem? hx)
 have ec:x.cells=[x]:=by cases x<;>first | rfl | simp [V.closed1] at h1
 refine ⟨by rw [ec]; rfl,by cases x<;>first | exact h1 | simp [V.closed1] at h1,fun j c hj => ?_⟩;rw [ec] at hj
 cases j with
 | zero=>simp at hj; subst hj; simpa using hx
 | succ j=>simp at hj
section
variable {P:Program} {N b:Nat} {Q:Exit→Fr→Store→Prop} {σ:Fr} {S:Store}
theorem vw_ghost {c:Code} (t:Nat) {x x':V} {S':Store} (hx:σ.look t=x) (hg:Ghost x S x' S') (h:VWp P N b c Q (σ.set t x') S'):VWp P N b c Q σ S:=by
 intro m β w a hS hF;have hr:=hF.rep t;rw [hx] at hr;obtain ⟨m',β',h1,h2,h3⟩:=hg m β w _ hS hr;have hF':FrameRep N m' β' (σ.set t x') a:=by
  refine ⟨hF.size,hF.defers,fun u => ?_⟩;rw [Fr.look_set];split
  ·rename_i e; subst e; exact h3
  ·exact (hF.ext h2).rep u
 exact jbC h h1 hF' (h2.toB b)
theorem vcalls_ghost {f:FuncId} {args:List V} {R:V→Store→Prop} (h:VCalls P f args S fun r S1 => ∃ x' S',Ghost r S1 x' S'∧R x' S'):VCalls P f args S R:=by
 intro m β w vs hS hr;refine (h m β w vs hS hr).mono ?_;rintro e w' ⟨v,x,S1,m1,β1,he,⟨x',S',hg,hR⟩,h1,h2,h3⟩;obtain ⟨m2,β2,g1,g2,g3⟩:=hg m1 β1 w' v h2 h1;exact ⟨v,x',S',m2,β2,he,hR,g3,g1,h3.trans g2⟩
end
end Go.Vw
