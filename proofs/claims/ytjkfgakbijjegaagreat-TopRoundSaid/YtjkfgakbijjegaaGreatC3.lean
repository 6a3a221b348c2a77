import Derived.Test.YtjkfgakbijjegaaGreatC2
/- Part of the proof. -/
set_option linter.unusedVariables false
set_option linter.unusedSimpArgs false
namespace Go.Vw
open Go.RowKit
def VWp (P:Program) (N b:Nat) (c:Code) (Q:Exit->Fr->Store->Prop) (σ:Fr) (S:Store):Prop :=
  ∀ m β w a,Holds S m β w->FrameRep N m β σ a->c.wp P (fun e a' w' => ∃ σ' S' m' β',Q e σ' S'/\Holds S' m' β' w'/\FrameRep N m' β' σ' a'/\ExtB b m β w m' β' w') a w
def jaa (K:Fr->Store->Prop) (Q:Exit->Fr->Store->Prop):Exit->Fr->Store->Prop
  | .normal=>K
  | e=>Q e
def YB (id:Nat) (Q:Exit->Fr->Store->Prop):Exit->Fr->Store->Prop
  | .exit id'=>if id'=id then Q .normal else Q (.exit id')
  | e=>Q e
section
variable {P:Program} {N b:Nat} {Q:Exit->Fr->Store->Prop} {σ:Fr} {S:Store}
theorem atv (h:Q .normal σ S):VWp P N b .skip Q σ S:=fun m β w a hS hF=>wp_skip ⟨σ,S,m,β,h,hS,hF,ExtB.refl _ _ _ _⟩
theorem aug {id:Nat} (h:Q (.exit id) σ S):VWp P N b (.exit id) Q σ S:=fun m β w a hS hF=>wp_exit ⟨σ,S,m,β,h,hS,hF,ExtB.refl _ _ _ _⟩
theorem avj (h:Q .ret σ S):VWp P N b .ret Q σ S:=fun m β w a hS hF=>wp_ret ⟨σ,S,m,β,h,hS,hF,ExtB.refl _ _ _ _⟩
theorem jfk {c:Code} {m m':Imm} {β β':Objs} {w w':World} {a:Act} (h:VWp P N b c Q σ S) (hS:Holds S m' β' w') (hF:FrameRep N m' β' σ a) (he:ExtB b m β w m' β' w') :
    c.wp P (fun e a' w'' => ∃ σ' S' m'' β'',Q e σ' S'/\Holds S' m'' β'' w''/\FrameRep N m'' β'' σ' a'/\ExtB b m β w m'' β'' w'') a w' :=
  wp_mono (h m' β' w' a hS hF) fun e a' w'' ⟨σ',S',m'',β'',q,r1,r2,r3⟩=>⟨σ',S',m'',β'',q,r1,r2,he.trans r3⟩
theorem au8 {x y:Code} (h:VWp P N b x (jaa (VWp P N b y Q) Q) σ S):VWp P N b (.seq x y) Q σ S:=by
  intro m β w a hS hF;refine wp_seq (wp_mono (h m β w a hS hF) ?_);rintro e a' w' ⟨σ',S',m',β',q,r1,r2,r3⟩;cases e with
  | normal=>exact jfk q r1 r2 r3
  | exit id=>exact ⟨σ',S',m',β',q,r1,r2,r3⟩
  | goto l=>exact ⟨σ',S',m',β',q,r1,r2,r3⟩
  | ret=>exact ⟨σ',S',m',β',q,r1,r2,r3⟩
  | panic ch=>exact ⟨σ',S',m',β',q,r1,r2,r3⟩
  | outgrown=>exact ⟨σ',S',m',β',q,r1,r2,r3⟩
theorem ap7 {id:Nat} {c:Code} (h:VWp P N b c (YB id Q) σ S):VWp P N b (.block id c) Q σ S:=by
  intro m β w a hS hF;refine wp_block (wp_mono (h m β w a hS hF) ?_);rintro e a' w' ⟨σ',S',m',β',q,r1,r2,r3⟩;cases e with
  | normal=>exact ⟨σ',S',m',β',q,r1,r2,r3⟩
  | exit id' =>
    simp only [Exit.inBlock,YB] at q ⊢;split
    .rename_i e; rw [if_pos e] at q; exact ⟨σ',S',m',β',q,r1,r2,r3⟩
    .rename_i e; rw [if_neg e] at q; exact ⟨σ',S',m',β',q,r1,r2,r3⟩
  | goto l=>exact ⟨σ',S',m',β',q,r1,r2,r3⟩
  | ret=>exact ⟨σ',S',m',β',q,r1,r2,r3⟩
  | panic ch=>exact ⟨σ',S',m',β',q,r1,r2,r3⟩
  | outgrown=>exact ⟨σ',S',m',β',q,r1,r2,r3⟩
theorem auv {c:Operand} {x y:Code} {z:Arg} {t:Bool} (hz:jC c=some z) (ht:ev σ z = .bool t) (hx:t=true->VWp P N b x Q σ S) (hy:t=false->VWp P N b y Q σ S):VWp P N b (.cond c x y) Q σ S:=by
  intro m β w a hS hF;have hc:a.eval c = .bool t:=by
    have:=jM hF hz;rw [ht] at this;exact this.inv_bool
  exact wp_cond_split hc (fun h=>hx h m β w a hS hF) (fun h=>hy h m β w a hS hF)
def Reach (N b:Nat) (σ:Fr) (S:Store) (σ':Fr) (S':Store):Prop :=
  ∀ m β w a,Holds S m β w->FrameRep N m β σ a -> ∃ m' β',Holds S' m' β' w/\FrameRep N m' β' σ' a/\ExtB b m β w m' β' w
theorem Reach.refl (σ:Fr) (S:Store):Reach N b σ S σ S:=fun m β w a h r=>⟨m,β,h,r,ExtB.refl _ _ _ _⟩
theorem Reach.trans {σ' σ'':Fr} {S' S'':Store} (h:Reach N b σ S σ' S') (k:Reach N b σ' S' σ'' S''):Reach N b σ S σ'' S'':=by
  intro m β w a hS hr;obtain ⟨m',β',h1,h2,h3⟩:=h m β w a hS hr;obtain ⟨m'',β'',k1,k2,k3⟩:=k m' β' w a h1 h2;exact ⟨m'',β'',k1,k2,h3.trans k3⟩
theorem Reach.oy (ks:List Nat):Reach N b σ S (σ.oy ks) S:=fun m β w a h r=>⟨m,β,h,r.oy ks,ExtB.refl _ _ _ _⟩
theorem Jf {σ':Fr} {S':Store} {c:Code} (hr:Reach N b σ S σ' S') (h:VWp P N b c Q σ' S'):VWp P N b c Q σ S:=by
  intro m β w a hS hF;obtain ⟨m',β',h1,h2,h3⟩:=hr m β w a hS hF;exact jfk h h1 h2 h3
theorem au1 (ks:List Nat) {c:Code} (h:VWp P N b c Q (σ.oy ks) S):VWp P N b c Q σ S:=fun m β w a hS hF=>h m β w a hS (hF.oy ks)
theorem least {p:Nat->Prop} (h : ∃ n,p n) : ∃ n,p n /\ ∀ k,p k->n<=k:=by
  obtain ⟨n,hn⟩:=h
  induction n using Nat.strongRecOn with
  | _ n ih =>
    by_cases hx : ∃ k,k<n/\p k
    .obtain ⟨k,hk,hp⟩:=hx; exact ih k hk hp
    .exact ⟨n,hn,fun k hk=>by
       rcases bc k n with h' | h'
       .exact absurd ⟨k,h',hk⟩ hx
       .exact h'⟩
theorem ZW {c:Code} {Q:Exit->Act->World->Prop} {a:Act} {w:World} (R:Nat->Act->World->Prop) (n0:Nat) (h0:R n0 a w)
    (round : ∀ n a w,R n a w->c.wp P (Exit.then (fun a' w' => ∃ n',n'<n/\R n' a' w') Q) a w):(Code.loop c).wp P Q a w:=by
  classical
  let μ:Act->World->Nat:=fun a w=>if h : ∃ n,R n a w then Classical.choose (least h) else 0
  have hμ : ∀ a w,(∃ n,R n a w)->R (μ a w) a w /\ ∀ k,R k a w->μ a w<=k:=by
    intro a w h;have e:μ a w=Classical.choose (least h):=by simp only [μ]; rw [dif_pos h]
    rw [e];exact Classical.choose_spec (least h)
  refine wp_loop (fun a w => ∃ n,R n a w) μ ⟨n0,h0⟩ fun a w hI => ?_;obtain ⟨hR,_⟩:=hμ a w hI;refine wp_mono (round (μ a w) a w hR) ?_;intro e a' w' q;cases e with
  | normal =>
    obtain ⟨n',hlt,hn'⟩:=q;exact ⟨⟨n',hn'⟩,Nat.lt_of_le_of_lt ((hμ a' w' ⟨n',hn'⟩).2 n' hn') hlt⟩
  | exit id=>exact q
  | goto l=>exact q
  | ret=>exact q
  | panic ch=>exact q
  | outgrown=>exact q
theorem as0 (ks:List Nat) {c:Code} (I:Nat->Fr->Store->Prop) (n0:Nat) (h0:I n0 (σ.oy ks) S)
    (round : ∀ n σ S,I n σ S->VWp P N b c (jaa (fun σ' S' => ∃ n',n'<n /\ ∃ σc Sc,Reach N b (σ'.oy ks) S' σc Sc/\I n' σc Sc) Q) σ S):VWp P N b (.loop c) Q σ S:=by
  intro m β w a hS hF;refine ZW (fun n a' w' => ∃ σ' S' m' β',I n σ' S'/\Holds S' m' β' w'/\FrameRep N m' β' σ' a'/\ExtB b m β w m' β' w') n0 ⟨_,S,m,β,h0,hS,hF.oy ks,ExtB.refl _ _ _ _⟩ ?_;rintro n a' w' ⟨σ',S',m',β',hI,r1,r2,r3⟩;refine wp_mono (jfk (round n σ' S' hI) r1 r2 r3) ?_;rintro e a'' w'' ⟨σ'',S'',m'',β'',q,s1,s2,s3⟩;cases e with
  | normal =>
    obtain ⟨n',hlt,σc,Sc,hr,hI'⟩:=q;obtain ⟨m3,β3,t1,t2,t3⟩:=hr m'' β'' w'' _ s1 (s2.oy ks);exact ⟨n',hlt,σc,Sc,m3,β3,hI',t1,t2,s3.trans t3⟩
  | exit id=>exact ⟨σ'',S'',m'',β'',q,s1,s2,s3⟩
  | goto l=>exact ⟨σ'',S'',m'',β'',q,s1,s2,s3⟩
  | ret=>exact ⟨σ'',S'',m'',β'',q,s1,s2,s3⟩
  | panic ch=>exact ⟨σ'',S'',m'',β'',q,s1,s2,s3⟩
  | outgrown=>exact ⟨σ'',S'',m'',β'',q,s1,s2,s3⟩
end
structure CO where
  dst:Option Nat
  guard:Option (Nat × Bool)
  op:COp
deriving Inhabited
def zb (ops:Array Oper):Option (Nat × Bool)->Option (Option (Nat × Bool))
  | none=>some none
  | some (j,want)=>match (ops[j]?).bind (·.dst) with
    | some t=>some (some (t,want))
    | none=>none
def za (P:Program) (N:Nat) (ops:Array Oper) (o:Oper):Option CO :=
  match Wt P o,zb ops o.guard with
  | some c,some g=>if o.dst.all (· < N) then some ⟨o.dst,g,c⟩ else none
  | _,_=>none
def qj (P:Program) (N:Nat) (ops:Array Oper):Option (List CO):=ops.toList.mapM (za P N ops)
def jE (P:Program) (f:FuncId):Bool :=
  match P.funcs[f]? with
  | some fn => !(fn.name == "runtime.NumGoroutine" || fn.body.isNone)
  | none=>false
def vop (P:Program) (σ:Fr) (S:Store) (op:COp) (k:V->Store->Prop):Prop :=
  match op with
  | .call f args=>VCalls P f (args.map (ev σ)) S k
  | .callv f args=>match ev σ f with
    | .func g caps=>jE P g=true/\VCalls P g (args.map (ev σ)++caps) S k
    | _=>False
  | op=>match jg (ev σ) S op with
    | some (v,S')=>k v S'
    | none=>False
def vseg (P:Program):List CO->(Fr->Store->Prop)->Fr->Store->Prop
  | [],K,σ,S=>K σ S
  | o::r,K,σ,S=>match o.guard with
    | none=>vop P σ S o.op fun v S'=>vseg P r K (σ.put o.dst v) S'
    | some (t,want)=>match σ.lk t with
      | .bool b=>if b=want then vop P σ S o.op fun v S'=>vseg P r K (σ.put o.dst v) S' else vseg P r K (σ.put o.dst (.tuple [])) S
      | .tuple []=>vseg P r K (σ.put o.dst (.tuple [])) S
      | _=>False
theorem Wv {N:Nat} {m:Imm} {β:Objs} {σ:Fr} {a:Act} (hF:FrameRep N m β σ a) {ops:Array Oper} {j t:Nat} (h:(ops[j]?).bind (·.dst)=some t) {b:Bool} (hb:σ.lk t = .bool b) :
    yielded ops a.tmps j=some b:=by
  have hr:=hF.rep t;rw [hb] at hr;have e:=hr.inv_bool;have:a.tmps[t]? = some (.bool b):=by
    rw [aO] at e;cases hx:a.tmps[t]? with
    | none=>rw [hx] at e; simp [undef] at e
    | some v=>rw [hx] at e; simpa using e
  simp [yielded,h,this]
theorem KG {N:Nat} {m:Imm} {β:Objs} {σ:Fr} {a:Act} (hF:FrameRep N m β σ a) {ops:Array Oper} {j t:Nat} (h:(ops[j]?).bind (·.dst)=some t) (hb:σ.lk t = .tuple []) :
    yielded ops a.tmps j=none:=by
  have hr:=hF.rep t;rw [hb] at hr;obtain ⟨vs,e,hl,_⟩:=hr.inv_tuple;have hv:vs=[]:=by cases vs<;>simp at hl ⊢
  subst hv;simp only [yielded,h,Option.bind_some];rw [aO] at e;cases hx:a.tmps[t]? with
  | none=>rfl
  | some v=>rw [hx] at e; simp at e; subst e; rfl
theorem aeu {P:Program} {N:Nat} {m:Imm} {β:Objs} {w:World} {a:Act} {σ:Fr} {o:Oper} {c:Call} {f:FuncId} {args:List Arg} (ho:o.op = .call c) (hc:zu P c=some (.call f args)) (hF:FrameRep N m β σ a) :
    ∃ vs:List Value,(execOp a.eval o).run P w = .ok (.enter f vs.toArray) w/\RepL m β (args.map (ev σ)) vs:=by
  obtain ⟨callee,aZZ,argTypes⟩:=c;unfold zu at hc;split at hc
  .split at hc<;>(try cases hc)<;>(obtain ⟨z,hz,h⟩:=aq.1 hc; cases h)
  .split at hc
   .split at hc
    .split at hc
     .split at hc<;>cases hc
     .cases hc
    .cases hc
   .cases hc
  .split at hc
   .split at hc<;>cases hc
   .cases hc
  .rename_i f' h1;subst h1;split at hc
   .rename_i fn hfn;split at hc
    .cases hc
    .rename_i hn;obtain ⟨zs,hz,h⟩:=aq.1 hc;cases h;refine ⟨aZZ.toList.map a.eval, ?_,jbJ hF hz⟩;simp only [aX,not_or,Bool.not_eq_true] at hn;obtain ⟨hn1,hn2⟩:=hn;have hargs:aZZ.map a.eval=(aZZ.toList.map a.eval).toArray:=by simp [<-Array.toList_map]
     have hn1' : ¬ fn.name = "runtime.NumGoroutine" := by simpa using hn1
     have hn2' : ¬ fn.body=none:=by intro h; simp [h] at hn2
     simp [execOp,ho,resolve,Act.eval,Deferred.ofValue,invoke,callFunc,hfn,hn1',hn2',hargs]
   .cases hc
  .split at hc
   .cases hc
   .cases hc
  .cases hc
theorem ac0 {P:Program} {o:Oper} {co:COp} (h:jan P o=some co) (hs:co.simple=false) : ∃ c,o.op = .call c/\zu P c=some co:=by
  unfold jan at h;split at h <;>
    first
    | exact ⟨_, ‹_›,h⟩
    | (exfalso; revert hs; (repeat' (first | (split at h))); all_goals first
         | (cases h; done)
         | (cases h; simp [COp.simple]; done)
         | (obtain ⟨z,hz,hh⟩:=aq.1 h; cases hh; simp [COp.simple]; done))
theorem jek {P:Program} {o:Oper} {co:COp} (h:Zl P o=some co):co.simple=true:=by
  unfold Zl at h
  repeat' (first | (split at h))
  all_goals first
    | (cases h; done)
    | (cases h; simp [COp.simple]; done)
    | (obtain ⟨z,hz,hh⟩:=aq.1 h; cases hh; simp [COp.simple]; done)
theorem jam {P:Program} {o:Oper} {co:COp} (h:Wt P o=some co) (hs:co.simple=false) : ∃ c,o.op = .call c/\zu P c=some co:=by
  unfold Wt at h;split at h
  .rename_i c hi;cases h;unfold jdB at hi
   repeat' (first | (split at hi))
   all_goals (cases hi)
   all_goals (simp [COp.simple] at hs)
  .split at h
   .rename_i c h1;cases h;exact ac0 h1 hs
   .rw [jek h] at hs; cases hs
theorem abd {P:Program} {N:Nat} {m:Imm} {β:Objs} {w:World} {a:Act} {σ:Fr} {o:Oper} {c:Call} {fz:Arg} {args:List Arg} {g:FuncId} {caps:List V} (ho:o.op = .call c) (hc:zu P c=some (.callv fz args)) (hF:FrameRep N m β σ a)
  (hg:ev σ fz = .func g caps) (hcall:jE P g=true) :
  ∃ vs:List Value,(execOp a.eval o).run P w = .ok (.enter g vs.toArray) w/\RepL m β (args.map (ev σ)++caps) vs:=by
 obtain ⟨callee,aZZ,argTypes⟩:=c;unfold zu at hc;split at hc
 .split at hc<;>(try cases hc)<;>(obtain ⟨z,hz,h⟩:=aq.1 hc; cases h)
 .split at hc
  .split at hc
   .split at hc
    .split at hc<;>cases hc
    .cases hc
   .cases hc
  .cases hc
 .split at hc
  .split at hc<;>cases hc
  .cases hc
 .split at hc
  .split at hc
   .cases hc
   .obtain ⟨zs,hz,h⟩:=aq.1 hc;cases h
  .cases hc
 .rename_i fv hnf h1;simp only at h1;subst h1;split at hc
  .rename_i fz' args' k1 k2;cases hc;have hr:=jM hF k1;rw [hg] at hr;obtain ⟨cvs,e,hcr⟩:=hr.inv_func;have has:=jbJ hF k2;unfold jE at hcall;split at hcall
   .rename_i fn hfn;simp only [Bool.not_eq_true',Bool.or_eq_false_iff] at hcall;have hn1' : ¬ fn.name = "runtime.NumGoroutine" := by simpa using hcall.1
    have hn2' : ¬ fn.body=none:=by intro h; simp [h] at hcall
    refine ⟨aZZ.toList.map a.eval++cvs, ?_,has.append hcr⟩;have hargs:aZZ.map a.eval=(aZZ.toList.map a.eval).toArray:=by simp [<-Array.toList_map]
    simp [execOp,ho,resolve,e,Deferred.ofValue,invoke,callFunc,hfn,hn1',hn2',hargs]
   .cases hcall
  .cases hc
 .cases hc
section
variable {P:Program} {N b:Nat} {Q:Exit->Fr->Store->Prop}
def Post (N b:Nat) (Q:Exit->Fr->Store->Prop) (m:Imm) (β:Objs) (w:World) (e:Exit) (a':Act) (w':World):Prop :=
 ∃ σ' S' m' β',Q e σ' S'/\Holds S' m' β' w'/\FrameRep N m' β' σ' a'/\ExtB b m β w m' β' w'
theorem Wc {o:Oper} {co:COp} (hc:Wt P o=some co) (hd : ∀ t,o.dst=some t->t<N) {σ:Fr} {S:Store} {k:V->Store->Prop} (h:vop P σ S co k) {m0:Imm} {β0:Objs} {w0:World} {m:Imm} {β:Objs} {w:World} {a:Act}
  (hS:Holds S m β w) (hF:FrameRep N m β σ a) (he:ExtB b m0 β0 w0 m β w) {next:Act->World->Prop} {Q':Exit->Act->World->Prop}
  (hnext : ∀ x S' m' β' w' a',k x S'->Holds S' m' β' w'->FrameRep N m' β' (σ.put o.dst x) a'->ExtB b m0 β0 w0 m' β' w'->next a' w'):o.wp P a w next Q':=by
 by_cases hs:co.simple=true
 .have hev : ∃ x S',jg (ev σ) S co=some (x,S')/\k x S':=by
   cases co<;>first | (simp [COp.simple] at hs; done) | (simp only [vop] at h; split at h<;>first | exact ⟨_,_, ‹_›,h⟩ | exact h.elim)
  obtain ⟨x,S',hx,hk⟩:=hev;obtain ⟨v,w',m',β',hr,hx',hS',hE⟩:=afe hc hx hS hF;unfold Oper.wp;have hF':=(hF.ext hE).put o.dst hd hx';rcases hr with hr | ⟨hr,hv⟩
  .rw [hr]; exact hnext _ _ _ _ _ _ hk hS' hF' (he.trans (hE.toB b))
  .rw [hr]; subst hv; exact hnext _ _ _ _ _ _ hk hS' hF' (he.trans (hE.toB b))
 .obtain ⟨c,ho,hcc⟩:=jam hc (by simpa using hs);have fin : ∀ (f:FuncId) (args:List V) (vs:List Value),VCalls P f args S k->RepL m β args vs->(execOp a.eval o).run P w = .ok (.enter f vs.toArray) w->o.wp P a w next Q':=by
   intro f args vs h1 h2 h3;unfold Oper.wp;rw [h3];refine (h1 m β w vs hS h2).mono ?_;rintro e w' ⟨v,x,S',m',β',rfl,hk,hx,hS',hE⟩;exact hnext x S' m' β' w' _ hk hS' ((hF.ext hE).put o.dst hd hx) (he.trans (hE.toB b))
  cases co with
  | call f args =>
   obtain ⟨vs,h1,h2⟩:=aeu (w:=w) ho hcc hF;exact fin f _ vs h h2 h1
  | callv fz args =>
   simp only [vop] at h;split at h
   .rename_i g caps hg;obtain ⟨vs,h1,h2⟩:=abd (w:=w) ho hcc hF hg h.1;exact fin g _ vs h.2 h2 h1
   .exact h.elim
  | _=>simp [COp.simple] at hs
theorem jbk {ops:Array Oper} {m0:Imm} {β0:Objs} {w0:World} : ∀ (l:List Oper) (cs:List CO) (σ:Fr) (S:Store) (m:Imm) (β:Objs) (w:World) (a:Act),l.mapM (za P N ops)=some cs->vseg P cs (Q .normal) σ S ->
  Holds S m β w->FrameRep N m β σ a->ExtB b m0 β0 w0 m β w->wpList P ops (Post N b Q m0 β0 w0) l a w
 | [],cs,σ,S,m,β,w,a,hl,h,hS,hF,he=>by
  simp at hl; subst hl;exact ⟨σ,S,m,β,h,hS,hF,he⟩
 | o::l,cs,σ,S,m,β,w,a,hl,h,hS,hF,he=>by
  simp only [List.mapM_cons,Option.bind_eq_bind,aG] at hl;obtain ⟨c,hc,cs',hcs',hl⟩:=hl;simp at hl; subst hl;unfold za at hc;split at hc
  .rename_i co g h1 h2;split at hc
   .rename_i hdst;cases hc;have hd : ∀ t,o.dst=some t->t<N:=by
     intro t ht; rw [ht] at hdst; simpa using hdst
    simp only [wpList];have run:vop P σ S co (fun v S'=>vseg P cs' (Q .normal) (σ.put o.dst v) S')->o.wp P a w (wpList P ops (Post N b Q m0 β0 w0) l) (Post N b Q m0 β0 w0):=fun hv =>
     Wc h1 hd hv hS hF he fun x S' m' β' w' a' k1 k2 k3 k4=>jbk l cs' _ S' m' β' w' a' hcs' k1 k2 k3 k4
    have skip:vseg P cs' (Q .normal) (σ.put o.dst (.tuple [])) S->wpList P ops (Post N b Q m0 β0 w0) l (a.put o.dst undef) w:=fun hv =>
     jbk l cs' _ S m β w _ hcs' hv hS (hF.put o.dst hd (zR m β)) he
    cases hg:o.guard with
    | none =>
     rw [hg] at h2;simp [zb] at h2; subst h2;have hw:Region.wanted o (yielded ops a.tmps)=true:=by simp [Region.wanted,hg]
     rw [if_pos hw];simp only [vseg] at h;exact .inl (run h)
    | some jw =>
     obtain ⟨j,want⟩:=jw;rw [hg] at h2;simp only [zb] at h2;split at h2
     .rename_i t ht;cases h2;simp only [vseg] at h;split at h
      .rename_i b hb;have hy:=Wv hF ht hb;split at h
       .rename_i hbw;have hw:Region.wanted o (yielded ops a.tmps)=true:=by simp [Region.wanted,hg,hy,hbw]
        rw [if_pos hw]; exact .inl (run h)
       .rename_i hbw;have hw : ¬ Region.wanted o (yielded ops a.tmps)=true:=by simp [Region.wanted,hg,hy,hbw]
        rw [if_neg hw]; exact skip h
      .rename_i hb;have hy:=KG hF ht hb;have hw : ¬ Region.wanted o (yielded ops a.tmps)=true:=by simp [Region.wanted,hg,hy]
       rw [if_neg hw]; exact skip h
      .exact h.elim
     .cases h2
   .cases hc
  .cases hc
theorem alb {id:Nat} {ops:Array Oper} {cs:List CO} {σ:Fr} {S:Store} (hc:qj P N ops=some cs) (h:vseg P cs (Q .normal) σ S):VWp P N b (.region id ops false) Q σ S :=
 fun m β w a hS hF=>wp_region_list (jbk ops.toList cs σ S m β w a hc h hS hF (ExtB.refl _ _ _ _))
def resT (fn:Func):Option (List Nat):=fn.results.toList.mapM fun | .tmp t=>some t | .cell _ _=>none
def resV (ts:List Nat) (σ:Fr):V :=
 match ts with
 | [t]=>σ.lk t
 | ts => .tuple (ts.map σ.lk)
def bodyV (ts:List Nat) (R:V->Store->Prop):Exit->Fr->Store->Prop
 | .normal,σ,S=>R (resV ts σ) S
 | .ret,σ,S=>R (resV ts σ) S
 | _,_,_=>False
def zC (k:Nat):List V->Fr
 | []=>[]
 | x::xs=>(k,x)::zC (k+1) xs
theorem zP : ∀ (xs:List V) (k t:Nat),(zC k xs).lk t=if k<=t then (xs[t-k]?).getD .junk else .junk
 | [],k,t=>by simp [zC,Fr.lk]
 | x::xs,k,t=>by
  simp only [zC,Fr.lk];by_cases h:t=k
  .subst h; simp
  .rw [if_neg h,zP xs (k+1) t];by_cases h2:k<=t
   .rw [if_pos h2,if_pos (by omega)];have:t-k=(t-(k+1))+1:=by omega
    rw [this,List.getElem?_cons_succ]
   .rw [if_neg h2,if_neg (by omega)]
theorem zY {fn:Func} {ts:List Nat} (h:resT fn=some ts) {N:Nat} {m:Imm} {β:Objs} {σ:Fr} {a:Act} (hF:FrameRep N m β σ a) (w:World) : ∃ v,(results fn a.tmps).run P w = .ok v w/\Rep m β (resV ts σ) v:=by
 have gen : ∀ (g:ResultVar->Sem Value) (g':ResultVar->Option Nat),(∀ t,g (.tmp t)=pure (a.tmps.getD t undef))->(∀ t,g' (.tmp t)=some t)->(∀ p t,g' (.cell p t)=none) -> ∀ (l:List ResultVar) (ts:List Nat),l.mapM g'=some ts ->
   (l.mapM g).run P w = .ok (ts.map fun t=>a.tmps.getD t undef) w:=by
  intro g g' hg hg1 hg2 l
  induction l with
  | nil=>intro ts h; simp at h; subst h; rfl
  | cons r l ih =>
   intro ts h;simp only [List.mapM_cons,Option.bind_eq_bind,aG] at h;obtain ⟨b,hb,r',hr',h⟩:=h;simp at h; subst h;cases r with
   | cell=>rw [hg2] at hb; cases hb
   | tmp t =>
    rw [hg1] at hb;cases hb;rw [List.mapM_cons,Sem.run_bind,hg,Sem.run_pure,Result.andThen_ok,Sem.run_bind,ih r' hr']
    rfl
 have hrun:(results fn a.tmps).run P w = .ok (if h:(ts.map fun t=>a.tmps.getD t undef).toArray.size=1 then (ts.map fun t=>a.tmps.getD t undef).toArray[0] else .tuple (ts.map fun t=>a.tmps.getD t undef).toArray) w:=by
  unfold results;rw [Sem.run_bind,Array.mapM_eq_mapM_toList,Sem.run_map,gen _ _ (fun _=>rfl) (fun _=>rfl) (fun _ _=>rfl) fn.results.toList ts h]
  rfl
 refine ⟨_,hrun, ?_⟩
 match ts with
 | [t]=>simpa [resV] using hF.rep t
 | []=>exact zR m β
 | t::u::ts =>
  rw [dif_neg (by simp)];exact .tuple _ _ (by simp) fun i x v hx hv=>by
   simp only [aQ,aq] at hx hv;obtain ⟨t1,h1,rfl⟩:=hx;obtain ⟨t2,h2,rfl⟩:=hv;rw [h1] at h2; cases h2;exact hF.rep t1
theorem afl {f:FuncId} {fn:Func} {c:Code} {ts:List Nat} {args:List V} {S:Store} {R:V->Store->Prop} (hf:P.funcs[f]? = some fn) (hb:fn.body=some c) (ht:resT fn=some ts) (hn:args.length<=fn.ntmps)
  (h:VWp P fn.ntmps S.nx c (bodyV ts R) (zC 0 args) S):VCalls P f args S R:=by
 intro m β w vs hS hr;refine calls_of_wp hf hb ?_;have hF:FrameRep fn.ntmps m β (zC 0 args) { tmps:=vs.toArray++Array.replicate (fn.ntmps-vs.toArray.size) undef,defers:=[] }:=by
  have hl:=hr.1;refine ⟨by simp; omega,rfl,fun t => ?_⟩;rw [zP];simp only [Nat.zero_le,if_true,Nat.sub_zero];cases hx:args[t]? with
  | none=>exact .junk _
  | some x =>
   have hlt:t<vs.length:=by rw [<-hl]; exact (ab.1 hx).1
   have:(vs.toArray++Array.replicate (fn.ntmps-vs.toArray.size) undef).getD t undef=vs[t]:=by
    simp [aO,Array.getElem?_append,hlt]
   simp only [this,aJ];exact hr.2 t x _ hx (aa hlt)
 refine wp_mono (h m β w _ hS hF) ?_;rintro e a' w' ⟨σ',S',m',β',q,r1,r2,r3⟩;have back:ExtB S.nx m β w m' β' w'->Ext m β w m' β' w':=fun h=>⟨h.imm,fun o ho=>h.step o (by
  rcases bc o S.nx with hl | hl
  .exact hl
  .exact absurd ((hS.fresh o).2 hl) ho) ho,h.size,h.keep,h.os,h.tape,h.output⟩
 cases e with
 | normal =>
  obtain ⟨v,hv,hrv⟩:=zY (P:=P) ht r2 w';exact ⟨r2.defers,v,hv,v,_,S',m',β',rfl,q,hrv,r1,back r3⟩
 | ret =>
  obtain ⟨v,hv,hrv⟩:=zY (P:=P) ht r2 w';exact ⟨r2.defers,v,hv,v,_,S',m',β',rfl,q,hrv,r1,back r3⟩
 | _=>exact q.elim
end
def V.closed:V->Bool
 | .agg xs=>xs.all V.bK
 | x=>x.bK
theorem Rep.bK {m:Imm} {β:Objs} {x:V} {v:Value} (h:Rep m β x v) (hc:x.bK=true):RepI m x v:=by
 cases h with
 | imm h=>exact h
 | _=>simp [V.bK] at hc
theorem Rep.closed {m:Imm} {β:Objs} {x:V} {v:Value} (h:Rep m β x v) (hc:x.closed=true):RepI m x v:=by
 cases h with
 | imm h=>exact h
 | agg xs vs hl hr h1=>exact .agg xs vs hl (fun i x v hx hv=>(hr i x v hx hv).bK (by
   have : ∀ x∈xs,x.bK=true:=by simpa [V.closed] using hc
   exact this x (au hx))) h1
 | _=>simp [V.closed,V.bK] at hc
def Ghost (x:V) (S:Store) (x':V) (S':Store):Prop :=
 ∀ m β w v,Holds S m β w->Rep m β x v -> ∃ m' β',Holds S' m' β' w/\Ext m β w m' β' w/\Rep m' β' x' v
theorem Ghost.refl (x:V) (S:Store):Ghost x S x S:=fun m β w v h r=>⟨m,β,h,Ext.refl _ _ _,r⟩
theorem Ghost.trans {x y z:V} {S S' S'':Store} (h:Ghost x S y S') (k:Ghost y S' z S''):Ghost x S z S'':=by
 intro m β w v hS hr;obtain ⟨m',β',h1,h2,h3⟩:=h m β w v hS hr;obtain ⟨m'',β'',k1,k2,k3⟩:=k m' β' w v h1 h3;exact ⟨m'',β'',k1,h2.trans k2,k3⟩
theorem Ghost.nils (S:Store) (s:Nat):Ghost .nils S (.slice S.nx 0 0) (S.add (s,[])):=by
 intro m β w v hS hr;obtain ⟨a,rfl⟩:=hr.inv_nils;obtain ⟨h1,h2,h3⟩:=hS.addVoid s;exact ⟨m,_,h1,h2, .sliceVoid _ _ _ h3⟩
theorem Ghost.nl (S:Store):Ghost .nils S (.list []) S:=by
 intro m β w v hS hr;obtain ⟨a,rfl⟩:=hr.inv_nils;exact ⟨m,β,hS,Ext.refl _ _ _, .imm (.list0 _ _ (Nat.zero_le _))⟩
def Imm.set (m:Imm) (b:Nat) (o:Obj):Imm:=fun b'=>if b'=b then some o else m b'
theorem Holds.freeze {S:Store} {m:Imm} {β:Objs} {w:World} (hS:Holds S m β w) {o b base s n:Nat} {c:Nat × List V} (hc:S.get o=some c) (hob:β o = .lies b base s n) {ob:Obj} (hb:w.heap[b]? = some ob) :
  Holds (S.del o) (m.set b ob) (β.set o .dead) w/\Ext m β w (m.set b ob) (β.set o .dead) w:=by
 have hbl:(β o).block? = some b:=by rw [hob]; rfl
 have hd:=hS.drop o (hS.lt hc);have hmb:=hS.apart o b hbl;have hm : ∀ b' x,m b'=some x->(m.set b ob) b'=some x:=by
  intro b' x hx;simp only [Imm.set];split
  .rename_i e; subst e; rw [hmb] at hx; cases hx
  .exact hx
 refine ⟨⟨fun b' x hx => ?_,fun o' b' hb' => ?_,hd.inj,hd.fresh,hd.gone,hd.dead,fun o' c' hc'=>(hd.live o' c' hc').mono hm (Step.refl _) (fun _ _=>rfl)⟩,⟨hm,Step.kill β o,aT _,fun b' hb' h1 h2=>⟨rfl, ?_,fun o' ho' => ?_⟩,rfl,rfl,rfl⟩⟩
 .simp only [Imm.set] at hx;split at hx
  .rename_i e; subst e; cases hx; exact hb
  .exact hd.imm b' x hx
 .simp only [Imm.set];split
  .rename_i e;subst e
   exfalso
   by_cases e2:o'=o
   .subst e2; rw [Objs.set_same] at hb'; cases hb'
   .rw [Objs.set_other _ _ e2] at hb'; exact e2 (hS.inj _ _ _ hb' hbl)
  .exact hd.apart o' b' hb'
 .simp only [Imm.set];rw [if_neg (fun e=>by subst e; exact h2 o hbl)];exact h1
 .by_cases e2:o'=o
  .subst e2; rw [Objs.set_same] at ho'; cases ho'
  .rw [Objs.set_other _ _ e2] at ho'; exact h2 o' ho'
theorem Holds.drop' {S:Store} {m:Imm} {β:Objs} {w:World} (hS:Holds S m β w) {o:Nat} {c} (hc:S.get o=some c):Holds (S.del o) m (β.set o .dead) w/\Ext m β w m (β.set o .dead) w :=
 ⟨hS.drop o (hS.lt hc),(Ext.refl m (β.set o .dead) w).dropNew fun b hb=>hS.apart o b hb⟩
theorem Ghost.freeze {S:Store} {o off len s:Nat} {cells:List V} (hc:S.get o=some (s,cells)) (hcl:cells.all V.bK=true) (xs:List V) (hl:xs.length=len)
  (hx : ∀ (i:Nat) x,xs[i]? = some x->x.cells.length=s/\x.closed=true /\ ∀ (j:Nat) c,x.cells[j]? = some c->cells[off+i*s+j]? = some c):Ghost (.slice o off len) S (.list xs) (S.del o):=by
 intro m β w v hS hr;obtain ⟨ad,cap,rfl,hlc,hcm,hcase⟩:=hr.inv_slice (hS.alive hc);have triv:len=0 -> ∃ m' β',Holds (S.del o) m' β' w/\Ext m β w m' β' w/\Rep m' β' (.list xs) (.slice ad len cap):=by
  intro h0;obtain ⟨h1,h2⟩:=hS.drop' hc;have:xs=[]:=aH (by omega);subst this; subst h0;exact ⟨_,_,h1,h2, .imm (.list0 _ _ hcm)⟩
 rcases hcase with ⟨hv,h1,h2⟩ | ⟨b,base,s',n,hob,hcase⟩
 .exact triv h1
 .rcases hcase with hcap | ⟨had,hroom⟩
  .exact triv (by omega)
  .subst had;obtain ⟨hs',arr,T,⟨fz,hz,h1⟩,h2,h3,h4⟩:=hS.cells_at hc hob;simp only at hs' h3 h4;subst hs';obtain ⟨k1,k2⟩:=hS.freeze hc hob h1;refine ⟨_,_,k1,k2, ?_⟩
   -- the elements' values
   let val:Nat->V->Value:=fun i x=>match x with
    | .agg _ => .agg ((List.range s).map fun j=>arr.getD (base+off+i*s+j) undef).toArray
    | _=>arr.getD (base+off+i*s) undef
   have cell : ∀ (i:Nat) x (j:Nat) c,xs[i]? = some x->x.cells[j]? = some c -> ∃ u,arr[base+off+i*s+j]? = some u/\RepI m c u/\u.oneCell'=true:=by
    intro i x j c hi hj;obtain ⟨e1,e2,e3⟩:=hx i x hi;have hcj:=e3 j c hj;obtain ⟨u,f1,f2,f3⟩:=h4 _ c hcj;refine ⟨u,by rw [<-f1]; congr 1; omega,f2.bK ?_,f3⟩;have hall : ∀ x∈cells,x.bK=true:=by simpa using hcl
    exact hall c (au hcj)
   have hval : ∀ (i:Nat) x,xs[i]? = some x->(val i x).cells.size=s/\RepI m x (val i x) /\ ∀ (j:Nat) c,(val i x).cells[j]? = some c->arr[base+off+i*s+j]? = some c:=by
    intro i x hi;obtain ⟨e1,e2,e3⟩:=hx i x hi;by_cases hag : ∃ cs,x = .agg cs
    .obtain ⟨cs,rfl⟩:=hag;have e1':cs.length=s:=e1;refine ⟨by simp [val,Value.cells], ?_,fun j c hj => ?_⟩
     .refine .agg cs _ (by simp [e1']) (fun j c u hj hu => ?_) (fun u hu => ?_)
      .simp only [aQ,aq] at hu;obtain ⟨j',hj',rfl⟩:=hu;obtain ⟨hlt,e⟩:=ab.1 hj';simp at e; subst e;obtain ⟨u,f1,f2,_⟩:=cell i _ j c hi hj;simpa [aO,f1] using f2
      .simp only [List.mem_map,List.mem_range] at hu;obtain ⟨j,hj,rfl⟩:=hu;obtain ⟨u,f1,_,f3⟩:=cell i (.agg cs) j cs[j] hi (aa (by omega));simpa [aO,f1] using f3
     .simp only [val,Value.cells,List.getElem?_toArray,aQ,aq] at hj;obtain ⟨j',hj',rfl⟩:=hj;obtain ⟨hlt,e⟩:=ab.1 hj';simp at e hlt; subst e;obtain ⟨u,f1,_,_⟩:=cell i (.agg cs) j cs[j] hi (aa (by omega));simp [aO,f1]
    .have ec:x.cells=[x]:=by cases x<;>first | rfl | exact absurd ⟨_,rfl⟩ hag
     have ev':val i x=arr.getD (base+off+i*s) undef:=by cases x<;>first | rfl | exact absurd ⟨_,rfl⟩ hag
     obtain ⟨u,f1,f2,f3⟩:=cell i x 0 x hi (by rw [ec]; rfl);simp only [Nat.add_zero] at f1;have eu:val i x=u:=by rw [ev']; simp [aO,f1]
     have euc:u.cells = #[u]:=by cases u<;>first | rfl | simp [Value.oneCell'] at f3
     rw [eu];refine ⟨by rw [euc, <-e1,ec]; rfl,f2,fun j c hj => ?_⟩;rw [euc] at hj;cases j with
     | zero=>simp at hj; subst hj; simpa using f1
     | succ j=>simp at hj
   have himm : ∀ b' x,m b'=some x->(m.set b (.cells arr T fz)) b'=some x:=k2.imm;have:=RepI.list (m:=m.set b (.cells arr T fz)) xs (xs.mapIdx val) b (base+off) cap s arr T fz (by simp [Imm.set]) (by simp) (by omega) hcm
    (fun v hv=>by
     obtain ⟨i,hi,rfl⟩:=aR hv;simp only [List.getElem_mapIdx];exact (hval i _ (aa (by simpa using hi))).1)
    (fun i x v hi hv=>by
     rw [List.getElem?_mapIdx,hi] at hv;simp at hv; subst hv;exact (hval i x hi).2.1.mono himm)
    (fun i v j c hv hj=>by
     rw [List.getElem?_mapIdx] at hv;obtain ⟨x,hx1,rfl⟩:=aq.1 hv;exact (hval i x hx1).2.2 j c hj)
   rw [hl] at this;exact .imm this
theorem Ghost.freeze1 {S:Store} {o len:Nat} {cells:List V} (hc:S.get o=some (1,cells)) (hcl:cells.all V.bK=true) (hl:cells.length=len):Ghost (.slice o 0 len) S (.list cells) (S.del o):=by
 refine Ghost.freeze hc hcl cells hl fun i x hx => ?_;have h1:x.bK=true:=by
  have hall : ∀ x∈cells,x.bK=true:=by simpa using hcl
  exact hall x (au hx)
 have ec:x.cells=[x]:=by cases x<;>first | rfl | simp [V.bK] at h1
 refine ⟨by rw [ec]; rfl,by cases x<;>first | exact h1 | simp [V.bK] at h1,fun j c hj => ?_⟩;rw [ec] at hj;cases j with
 | zero=>simp at hj; subst hj; simpa using hx
 | succ j=>simp at hj
section
variable {P:Program} {N b:Nat} {Q:Exit->Fr->Store->Prop} {σ:Fr} {S:Store}
theorem ao0 {c:Code} (t:Nat) {x x':V} {S':Store} (hx:σ.lk t=x) (hg:Ghost x S x' S') (h:VWp P N b c Q (σ.set t x') S'):VWp P N b c Q σ S:=by
 intro m β w a hS hF;have hr:=hF.rep t;rw [hx] at hr;obtain ⟨m',β',h1,h2,h3⟩:=hg m β w _ hS hr;have hF':FrameRep N m' β' (σ.set t x') a:=by
  refine ⟨hF.size,hF.defers,fun u => ?_⟩;rw [Fr.look_set];split
  .rename_i e; subst e; exact h3
  .exact (hF.ext h2).rep u
 exact jfk h h1 hF' (h2.toB b)
end
theorem Rep.back {m m':Imm} {β β' β'':Objs} (hb : ∀ o,β o ≠ .fresh->β'' o=β' o) {x:V} {v:Value} (h:Rep m' β' x v) : ∀ v0,Rep m β x v0->Rep m' β'' x v:=by
 induction h with
 | imm h=>exact fun _ _ => .imm h
 | agg xs vs hl hr h1 ih =>
  intro v0 h0;obtain ⟨vs0,_,hl0,hr0,_⟩:=h0.inv_agg;exact .agg xs vs hl (fun i x v hx hv=>ih i x v hx hv vs0[i]! (hr0 i x _ hx (by
   have hi:i<vs0.length:=by rw [<-hl0]; exact (ab.1 hx).1
   simp [hi]))) h1
 | tuple xs vs hl hr ih =>
  intro v0 h0;obtain ⟨vs0,_,hl0,hr0⟩:=h0.inv_tuple;exact .tuple xs vs hl (fun i x v hx hv=>ih i x v hx hv vs0[i]! (hr0 i x _ hx (by
   have hi:i<vs0.length:=by rw [<-hl0]; exact (ab.1 hx).1
   simp [hi])))
 | func f xs vs hl hr ih =>
  intro v0 h0;obtain ⟨vs0,_,hl0,hr0⟩:=h0.inv_func;exact .func f xs vs hl (fun i x v hx hv=>ih i x v hx hv vs0[i]! (hr0 i x _ hx (by
   have hi:i<vs0.length:=by rw [<-hl0]; exact (ab.1 hx).1
   simp [hi])))
 | meth f x v hr ih =>
  intro v0 h0;obtain ⟨u,_,h0⟩:=h0.inv_meth;exact .meth f x v (ih u h0)
 | sliceDead o off len v h h1 =>
  intro v0 h0;have hn:β o ≠ .fresh:=by cases h0 with | imm h=>cases h | sliceDead _ _ _ _ h=>rw [h]; intro h; cases h | sliceVoid _ _ _ h=>rw [h]; intro h; cases h | slice _ _ _ _ _ _ _ _ _ h=>rw [h]; intro h; cases h
  exact .sliceDead o off len v ((hb o hn).trans h) h1
 | sliceVoid o off a h =>
  intro v0 h0;have hn:β o ≠ .fresh:=by cases h0 with | imm h=>cases h | sliceDead _ _ _ _ h=>rw [h]; intro h; cases h | sliceVoid _ _ _ h=>rw [h]; intro h; cases h | slice _ _ _ _ _ _ _ _ _ h=>rw [h]; intro h; cases h
  exact .sliceVoid o off a ((hb o hn).trans h)
 | slice o off len b base s n cap a h hc hcm ha =>
  intro v0 h0;have hn:β o ≠ .fresh:=by cases h0 with | imm h=>cases h | sliceDead _ _ _ _ h=>rw [h]; intro h; cases h | sliceVoid _ _ _ h=>rw [h]; intro h; cases h | slice _ _ _ _ _ _ _ _ _ h=>rw [h]; intro h; cases h
  exact .slice o off len b base s n cap a ((hb o hn).trans h) hc hcm ha
 | ptrDead o off v h h1 =>
  intro v0 h0;have hn:β o ≠ .fresh:=by cases h0 with | imm h=>cases h | ptrDead _ _ _ h=>rw [h]; intro h; cases h | ptr _ _ _ _ _ _ h=>rw [h]; intro h; cases h
  exact .ptrDead o off v ((hb o hn).trans h) h1
 | ptr o off b base s n h =>
  intro v0 h0;have hn:β o ≠ .fresh:=by cases h0 with | imm h=>cases h | ptrDead _ _ _ h=>rw [h]; intro h; cases h | ptr _ _ _ _ _ _ h=>rw [h]; intro h; cases h
  exact .ptr o off b base s n ((hb o hn).trans h)
 | mapDead o v h h1 =>
  intro v0 h0;have hn:β o ≠ .fresh:=by cases h0 with | imm h=>cases h | mapDead _ _ h=>rw [h]; intro h; cases h | map _ _ h=>rw [h]; intro h; cases h
  exact .mapDead o v ((hb o hn).trans h) h1
 | map o b h =>
  intro v0 h0;have hn:β o ≠ .fresh:=by cases h0 with | imm h=>cases h | mapDead _ _ h=>rw [h]; intro h; cases h | map _ _ h=>rw [h]; intro h; cases h
  exact .map o b ((hb o hn).trans h)
 | raw v=>exact fun _ _ => .raw v
 | junk v=>exact fun _ _ => .junk v
def Agree (S S':Store):Prop:=S.nx<=S'.nx /\ ∀ o,o<S.nx->S'.get o=S.get o
theorem Agree.trans {S S' S'':Store} (h:Agree S S') (k:Agree S' S''):Agree S S'' :=
 ⟨aU h.1 k.1,fun o ho=>(k.2 o (aK ho h.1)).trans (h.2 o ho)⟩
theorem Agree.upd {S S':Store} (h:Agree S S') {o:Nat} (ho:S.nx<=o) (c:Nat × List V):Agree S (S'.upd o c) :=
 ⟨h.1,fun o' ho'=>by simp only [Store.upd]; rw [if_neg (by omega)]; exact h.2 o' ho'⟩
section
variable {P:Program} {S:Store}
theorem al1 {m m':Imm} {β β':Objs} {w w':World} {S':Store} (hS:Holds S m β w) (h2:Holds S' m' β' w') (h3:Ext m β w m' β' w') (hnx:S.nx<=S'.nx) (hag : ∀ o,o<S.nx->S'.get o=S.get o) : ∃ β'',Holds S m' β'' w'/\Ext m β w m' β'' w':=by
 classical
 let β'':Objs:=fun o=>if o<S.nx then β' o else .fresh
 have hlt : ∀ o,o<S.nx->β'' o=β' o:=fun o ho=>by simp only [β'']; rw [if_pos ho]
 have hge : ∀ o,S.nx<=o->β'' o = .fresh:=fun o ho=>by simp only [β'']; rw [if_neg (by omega)]
 have hback : ∀ o,β o ≠ .fresh->β'' o=β' o:=fun o ho=>hlt o (by
  rcases bc o S.nx with h | h
  .exact h
  .exact absurd ((hS.fresh o).2 h) ho)
 have hblk : ∀ o b,(β'' o).block? = some b->(β' o).block? = some b:=by
  intro o b hb;rcases bc o S.nx with h | h
  .rwa [hlt o h] at hb
  .rw [hge o h] at hb; cases hb
 have hown : ∀ o,o<S.nx->β o ≠ .fresh:=fun o ho h=>by have:=(hS.fresh o).1 h; omega
 refine ⟨β'',⟨h2.imm,fun o b hb=>h2.apart o b (hblk o b hb),fun o o' b k1 k2=>h2.inj o o' b (hblk o b k1) (hblk o' b k2),fun o => ?_,hS.gone,fun o ho hn => ?_,fun o c hc => ?_⟩,
  ⟨h3.imm,fun o ho=>by rw [hback o ho]; exact h3.step o ho,h3.size,fun b hb k1 k2 => ?_,h3.os,h3.tape,h3.output⟩⟩
 .rcases bc o S.nx with h | h
  .rw [hlt o h,h2.fresh o]; exact ⟨fun h'=>by omega,fun h'=>by omega⟩
  .rw [hge o h]; exact ⟨fun _=>h,fun _=>rfl⟩
 .rw [hlt o ho];exact h2.dead o (by omega) (by rw [hag o ho]; exact hn)
 .have ho:=hS.lt hc;rw [hlt o ho];have hl:=h2.live o c (by rw [hag o ho]; exact hc);have hl0:=hS.live o c hc
  -- each cell was there before
  have hc0 : ∀ (i:Nat) y,c.2[i]? = some y -> ∃ v0,Rep m β y v0 \/ ∃ k e,y = .tuple [k,e]/\Rep m β e v0:=by
   intro i y hy;cases hb:β o with
   | fresh=>rw [hb] at hl0; exact hl0.elim
   | dead=>rw [hb] at hl0; exact hl0.elim
   | void=>rw [hb] at hl0; simp only [Live] at hl0; rw [hl0] at hy; simp at hy
   | lies b base s n =>
    rw [hb] at hl0;obtain ⟨_,arr,T,_,_,_,h4⟩:=hl0;obtain ⟨v0,_,hr0,_⟩:=h4 i y hy;exact ⟨v0, .inl hr0⟩
   | mp b =>
    rw [hb] at hl0;obtain ⟨es,clock,_,hle,h4⟩:=hl0;have hi:i<es.size:=by rw [<-hle]; exact (ab.1 hy).1
    obtain ⟨k,e,rfl,_,hr0⟩:=h4 i y es[i] hy (Array.getElem?_eq_getElem hi);exact ⟨es[i].val, .inr ⟨k,e,rfl,hr0⟩⟩
  cases hb:β' o with
  | fresh=>rw [hb] at hl; exact hl.elim
  | dead=>rw [hb] at hl; exact hl.elim
  | void=>rw [hb] at hl; exact hl
  | lies b base s n =>
   rw [hb] at hl;obtain ⟨k0,arr,T,k1,k2,k3,k4⟩:=hl;refine ⟨k0,arr,T,k1,k2,k3,fun i y hy => ?_⟩;obtain ⟨u,e1,e2,e3⟩:=k4 i y hy;obtain ⟨v0,hv0 | ⟨k,e,rfl,_⟩⟩:=hc0 i y hy
   .exact ⟨u,e1,e2.back hback v0 hv0,e3⟩
   .obtain ⟨vs0,rfl,_⟩:=e2.inv_tuple;simp [Value.oneCell'] at e3
  | mp b =>
   rw [hb] at hl;obtain ⟨es,clock,k1,k2,k3⟩:=hl;refine ⟨es,clock,k1,k2,fun i y en hy hen => ?_⟩;obtain ⟨k,e,rfl,e1,e2⟩:=k3 i y en hy hen;obtain ⟨v0,hv0 | ⟨k',e',heq,hv0⟩⟩:=hc0 i _ hy
   .obtain ⟨vs0,_,hl0',hr0'⟩:=hv0.inv_tuple;refine ⟨k,e,rfl,e1,e2.back hback vs0[1]! (hr0' 1 e _ rfl ?_)⟩;have:1<vs0.length:=by rw [<-hl0']; simp
    simp [this]
   .cases heq
    exact ⟨k,e,rfl,e1,e2.back hback v0 hv0⟩
 .obtain ⟨e1,e2,e3⟩:=h3.keep b hb k1 k2;exact ⟨e1,e2,fun o ho=>e3 o (hblk o b ho)⟩
def VPure (P:Program) (f:FuncId) (args:List V) (X:V):Prop := ∀ S,VCalls P f args S fun r S'=>r=X/\S'=S
theorem VPure.use {f:FuncId} {args:List V} {X:V} (h:VPure P f args X) {k:V->Store->Prop} (hk:k X S):VCalls P f args S k:=(h S).mono fun r S' ⟨h1,h2⟩=>by subst h1; subst h2; exact hk
def Gives (S:Store) (X:V) (r:V) (S':Store):Prop := ∃ S'',Ghost r S' X S''/\Agree S S''
theorem Ghost.tp {S S':Store} {x x':V} (pre post:List V) (h:Ghost x S x' S'):Ghost (.tuple (pre++x::post)) S (.tuple (pre++x'::post)) S':=by
 intro m β w v hS hr;obtain ⟨vs,rfl,hl,hrr⟩:=hr.inv_tuple;have hi:pre.length<vs.length:=by rw [<-hl]; simp
 obtain ⟨m',β',h1,h2,h3⟩:=h m β w vs[pre.length] hS (hrr pre.length x _ (by simp) (aa hi));refine ⟨m',β',h1,h2, .tuple _ vs (by rw [<-hl]; simp) fun i y u hy hu => ?_⟩;by_cases e:i=pre.length
 .subst e;simp at hy; subst hy;rw [aa hi] at hu; cases hu;exact h3
 .refine h2.rep (hrr i y u ?_ hu);rw [<-hy];simp only [List.getElem?_append];split
  .rfl
  .rename_i hlt;have:i-pre.length=(i-pre.length-1)+1:=by omega
   rw [this]; rfl
end
end Go.Vw
