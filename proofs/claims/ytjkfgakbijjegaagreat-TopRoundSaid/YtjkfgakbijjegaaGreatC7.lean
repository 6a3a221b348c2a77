import Derived.Test.YtjkfgakbijjegaaGreatC6
/- Part of the proof. -/
set_option linter.unusedVariables false
set_option linter.unusedSimpArgs false
set_option maxRecDepth 10000
set_option maxHeartbeats 4000000
namespace Go.Vw
open Go.RowKit
def VCallsX (P:Program) (f:FuncId) (args:List V) (S:Store) (Q:V->Store->Prop) (E:EP):Prop :=
 ∀ m β w vs,Holds S m β w->RepL m β args vs->Calls P f vs.toArray w fun e w' =>
  (∃ v x S' m' β',e = .returned v/\Q x S'/\Rep m' β' x v/\Holds S' m' β' w'/\Ext m β w m' β' w') \/
  (∃ ch S' m' β',e = .panicked ch/\E ch S'/\Holds S' m' β' w'/\Ext m β w m' β' w')
section
variable {P:Program} {f:FuncId} {args:List V} {S:Store} {Q Q':V->Store->Prop} {E E':EP}
theorem VCallsX.mono (h:VCallsX P f args S Q E) (hq : ∀ x S',Q x S'->Q' x S') (he : ∀ c S',E c S'->E' c S'):VCallsX P f args S Q' E':=by
 intro m β w vs hS hr;refine (h m β w vs hS hr).mono ?_;rintro e w' (⟨v,x,S',m',β',h1,h2,h3⟩ | ⟨ch,S',m',β',h1,h2,h3⟩)
 .exact .inl ⟨v,x,S',m',β',h1,hq _ _ h2,h3⟩
 .exact .inr ⟨ch,S',m',β',h1,he _ _ h2,h3⟩
theorem VCalls.toX (h:VCalls P f args S Q):VCallsX P f args S Q E:=by
 intro m β w vs hS hr;refine (h m β w vs hS hr).mono ?_;rintro e w' ⟨v,x,S',m',β',h1,h2,h3⟩;exact .inl ⟨v,x,S',m',β',h1,h2,h3⟩
theorem VCallsX.ok (h:VCallsX P f args S Q fun _ _=>False):VCalls P f args S Q:=by
 intro m β w vs hS hr;refine (h m β w vs hS hr).mono ?_;rintro e w' (⟨v,x,S',m',β',h1,h2,h3⟩ | ⟨ch,S',m',β',h1,h2,h3⟩)
 .exact ⟨v,x,S',m',β',h1,h2,h3⟩
 .exact h2.elim
theorem KV (h:S.Wf->VCallsX P f args S Q E):VCallsX P f args S Q E:=fun m β w vs hS hr=>h hS.wf m β w vs hS hr
theorem Yq (h:VCallsX P f args S (fun r S1 => ∃ x' S',GhostB S.nx r S1 x' S'/\Q x' S') E):VCallsX P f args S Q E:=by
 intro m β w vs hS hr;refine (h m β w vs hS hr).mono ?_;rintro e w' (⟨v,x,S1,m1,β1,he,⟨x',S',hg,hR⟩,h1,h2,h3⟩ | h)
 .obtain ⟨m2,β2,g1,g2,g3⟩:=hg m1 β1 w' v h2 h1;have k:=(h3.toB S.nx).trans g2;exact .inl ⟨v,x',S',m2,β2,he,hR,g3,g1,⟨k.imm,fun o ho=>k.step o (by
   rcases bc o S.nx with hl | hl
   .exact hl
   .exact absurd ((hS.fresh o).2 hl) ho) ho,k.size,k.keep,k.os,k.tape,k.output⟩⟩
 .exact .inr h
end
theorem aic {P:Program} {N:Nat} {m:Imm} {β:Objs} {w:World} {a:Act} {σ:Fr} {o:Oper} {c:Call} {fz:Arg} {args:List Arg} {g:FuncId} {x:V} (ho:o.op = .call c) (hc:zu P c=some (.callv fz args)) (hF:FrameRep N m β σ a)
  (hg:ev σ fz = .meth g x) (hcall:jE P g=true) :
  ∃ vs:List Value,(execOp a.eval o).run P w = .ok (.enter g vs.toArray) w/\RepL m β (x::args.map (ev σ)) vs:=by
 obtain ⟨callee,aZZ,argTypes⟩:=c;unfold zu at hc;split at hc
 .split at hc<;>(try cases hc)<;>(obtain ⟨z,hz,h⟩:=aq.1 hc; cases h)
 .split at hc
  .split at hc
   .split at hc
    .split at hc<;>cases hc
    .cases hc
   .cases hc
  .cases hc
 .split at hc
  .split at hc<;>cases hc
  .cases hc
 .split at hc
  .split at hc
   .cases hc
   .obtain ⟨zs,hz,h⟩:=aq.1 hc;cases h
  .cases hc
 .rename_i fv hnf h1;simp only at h1;subst h1;split at hc
  .rename_i fz' args' k1 k2;cases hc;have hr:=jM hF k1;rw [hg] at hr;obtain ⟨u,e,hx⟩:=hr.inv_meth;have has:=jbJ hF k2;unfold jE at hcall;split at hcall
   .rename_i fn hfn;simp only [Bool.not_eq_true',Bool.or_eq_false_iff] at hcall;have hn1' : ¬ fn.name = "runtime.NumGoroutine" := by simpa using hcall.1
    have hn2' : ¬ fn.body=none:=by intro h; simp [h] at hcall
    refine ⟨u::aZZ.toList.map a.eval, ?_,RepL.cons hx has⟩;have hargs:aZZ.map a.eval=(aZZ.toList.map a.eval).toArray:=by simp [<-Array.toList_map]
    simp [execOp,ho,resolve,e,Deferred.ofValue,invoke,callFunc,hfn,hn1',hn2',hargs]
   .cases hcall
  .cases hc
 .cases hc
def chainOf (v:Value):List PanicEntry:=[{ v,recovered:=false }]
def vopX (P:Program) (E:EP) (σ:Fr) (S:Store) (op:COp) (k:V->Store->Prop):Prop :=
 match op with
 | .call f args=>VCallsX P f (args.map (ev σ)) S k E
 | .callv f args=>match ev σ f with
  | .func g caps=>jE P g=true/\VCallsX P g (args.map (ev σ)++caps) S k E
  | .meth g x=>jE P g=true/\VCallsX P g (x::args.map (ev σ)) S k E
  | _=>False
 | .panic x=>match ev σ x with
  | .raw (.iface t v)=>E (chainOf (.iface t v)) S
  | _=>False
 | op=>match jg (ev σ) S op with
  | some (v,S')=>k v S'
  | none=>False
def qF (P:Program) (E:EP):List CO->(Fr->Store->Prop)->Fr->Store->Prop
 | [],K,σ,S=>K σ S
 | o::r,K,σ,S=>match o.guard with
  | none=>vopX P E σ S o.op fun v S'=>qF P E r K (σ.put o.dst v) S'
  | some (t,want)=>match σ.lk t with
   | .bool b=>if b=want then vopX P E σ S o.op fun v S'=>qF P E r K (σ.put o.dst v) S' else qF P E r K (σ.put o.dst (.tuple [])) S
   | .tuple []=>qF P E r K (σ.put o.dst (.tuple [])) S
   | _=>False
section
variable {P:Program} {N b:Nat} {Q:Exit->Fr->Store->Prop} {E:EP}
theorem ake {m:Imm} {β:Objs} {w:World} {a:Act} {σ:Fr} {o:Oper} {x:Arg} {t:TypeId} {v:Value} (hc:Wt P o=some (.panic x)) (hF:FrameRep N m β σ a) (hx:ev σ x = .raw (.iface t v)) :
  (execOp a.eval o).run P w = .halt (.panic (.iface t v)) w:=by
 have h2:Zl P o=some (.panic x):=by
  unfold Wt at hc;split at hc
  .rename_i c hi;cases hc;unfold jdB at hi
   repeat' (first | (split at hi))
   all_goals (cases hi)
  .split at hc
   .rename_i c h1;cases hc
    exfalso
    unfold jan at h1
    repeat' (first | (split at h1))
    all_goals first
     | (cases h1; done)
     | (obtain ⟨z,hz,hh⟩:=aq.1 h1; cases hh; done)
     | (unfold zu at h1; (repeat' (first | (split at h1))); all_goals (first | (cases h1; done) | (obtain ⟨z,hz,hh⟩:=aq.1 h1; cases hh; done)))
   .exact hc
 unfold Zl at h2;split at h2
 case h_3 =>
  rename_i y ho;obtain ⟨z,hz,h⟩:=aq.1 h2;cases h;have hr:=jM hF hz;rw [hx] at hr;have e:=hr.inv_raw;simp [execOp,ho,e,Instr.panic,goPanic]
 all_goals
  exfalso
  repeat' (first | (split at h2))
  all_goals first
   | (cases h2; done)
   | (obtain ⟨z,hz,hh⟩:=aq.1 h2; cases hh; done)
theorem KU {o:Oper} {co:COp} (hc:Wt P o=some co) (hd : ∀ t,o.dst=some t->t<N) {σ:Fr} {S:Store} {k:V->Store->Prop} (h:vopX P E σ S co k) {m0:Imm} {β0:Objs} {w0:World} {m:Imm} {β:Objs} {w:World} {a:Act}
  (hS:Holds S m β w) (hF:FrameRep N m β σ a) (he:ExtB b m0 β0 w0 m β w) {next:Act->World->Prop} {Q':Exit->Act->World->Prop}
  (hnext : ∀ x S' m' β' w' a',k x S'->Holds S' m' β' w'->FrameRep N m' β' (σ.put o.dst x) a'->ExtB b m0 β0 w0 m' β' w'->next a' w')
  (hpan : ∀ ch S' m' β' w',E ch S'->Holds S' m' β' w'->FrameRep N m' β' σ a->ExtB b m0 β0 w0 m' β' w'->Q' (.panic ch) a w'):o.wp P a w next Q':=by
 have fin : ∀ (f:FuncId) (args:List V) (vs:List Value),VCallsX P f args S k E->RepL m β args vs->(execOp a.eval o).run P w = .ok (.enter f vs.toArray) w->o.wp P a w next Q':=by
  intro f args vs h1 h2 h3;unfold Oper.wp;rw [h3];refine (h1 m β w vs hS h2).mono ?_;rintro e w' (⟨v,x,S',m',β',rfl,hk,hx,hS',hE⟩ | ⟨ch,S',m',β',rfl,hk,hS',hE⟩)
  .exact hnext x S' m' β' w' _ hk hS' ((hF.ext hE).put o.dst hd hx) (he.trans (hE.toB b))
  .exact hpan ch S' m' β' w' hk hS' (hF.ext hE) (he.trans (hE.toB b))
 by_cases hs:co.isCall=true
 .cases co with
  | panic x =>
   simp only [vopX] at h;split at h
   .rename_i t v hx;unfold Oper.wp;rw [ake hc hF hx];exact hpan _ S m β w h hS hF he
   .exact h.elim
  | call f args =>
   obtain ⟨c,ho,hcc⟩:=jam hc rfl;obtain ⟨vs,h1,h2⟩:=aeu (w:=w) ho hcc hF;exact fin f _ vs h h2 h1
  | callv fz args =>
   obtain ⟨c,ho,hcc⟩:=jam hc rfl;simp only [vopX] at h;split at h
   .rename_i g caps hg;obtain ⟨vs,h1,h2⟩:=abd (w:=w) ho hcc hF hg h.1;exact fin g _ vs h.2 h2 h1
   .rename_i g x hg;obtain ⟨vs,h1,h2⟩:=aic (w:=w) ho hcc hF hg h.1;exact fin g _ vs h.2 h2 h1
   .exact h.elim
  | _=>simp [COp.isCall] at hs
 .refine Wc (k:=k) hc hd ?_ hS hF he hnext;cases co<;>first | (simp [COp.isCall] at hs; done) | exact h
theorem Jz {ops:Array Oper} {m0:Imm} {β0:Objs} {w0:World} (hQ : ∀ ch σ S,E ch S->Q (.panic ch) σ S) : ∀ (l:List Oper) (cs:List CO) (σ:Fr) (S:Store) (m:Imm) (β:Objs) (w:World) (a:Act),l.mapM (za P N ops)=some cs->qF P E cs (Q .normal) σ S ->
  Holds S m β w->FrameRep N m β σ a->ExtB b m0 β0 w0 m β w->wpList P ops (Post N b Q m0 β0 w0) l a w
 | [],cs,σ,S,m,β,w,a,hl,h,hS,hF,he=>by
  simp at hl; subst hl;exact ⟨σ,S,m,β,h,hS,hF,he⟩
 | o::l,cs,σ,S,m,β,w,a,hl,h,hS,hF,he=>by
  simp only [List.mapM_cons,Option.bind_eq_bind,aG] at hl;obtain ⟨c,hc,cs',hcs',hl⟩:=hl;simp at hl; subst hl;unfold za at hc;split at hc
  .rename_i co g h1 h2;split at hc
   .rename_i hdst;cases hc;have hd : ∀ t,o.dst=some t->t<N:=by
     intro t ht; rw [ht] at hdst; simpa using hdst
    simp only [wpList];have run:vopX P E σ S co (fun v S'=>qF P E cs' (Q .normal) (σ.put o.dst v) S')->o.wp P a w (wpList P ops (Post N b Q m0 β0 w0) l) (Post N b Q m0 β0 w0):=fun hv =>
     KU h1 hd hv hS hF he (fun x S' m' β' w' a' k1 k2 k3 k4=>Jz hQ l cs' _ S' m' β' w' a' hcs' k1 k2 k3 k4)
      (fun ch S' m' β' w' k1 k2 k3 k4=>⟨σ,S',m',β',hQ _ _ _ k1,k2,k3,k4⟩)
    have skip:qF P E cs' (Q .normal) (σ.put o.dst (.tuple [])) S->wpList P ops (Post N b Q m0 β0 w0) l (a.put o.dst undef) w:=fun hv =>
     Jz hQ l cs' _ S m β w _ hcs' hv hS (hF.put o.dst hd (zR m β)) he
    cases hg:o.guard with
    | none =>
     rw [hg] at h2;simp [zb] at h2; subst h2;have hw:Region.wanted o (yielded ops a.tmps)=true:=by simp [Region.wanted,hg]
     rw [if_pos hw];simp only [qF] at h;exact .inl (run h)
    | some jw =>
     obtain ⟨j,want⟩:=jw;rw [hg] at h2;simp only [zb] at h2;split at h2
     .rename_i t ht;cases h2;simp only [qF] at h;split at h
      .rename_i b hb;have hy:=Wv hF ht hb;split at h
       .rename_i hbw;have hw:Region.wanted o (yielded ops a.tmps)=true:=by simp [Region.wanted,hg,hy,hbw]
        rw [if_pos hw]; exact .inl (run h)
       .rename_i hbw;have hw : ¬ Region.wanted o (yielded ops a.tmps)=true:=by simp [Region.wanted,hg,hy,hbw]
        rw [if_neg hw]; exact skip h
      .rename_i hb;have hy:=KG hF ht hb;have hw : ¬ Region.wanted o (yielded ops a.tmps)=true:=by simp [Region.wanted,hg,hy]
       rw [if_neg hw]; exact skip h
      .exact h.elim
     .cases h2
   .cases hc
  .cases hc
theorem ahl {id:Nat} {ops:Array Oper} {cs:List CO} {σ:Fr} {S:Store} (hQ : ∀ ch σ S,E ch S->Q (.panic ch) σ S) (hc:qj P N ops=some cs) (h:qF P E cs (Q .normal) σ S):VWp P N b (.region id ops false) Q σ S :=
 fun m β w a hS hF=>wp_region_list (Jz hQ ops.toList cs σ S m β w a hc h hS hF (ExtB.refl _ _ _ _))
theorem ac9 {σ:Fr} {S:Store} {c:Code} (E:EP) (hQ : ∀ ch σ S,E ch S->Q (.panic ch) σ S) (h:Code.kind c=1) {cs:List CO} (hc:qj P N (Code.ops c)=some cs) (H:qF P E cs (Q .normal) σ S):VWp P N b c Q σ S:=by
 cases c with
 | region id ops d =>
  cases d
  .exact ahl hQ hc H
  .simp [Code.kind] at h
 | _=>simp [Code.kind] at h
def jcq (ts:List Nat) (R:V->Store->Prop) (E:EP):Exit->Fr->Store->Prop
 | .normal,σ,S=>R (resV ts σ) S
 | .ret,σ,S=>R (resV ts σ) S
 | .panic ch,_,S=>E ch S
 | _,_,_=>False
theorem afh {f:FuncId} {fn:Func} {c:Code} {ts:List Nat} {args:List V} {S:Store} {R:V->Store->Prop} (hf:P.funcs[f]? = some fn) (hb:fn.body=some c) (ht:resT fn=some ts) (hn:args.length<=fn.ntmps)
  (h:VWp P fn.ntmps S.nx c (jcq ts R E) (zC 0 args) S):VCallsX P f args S R E:=by
 intro m β w vs hS hr;refine calls_of_wp hf hb ?_;have hF:FrameRep fn.ntmps m β (zC 0 args) { tmps:=vs.toArray++Array.replicate (fn.ntmps-vs.toArray.size) undef,defers:=[] }:=by
  have hl:=hr.1;refine ⟨by simp; omega,rfl,fun t => ?_⟩;rw [zP];simp only [Nat.zero_le,if_true,Nat.sub_zero];cases hx:args[t]? with
  | none=>exact .junk _
  | some x =>
   have hlt:t<vs.length:=by rw [<-hl]; exact (ab.1 hx).1
   have:(vs.toArray++Array.replicate (fn.ntmps-vs.toArray.size) undef).getD t undef=vs[t]:=by
    simp [aO,Array.getElem?_append,hlt]
   simp only [this,aJ];exact hr.2 t x _ hx (aa hlt)
 refine wp_mono (h m β w _ hS hF) ?_;rintro e a' w' ⟨σ',S',m',β',q,r1,r2,r3⟩;have back:ExtB S.nx m β w m' β' w'->Ext m β w m' β' w':=fun h=>⟨h.imm,fun o ho=>h.step o (by
  rcases bc o S.nx with hl | hl
  .exact hl
  .exact absurd ((hS.fresh o).2 hl) ho) ho,h.size,h.keep,h.os,h.tape,h.output⟩
 cases e with
 | normal =>
  obtain ⟨v,hv,hrv⟩:=zY (P:=P) ht r2 w';exact ⟨r2.defers,v,hv, .inl ⟨v,_,S',m',β',rfl,q,hrv,r1,back r3⟩⟩
 | ret =>
  obtain ⟨v,hv,hrv⟩:=zY (P:=P) ht r2 w';exact ⟨r2.defers,v,hv, .inl ⟨v,_,S',m',β',rfl,q,hrv,r1,back r3⟩⟩
 | panic ch=>exact ⟨r2.defers, .inr ⟨ch,S',m',β',rfl,q,r1,back r3⟩⟩
 | _=>exact q.elim
theorem jc {f:FuncId} {fn:Func} {c:Code} {ts:List Nat} {args:List V} {S:Store} {R:V->Store->Prop} (hf:P.funcs[f]? = some fn) (hb:fn.body=some c) (ht:resT fn=some ts) (hn:args.length<=fn.ntmps)
  (h:S.Wf->VWp P fn.ntmps S.nx c (jcq ts (zq S.nx R) E) (zC 0 args) (St S [] [])):VCallsX P f args S R E:=by
 refine KV fun hwf=>Yq (afh hf hb ht hn ?_);have:=h hwf;rw [jh hwf] at this;exact this
def bodyCX (rs:List (Nat × Option (Option Nat))) (R:V->Store->Prop) (E:EP):Exit->Fr->Store->Prop
 | .normal,σ,S => ∃ xs,resL S σ rs=some xs/\R (tupV xs) S
 | .ret,σ,S => ∃ xs,resL S σ rs=some xs/\R (tupV xs) S
 | .panic ch,_,S=>E ch S
 | _,_,_=>False
theorem jfm {f:FuncId} {fn:Func} {c:Code} {rs:List (Nat × Option (Option Nat))} {args:List V} {S:Store} {R:V->Store->Prop} (hf:P.funcs[f]? = some fn) (hb:fn.body=some c) (ht:resC P fn=some rs) (hn:args.length<=fn.ntmps)
  (h:VWp P fn.ntmps S.nx c (bodyCX rs R E) (zC 0 args) S):VCallsX P f args S R E:=by
 intro m β w vs hS hr;refine calls_of_wp hf hb ?_;have hF:FrameRep fn.ntmps m β (zC 0 args) { tmps:=vs.toArray++Array.replicate (fn.ntmps-vs.toArray.size) undef,defers:=[] }:=by
  have hl:=hr.1;refine ⟨by simp; omega,rfl,fun t => ?_⟩;rw [zP];simp only [Nat.zero_le,if_true,Nat.sub_zero];cases hx:args[t]? with
  | none=>exact .junk _
  | some x =>
   have hlt:t<vs.length:=by rw [<-hl]; exact (ab.1 hx).1
   have:(vs.toArray++Array.replicate (fn.ntmps-vs.toArray.size) undef).getD t undef=vs[t]:=by
    simp [aO,Array.getElem?_append,hlt]
   simp only [this,aJ];exact hr.2 t x _ hx (aa hlt)
 refine wp_mono (h m β w _ hS hF) ?_;rintro e a' w' ⟨σ',S',m',β',q,r1,r2,r3⟩;have back:ExtB S.nx m β w m' β' w'->Ext m β w m' β' w':=fun h=>⟨h.imm,fun o ho=>h.step o (by
  rcases bc o S.nx with hl | hl
  .exact hl
  .exact absurd ((hS.fresh o).2 hl) ho) ho,h.size,h.keep,h.os,h.tape,h.output⟩
 cases e with
 | normal =>
  obtain ⟨xs,q1,q2⟩:=q;obtain ⟨v,hv,hrv⟩:=JH (P:=P) ht r1 r2 q1;exact ⟨r2.defers,v,hv, .inl ⟨v,_,S',m',β',rfl,q2,hrv,r1,back r3⟩⟩
 | ret =>
  obtain ⟨xs,q1,q2⟩:=q;obtain ⟨v,hv,hrv⟩:=JH (P:=P) ht r1 r2 q1;exact ⟨r2.defers,v,hv, .inl ⟨v,_,S',m',β',rfl,q2,hrv,r1,back r3⟩⟩
 | panic ch=>exact ⟨r2.defers, .inr ⟨ch,S',m',β',rfl,q,r1,back r3⟩⟩
 | _=>exact q.elim
theorem qA {f:FuncId} {fn:Func} {c:Code} {rs:List (Nat × Option (Option Nat))} {args:List V} {S:Store} {R:V->Store->Prop} (hf:P.funcs[f]? = some fn) (hb:fn.body=some c) (ht:resC P fn=some rs) (hn:args.length<=fn.ntmps)
  (h:S.Wf->VWp P fn.ntmps S.nx c (bodyCX rs (zq S.nx R) E) (zC 0 args) (St S [] [])):VCallsX P f args S R E:=by
 refine KV fun hwf=>Yq (jfm hf hb ht hn ?_);have:=h hwf;rw [jh hwf] at this;exact this
end
section
variable {P:Program} {N b:Nat} {Q:Exit->Fr->Store->Prop} {E:EP} {K:Fr->Store->Prop}
theorem ade {σ:Fr} {S:Store} {op:COp} {k:V->Store->Prop} {v:V} {S':Store} (hc : ¬ op.isCall=true) (he:jg (ev σ) S op=some (v,S')) (hk:k v S'):vopX P E σ S op k:=by
 cases op<;>first | (simp [COp.isCall] at hc; done) | (simp only [vopX,he]; exact hk)
theorem jaX {ρ:Arg->V} {S S':Store} {op:COp} {v:V} (hr:op.reader=true) (he:jg ρ S op=some (v,S')):S'=S:=by
 have:=ZG (fun _ _ h=>h) op hr he;rw [he] at this;cases this; rfl
theorem JG {rest:List CO} {σ':Fr} {S':Store} : ∀ (cs:List CO) (σ:Fr) (S:Store),runV none cs σ S=some (rest,σ',S')->qF P E rest K σ' S'->qF P E cs K σ S
 | [],σ,S,h,hk=>by simp only [runV,ar,Prod.mk.injEq] at h; obtain ⟨rfl,rfl,rfl⟩:=h; exact hk
 | o::r,σ,S,h,hk=>by
  have go:(if o.op.isCall=true\/(o.op.reader=false/\(none:Option ZZ).isSome=true) then some (⟨o.dst,none,o.op⟩::r,σ,S) else match jg (ev σ) (if o.op.reader=true then rd none o.dst o.op S else S) o.op with
      | some (v,S')=>runV none r (σ.put o.dst v) (if o.op.reader=true then S else S')
      | none=>none)=some (rest,σ',S')->vopX P E σ S o.op fun v S'=>qF P E r K (σ.put o.dst v) S':=by
   intro h;split at h
   .simp only [ar,Prod.mk.injEq] at h;obtain ⟨rfl,rfl,rfl⟩:=h;simpa only [qF] using hk
   .rename_i hc;split at h
    .rename_i v S1 hv;have hv':jg (ev σ) S o.op=some (v,S1):=by
      split at hv
      .exact hv
      .exact hv
     refine ade (fun e=>hc (.inl e)) hv' ?_;by_cases hr:o.op.reader=true
     .rw [if_pos hr] at h;rw [jaX hr hv'];exact JG r _ _ h hk
     .rw [if_neg hr] at h;exact JG r _ _ h hk
    .cases h
  simp only [runV] at h;simp only [qF];cases hg:o.guard with
  | none=>simp only [hg] at h; exact go h
  | some tw =>
   obtain ⟨t,want⟩:=tw;simp only [hg] at h;simp only;cases hv:σ.lk t with
   | bool b =>
    simp only [hv] at h;simp only;split at h
    .rename_i hb; rw [if_pos hb]; exact go h
    .rename_i hb; rw [if_neg hb]; exact JG r _ _ h hk
   | tuple xs =>
    cases xs with
    | nil=>simp only [hv] at h; simp only; exact JG r _ _ h hk
    | cons=>simp only [hv] at h; cases h
   | _=>simp only [hv] at h; cases h
theorem ja {σ:Fr} {S:Store} (h:K σ S):qF P E [] K σ S:=h
theorem jb {σ:Fr} {S:Store} {d:Option Nat} {f:FuncId} {args:List Arg} {xs:List V} {r:List CO} {R:V->Store->Prop} (ha:args.map (ev σ)=xs) (h:VCallsX P f xs S R E) (H : ∀ X S',R X S'->qF P E r K (σ.put d X) S') :
  qF P E (⟨d,none, .call f args⟩::r) K σ S:=by
 simp only [qF,vopX];rw [ha];exact h.mono H fun _ _ h=>h
theorem qr {σ:Fr} {S:Store} {d:Option Nat} {f:FuncId} {args:List Arg} {xs:List V} {r:List CO} {X:V} (ha:args.map (ev σ)=xs) (h:VPure P f xs X) (H:qF P E r K (σ.put d X) S) :
  qF P E (⟨d,none, .call f args⟩::r) K σ S:=jb ha (h S).toX fun Y S' ⟨h1,h2⟩=>by subst h1; subst h2; exact H
theorem afy {σ:Fr} {S:Store} {d:Option Nat} {fz:Arg} {g:FuncId} {caps:List V} {args:List Arg} {xs:List V} {r:List CO} {R:V->Store->Prop} (hf:ev σ fz = .func g caps) (hc:jE P g=true) (ha:args.map (ev σ)++caps=xs) (h:VCallsX P g xs S R E) (H : ∀ X S',R X S'->qF P E r K (σ.put d X) S') :
  qF P E (⟨d,none, .callv fz args⟩::r) K σ S:=by
 simp only [qF,vopX,hf];rw [ha];exact ⟨hc,h.mono H fun _ _ h=>h⟩
theorem Wb {σ:Fr} {S:Store} {d:Option Nat} {x:Arg} {r:List CO} {t:TypeId} {v:Value} (hx:ev σ x = .raw (.iface t v)) (h:E (chainOf (.iface t v)) S) :
  qF P E (⟨d,none, .panic x⟩::r) K σ S:=by
 simp only [qF,vopX,hx];exact h
def zp (P:Program) (f:V) (args:List V) (S:Store) (R:V->Store->Prop) (E:EP):Prop :=
 match f with
 | .func g caps=>jE P g=true/\VCallsX P g (args++caps) S R E
 | .meth g x=>jE P g=true/\VCallsX P g (x::args) S R E
 | _=>False
theorem jV {σ:Fr} {S:Store} {d:Option Nat} {fz:Arg} {args:List Arg} {f:V} {xs:List V} {r:List CO} {R:V->Store->Prop} (hf:ev σ fz=f) (ha:args.map (ev σ)=xs) (h:zp P f xs S R E) (H : ∀ X S',R X S'->qF P E r K (σ.put d X) S') :
  qF P E (⟨d,none, .callv fz args⟩::r) K σ S:=by
 simp only [qF,vopX,hf];rw [ha];cases f<;>simp only [zp] at h ⊢ <;> first | exact ⟨h.1,h.2.mono H fun _ _ h=>h⟩ | exact h
theorem XR {σ σ':Fr} {S S':Store} {c:Code} {cs rest:List CO} (E:EP) (h:Code.kind c=1:=by exact rfl) (hc:qj P N (Code.ops c)=some cs:=by (conv=>lhs; reduce)) (hQ : ∀ ch σ S,E ch S->Q (.panic ch) σ S:=by exact fun _ _ _ h=>h)
  (r:runV none cs σ S=some (rest,σ',S')) (k:qF P E rest (Q .normal) σ' S'):VWp P N b c Q σ S:=ac9 E hQ h hc (JG cs σ S r k)
theorem XM {σ σ':Fr} {S S':Store} {cs rest:List CO} (r:runV none cs σ S=some (rest,σ',S')) (k:qF P E rest K σ' S'):qF P E cs K σ S:=JG cs σ S r k
end
def Kept (S:Store) (ks:List Nat) (T:Store):Prop:=S.nx<=T.nx /\ ∀ o,o<S.nx->o∉ks->T.get o=S.get o
theorem Kept.refl (S:Store) (ks:List Nat):Kept S ks S:=⟨aT _,fun _ _ _=>rfl⟩
theorem jN {B:Store} {u:Upds} {l:OL} {ks:List Nat} (hu : ∀ p∈u,p.1∈ks):Kept B ks (St B u l):=by
 refine ⟨by rw [jH]; simp [lid],fun o ho hk => ?_⟩;rw [jk ho]
 induction u with
 | nil=>rfl
 | cons p r ih =>
  obtain ⟨k,c⟩:=p;simp only [uGet];rw [if_neg (fun e=>hk (by rw [e]; exact hu (k,c) (by simp)))];exact ih fun q hq=>hu q (by simp [hq])
theorem Kept.trans {S T U:Store} {ks:List Nat} (h:Kept S ks T) (k:Kept T ks U):Kept S ks U :=
 ⟨aU h.1 k.1,fun o ho hk=>(k.2 o (aK ho h.1) hk).trans (h.2 o ho hk)⟩
theorem Kept.weak {S T:Store} {ks ks':List Nat} (h:Kept S ks T) (hk : ∀ k∈ks,k∈ks'):Kept S ks' T:=⟨h.1,fun o ho hn=>h.2 o ho fun hm=>hn (hk o hm)⟩
theorem Kept.up {B T:Store} {u:Upds} {l:OL} {ks ks':List Nat} (h:Kept (St B u l) ks' T) (hu : ∀ p∈u,p.1∈ks) (hk : ∀ k∈ks',k∈ks\/B.nx<=k):Kept B ks T:=by
 have h0:=jN (B:=B) (l:=l) hu;refine ⟨aU h0.1 h.1,fun o ho hn => ?_⟩;rw [h.2 o (aK ho h0.1) fun hm => ?_]
 .exact h0.2 o ho hn
 .rcases hk o hm with h1 | h1
  .exact hn h1
  .omega
abbrev Ups:=List (Nat × (Nat × List V))
def HasU (S:Store) (us:Ups):Prop := ∀ p∈us,S.get p.1=some p.2
def putU (S:Store):Ups->Store
 | []=>S
 | (o,c)::r=>putU (S.upd o c) r
def qS (us:Ups):List Nat:=us.map (·.1)
def upsU:Ups->Upds
 | []=>[]
 | (o,c)::r=>(o,some c)::upsU r
theorem jfD (S:Store) (us:Ups):(putU S us).nx=S.nx:=by
 induction us generalizing S with
 | nil=>rfl
 | cons p r ih=>exact (ih _).trans rfl
theorem adt {us:Ups} (S:Store) (o:Nat) (h:o∉qS us):(putU S us).get o=S.get o:=by
 induction us generalizing S with
 | nil=>rfl
 | cons p r ih =>
  simp only [qS,List.map_cons,aE,not_or] at h;refine (ih (S.upd p.1 p.2) h.2).trans ?_;rw [jQ,if_neg h.1]
theorem aok {us:Ups} (S:Store) (hn:(qS us).Nodup):HasU (putU S us) us:=by
 induction us generalizing S with
 | nil=>simp [HasU]
 | cons p r ih =>
  simp only [qS,List.map_cons,List.nodup_cons] at hn;intro q hq;rcases aE.1 hq with rfl | hq
  .show (putU (S.upd q.1 q.2) r).get q.1=_;rw [adt _ _ hn.1,jQ,if_pos rfl]
  .exact ih (S.upd p.1 p.2) hn.2 q hq
theorem HasU.lt {S:Store} {us:Ups} (h:HasU S us) (hw:S.Wf) {k:Nat} (hk:k∈qS us):k<S.nx:=by
 obtain ⟨p,hp,rfl⟩:=List.mem_map.1 hk;have:=h p hp;rcases bc p.1 S.nx with h1 | h1
 .exact h1
 .rw [hw.gone _ h1] at this; cases this
theorem aak {B:Store} {us:Ups} {l:OL} (hn:(qS us).Nodup) (hk : ∀ k∈qS us,k<B.nx):HasU (St B (upsU us) l) us:=by
 intro q hq;rw [jk (hk q.1 (List.mem_map_of_mem hq))]
 induction us with
 | nil=>cases hq
 | cons p r ih =>
  simp only [qS,List.map_cons,List.nodup_cons] at hn;obtain ⟨o,c⟩:=p;simp only [upsU,uGet];rcases aE.1 hq with rfl | hq
  .simp
  .rw [if_neg (fun e=>hn.1 (by rw [<-e]; exact List.mem_map_of_mem (f:=(·.1)) hq))];exact ih hn.2 (fun k hk'=>hk k (by simp [qS] at hk' ⊢; exact .inr hk')) hq
theorem Store.eq_of {S T:Store} (h1 : ∀ o,S.get o=T.get o) (h2:S.nx=T.nx):S=T:=Store.ext' (funext h1) h2
theorem jfn {us:Ups} {o:Nat} {d:Option (Nat × List V)} (h:o∉qS us):uGet (upsU us) o d=d:=by
 induction us with
 | nil=>rfl
 | cons p r ih =>
  simp only [qS,List.map_cons,aE,not_or] at h;simp only [upsU,uGet];rw [if_neg h.1]; exact ih h.2
theorem aej {B:Store} {us us':Ups} {l:OL} (he:qS us'=qS us) (hn:(qS us).Nodup) (hk : ∀ k∈qS us,k<B.nx):putU (St B (upsU us) l) us'=St B (upsU us') l:=by
 refine Store.eq_of (fun o => ?_) (by rw [jfD,jH,jH]);by_cases ho:o∈qS us'
 .obtain ⟨p,hp,rfl⟩:=List.mem_map.1 ho;rw [aok (us:=us') _ (by rw [he]; exact hn) p hp,aak (us:=us') (by rw [he]; exact hn) (by rw [he]; exact hk) p hp]
 .rw [adt _ _ ho];have ho':o∉qS us:=by rw [<-he]; exact ho
  rw [zj,zj,jfn ho,jfn ho']
theorem WS {B:Store} {us:Ups} (h:HasU B us):St B (upsU us) []=St B [] []:=by
 refine Store.eq_of (fun o => ?_) rfl;rw [zj,zj];split
 .simp only [uGet]
  induction us with
  | nil=>rfl
  | cons p r ih =>
   simp only [upsU,uGet];split
   .rename_i e; rw [e]; exact (h p (by simp)).symm
   .exact ih fun q hq=>h q (by simp [hq])
 .rfl
theorem aau {B:Store} {us us':Ups} (hw:B.Wf) (h:HasU B us) (he:qS us'=qS us) (hn:(qS us).Nodup):putU B us'=St B (upsU us') []:=by
 have h1:=aej (B:=B) (us:=us) (us':=us') (l:=[]) he hn fun k hk=>h.lt hw hk;rw [<-h1,WS h,jh hw]
theorem anp (a b c:Int):valV (.agg [.int .i64 a, .int .i64 b, .int .i64 c])=some (.agg #[.int .i64 a, .int .i64 b, .int .i64 c]):=nr (by simp [valV,valV1])
attribute [simp] anp
abbrev Flt:=Int × Int × Int
def jY (t:TypeId) (e:Flt):List PanicEntry:=chainOf (.iface t (.agg #[.int .i64 e.1, .int .i64 e.2.1, .int .i64 e.2.2]))
end Go.Vw
namespace Go.Vw
variable {P:Program} {N b:Nat} {σ σ':Fr} {S S':Store} {cs rest:List CO}
theorem XQ {Q Q':Exit->Fr->Store->Prop} {c c':Code} (E:EP) (k:qF P E rest (Q' .normal) σ' S') (t:unS P N b 9 c Q=(c',Q'):=by exact rfl) (h:Code.kind c'=1:=by exact rfl) (hc:qj P N (Code.ops c')=some cs:=by (conv=>lhs; reduce)) (hQ : ∀ ch σ S,E ch S->Q' (.panic ch) σ S:=by exact fun _ _ _ h=>h) (r:runV none cs σ S=some (rest,σ',S'):=by conv=>lhs;simp[QV]):VWp P N b c Q σ S:=aaa 9 c Q (by rw [t]; exact XR E h hc hQ r k)
theorem XN {E:EP} {K:Fr->Store->Prop} (k:qF P E rest K σ' S') (r:runV none cs σ S=some (rest,σ',S'):=by conv=>lhs;simp[QV]):qF P E cs K σ S:=XM r k
end Go.Vw
namespace Go.Vw.G
def okIx (l:List Int) (n:Int):Prop:=0<=n/\n<l.length
instance (l:List Int) (n:Int):Decidable (okIx l n):=inferInstanceAs (Decidable (_/\_))
def find (p:Int->Bool):List Int->Nat->Int
 | [],_ => -1
 | x::xs,k=>if p x then k else find p xs (k+1)
end Go.Vw.G
namespace Ss
structure Sig where
 inn:List Int
 out:List Int
deriving DecidableEq,Inhabited
structure Ins where
 op:Int
 n:Int
 args:List Int
 outs:List Int
deriving DecidableEq,Inhabited
structure Edge where
 to:Int
 args:List Int
deriving DecidableEq,Inhabited
structure Term where
 kind:Int
 arg:Int
 to:List Edge
 args:List Int
deriving DecidableEq,Inhabited
structure Block where
 params:List Int
 code:List Ins
 term:Term
deriving DecidableEq,Inhabited
structure Fn where
 sig:Sig
 types:List Int
 blocks:List Block
deriving DecidableEq,Inhabited
structure Env where
 sigs:List Sig
 imports:Int
 globals:List Int
 muts:List Bool
 mem:Bool
deriving DecidableEq,Inhabited
def I64 (n:Int):Prop := -9223372036854775808<=n/\n<=9223372036854775807
end Ss
namespace Go.Vw
def vu (n:Int):V := .int .u64 n
def je (s:Ss.Sig):V := .agg [vl bH s.inn,vl bH s.out]
def encIns (x:Ss.Ins):V := .agg [bH x.op,vu x.n,vl bH x.args,vl bH x.outs]
def jbM (x:Ss.Edge):V := .agg [bH x.to,vl bH x.args]
def encTerm (t:Ss.Term):V := .agg [bH t.kind,bH t.arg,vl jbM t.to,vl bH t.args]
def jcI (b:Ss.Block):V := .agg [vl bH b.params,vl encIns b.code,bH b.term.kind,bH b.term.arg,vl jbM b.term.to,vl bH b.term.args]
def encFn (f:Ss.Fn):V := .agg [vl bH f.sig.inn,vl bH f.sig.out,vl bH f.types,vl jcI f.blocks]
def encEnv (e:Ss.Env):V := .agg [vl je e.sigs,bH e.imports,vl bH e.globals,vl V.bool e.muts, .bool e.mem]
theorem aky (x:Ss.Sig):(je x).ncells=2:=nr rfl
theorem alk (x:Ss.Ins):(encIns x).ncells=4:=nr rfl
theorem ahp (x:Ss.Edge):(jbM x).ncells=2:=nr rfl
theorem afr (x:Ss.Block):(jcI x).ncells=6:=nr rfl
theorem akf (s:Ss.Sig):je s = .agg [vl bH s.inn,vl bH s.out]:=nr rfl
theorem aju (x:Ss.Ins):encIns x = .agg [bH x.op,vu x.n,vl bH x.args,vl bH x.outs]:=nr rfl
theorem ahi (x:Ss.Edge):jbM x = .agg [bH x.to,vl bH x.args]:=nr rfl
theorem ah3 (t:Ss.Term):encTerm t = .agg [bH t.kind,bH t.arg,vl jbM t.to,vl bH t.args]:=nr rfl
theorem agn (b:Ss.Block):jcI b = .agg [vl bH b.params,vl encIns b.code,bH b.term.kind,bH b.term.arg,vl jbM b.term.to,vl bH b.term.args]:=nr rfl
theorem apz (f:Ss.Fn):encFn f = .agg [vl bH f.sig.inn,vl bH f.sig.out,vl bH f.types,vl jcI f.blocks]:=nr rfl
theorem ajq (e:Ss.Env):encEnv e = .agg [vl je e.sigs,bH e.imports,vl bH e.globals,vl V.bool e.muts, .bool e.mem]:=nr rfl
theorem awo (n:Int):(vu n).one=true:=nr rfl
theorem aqo (t:Nat) (σ:Fr):resV [t] σ=σ.lk t:=nr rfl
theorem apg (t u:Nat) (σ:Fr):resV [t,u] σ = .tuple [σ.lk t,σ.lk u]:=nr rfl
theorem av3 (t u v:Nat) (σ:Fr):resV [t,u,v] σ = .tuple [σ.lk t,σ.lk u,σ.lk v]:=nr rfl
theorem av0 (t u v w:Nat) (σ:Fr):resV [t,u,v,w] σ = .tuple [σ.lk t,σ.lk u,σ.lk v,σ.lk w]:=nr rfl
theorem aof (σ:Fr):resV [] σ = .tuple []:=nr rfl
attribute [simp] aqo apg av3 av0 aof aky alk ahp afr akf aju ahi ah3 agn apz ajq awo vu
theorem aw5 {P:Program} {z:Option ZZ} {σ:Fr} {S:Store} {K:Fr->Store->Prop} {d:Option Nat} {f:FuncId} {args:List Arg} {xs:List V} {r:List CO} {X:V} (h:VPure P f xs X) (ha:args.map (ev σ)=xs) (H:qy P z r K (σ.put d X) S) (hz:noW z d=true:=by rfl):qy P z (⟨d,none, .call f args⟩::r) K σ S:=jA ha h H hz
theorem jcQ {P:Program} {z:Option ZZ} {σ:Fr} {S:Store} {K:Fr->Store->Prop} {d:Option Nat} {g:FuncId} {caps:List V} {fz:Arg} {args:List Arg} {xs:List V} {r:List CO} {X:V} (h:VPure P g xs X) (hf:ev σ fz = .func g caps) (hc:jE P g=true) (ha:args.map (ev σ)++caps=xs) (H:qy P z r K (σ.put d X) S) (hz:noW z d=true:=by rfl):qy P z (⟨d,none, .callv fz args⟩::r) K σ S:=zh hf hc ha h H hz
theorem jP {k n:Nat} (h:k<n) (hn:n<2^63):IntKind.i64.wrap ((k:Int)+1)=(k:Int)+1:=wrap_i64 (by omega) (by omega)
end Go.Vw
namespace Wm
abbrev Sig:=Ss.Sig
abbrev Flt:=Int × Int × Int
def i64 (n:Nat):Int:=((n:Int)+9223372036854775808) % 18446744073709551616-9223372036854775808
def mayU (c room:Nat):Bool:=decide ((c:Int) / 2^room=0)
def hiS (c room:Nat):Int:=(((c:Int)*2+128) % 256-128).fdiv (2^room)
def mayS (c room:Nat):Bool:=decide (hiS c room=0)||decide (hiS c room = -1)
def lebGo (may:Nat->Nat->Bool) (size len at':Nat):List Nat->Nat->Nat->Except Flt (Nat × Nat)
 | [],_,_ => .error (4,len,0)
 | c::l,i,n =>
  if size<=7*i+7/\(127<c\/may c (size-7*i)=false) then .error (3,(at'+i:Nat),0)
  else if c<128 then .ok (n ||| (c % 128)*2^(7*i) % 18446744073709551616,at'+i+1)
  else lebGo may size len at' l (i+1) (n ||| (c % 128)*2^(7*i) % 18446744073709551616)
def lebU (b:List Nat) (at' size:Nat):Except Flt (Nat × Nat):=lebGo mayU size b.length at' (b.drop at') 0 0
def sgn (n used:Nat):Int:=if used<64 then (i64 (n*2^(64-used))).fdiv (2^(64-used)) else i64 n
def lebS (b:List Nat) (at' size:Nat):Except Flt (Int × Nat) :=
 match lebGo mayS size b.length at' (b.drop at') 0 0 with
 | .error e => .error e
 | .ok (n,nx) => .ok (sgn n (7*(nx-at')),nx)
inductive Ins where
 | mk (op:Int) (n m:Nat) (type:Sig) (body els:List Ins) (hasElse:Bool) (targets:List Int)
structure Func where
 type:Int
 locals:List Int
 body:List Ins
structure Import where
 mod:List Nat
 name:List Nat
 type:Int
deriving DecidableEq,Inhabited
structure Global where
 type:Int
 wr:Bool
 n:Nat
deriving DecidableEq,Inhabited
structure Export where
 name:List Nat
 kind:Int
 n:Int
deriving DecidableEq,Inhabited
structure Data where
 at':Int
 bytes:List Nat
deriving DecidableEq,Inhabited
structure Mod where
 types:List Sig
 imports:List Import
 funcs:List Func
 pages:Int
 most:Int
 globals:List Global
 exports:List Export
 start:Int
 datas:List Data
abbrev Rd (α:Type):=List Nat->Nat->Except Flt (α × Nat)
def Rd.bind {α β:Type} (p:Rd α) (f:α->Rd β):Rd β:=fun b a=>match p b a with
 | .error e => .error e
 | .ok (x,a')=>f x b a'
def Rd.pure {α:Type} (x:α):Rd α:=fun _ a => .ok (x,a)
instance:Monad Rd where
 pure:=Rd.pure
 bind:=Rd.bind
theorem Rd.bind_apply {α β:Type} (p:Rd α) (f:α->Rd β) (b:List Nat) (a:Nat):(p >>= f) b a=match p b a with
 | .error e => .error e
 | .ok (x,a')=>f x b a':=rfl
theorem Rd.pure_apply {α:Type} (x:α) (b:List Nat) (a:Nat):(Pure.pure x:Rd α) b a = .ok (x,a):=rfl
def failAt {α:Type} (e:Int) (back:Nat):Rd α:=fun _ a => .error (e,(a:Int)-back,0)
def zE (c:Bool) (e:Int) (back:Nat):Rd Unit:=fun b a=>if c then failAt e back b a else .ok ((),a)
def byte1:Rd Nat:=fun b a=>if a=b.length then .error (4,(a:Int),0) else .ok (b.getD a 0,a+1)
def u (most:Nat) (e:Int):Rd Nat:=fun b a=>match lebU b a 32 with
 | .error f => .error f
 | .ok (n,nx)=>if most<n then .error (e,(a:Int),0) else .ok (n,nx)
def index:Rd Nat:=u 4294967295 0
def sInt (bits:Nat):Rd Int:=fun b a=>lebS b a bits
def one (l:List Int):Rd Nat:=do
 let c <-byte1
 zE (!decide ((c:Int)∈l)) 6 1
 return c
def jag {α:Type} (read:Rd α):Nat->Rd (List α)
 | 0=>Rd.pure []
 | n+1=>do
  let x <-read
  let l <-jag read n
  return x::l
def many {α:Type} (most:Nat) (read:Rd α):Rd (List α):=do
 let n <-u most 7
 jag read n
def kind:Rd Nat:=do
 let c <-byte1
 if c=127\/c=126 then return c
 else if c=125\/c=124 then failAt 11 1
 else failAt 6 1
def Jw:Rd Nat:=do
 let c <-byte1
 zE (decide (c<32)||decide (126<c)) 8 1
 return c
def name:Rd (List Nat):=many 32 Jw
def low32 (n:Int):Nat:=(n % 4294967296).toNat
def low64 (n:Int):Nat:=(n % 18446744073709551616).toNat
def Ja (t:Int):Rd Nat:=if t=127 then do return low32 (<-sInt 32) else do return low64 (<-sInt 64)
end Wm
namespace Go.Vw
def vb (n:Nat):V := .int .u8 n
theorem aqe (n:Nat):(vb n).cells=[vb n]:=by simp [vb,V.cells]
theorem ZF (l:List Nat):jF vb l=l.map vb:=by
 induction l with
 | nil=>rfl
 | cons x l ih=>simp only [jF,List.flatMap_cons,aqe,List.map_cons] at ih ⊢; rw [ih]; rfl
theorem avq (f:Nat->Nat) (n:Nat):(vb n).ren f=vb n:=by simp [vb,V.ren]
theorem avk (p:Nat->Bool) (n:Nat):(vb n).ids p=true:=by simp [vb,V.ids]
theorem aub (f:Nat->Nat) (l:List Nat):V.renL f (l.map vb)=l.map vb:=jaE f vb (avq f) l
theorem as9 (p:Nat->Bool) (l:List Nat):V.idsL p (l.map vb)=true:=jaR p vb (avk p) l
theorem aw6 (n:Nat):vb n = .int .u8 (n:Int):=nr rfl
attribute [simp] aw6 ZF aub as9
end Go.Vw
namespace Go.Vw
open Go.Proofs Go.RowKit
attribute [-simp] List.map_set
theorem aq7 (c k:Nat):(c:Int).fdiv (2^k)=((c / 2^k:Nat):Int):=by
 rw [Int.fdiv_eq_ediv_of_nonneg _ (by exact Int.le_of_lt (Int.pow_pos (by decide)))];simp
theorem Kg (n:Int):IntKind.u8.wrap n=n % 256:=by simp [IntKind.wrap,IntKind.bits,IntKind.signed]
theorem aj3 (n:Int):IntKind.u32.wrap n=n % 4294967296:=by simp [IntKind.wrap,IntKind.bits,IntKind.signed]
theorem jZ (n:Int):IntKind.u64.wrap n=n % 18446744073709551616:=by simp [IntKind.wrap,IntKind.bits,IntKind.signed]
theorem aq8 (n:Int):IntKind.i8.wrap n=(n+128) % 256-128:=by
 simp only [IntKind.wrap,IntKind.bits,IntKind.signed];simp;split<;>omega
theorem arx (c room:Nat) (hc:c<256) (hr:room<=7):bF 147 [vb c,bI room] (.bool (Wm.mayU c room)):=by
 intro S;have hm:min room 8=room:=by omega
 have hw:IntKind.u8.bits=8:=rfl;refine bE Tryz.func147 Tryz.ntmps147 fun hwf=>?_
 repeat first|refine QG ?_|refine QY ?_ (r:=by conv=>lhs;simp[QV,hm,hw,aq7])
 exact jd hwf (by simp [Wm.mayU]) rfl
theorem ag5 (c room:Nat) (hc:c<256) (hr:room<=7):bF 165 [vb c,bI room] (.bool (Wm.mayS c room)):=by
 intro S;have hm:min room 8=room:=by omega
 have hw:IntKind.i8.bits=8:=rfl;have hw2:IntKind.u8.bits=8:=rfl;have h1:=aq8;have h2:=Kg;unfold Wm.mayS;obtain ⟨h,hh⟩ : ∃ h,Wm.hiS c room=h:=⟨_,rfl⟩
 rw [hh];unfold Wm.hiS at hh;refine bE Tryz.func165 Tryz.ntmps165 fun hwf=>?_;by_cases e:h=0
 .repeat first|refine QG ?_|refine QY ?_ (r:=by conv=>lhs;simp[QV,hm,hw,hw2,h1,h2,hh,e])
  exact jd hwf (by simp [e]) rfl
 .repeat first|refine QG ?_|refine QY ?_ (r:=by conv=>lhs;simp[QV,hm,hw,hw2,h1,h2,hh,e])
  exact jd hwf (by simp [e]) rfl
def qh (e:Wm.Flt):V := .agg [bH e.1,bH e.2.1,bH e.2.2]
def lebV:Except Wm.Flt (Nat × Nat)->V
 | .error e => .tuple [.int .u64 0,bH 0,qh e]
 | .ok (n,nx) => .tuple [.int .u64 (n:Int),bI nx,qh (0,0,0)]
theorem and127 (c:Nat) (hc:c<256):IntKind.u8.wrap ((c % 2^IntKind.u8.bits &&& 127 % 2^IntKind.u8.bits:Nat):Int)=((c % 128:Nat):Int):=by
 have h1:IntKind.u8.bits=8:=rfl;rw [Kg,h1,Nat.mod_eq_of_lt (show c<2^8 from hc),show (127 % 2^8:Nat)=2^7-1 from rfl,Nat.and_two_pow_sub_one_eq_mod];omega
theorem shl64 (a k:Nat) (hk:k<=64):IntKind.u64.wrap ((a:Int)*2^min k IntKind.u64.bits)=((a*2^k % 18446744073709551616:Nat):Int):=by
 have h1:IntKind.u64.bits=64:=rfl;rw [jZ,h1,Nat.min_eq_left hk];simp
theorem or64 (a b:Nat) (ha:a<18446744073709551616) (hb:b<18446744073709551616):IntKind.u64.wrap ((a % 2^IntKind.u64.bits ||| b % 2^IntKind.u64.bits:Nat):Int)=((a ||| b:Nat):Int):=by
 have h1:IntKind.u64.bits=64:=rfl;rw [jZ,h1,Nat.mod_eq_of_lt (show a<2^64 from ha),Nat.mod_eq_of_lt (show b<2^64 from hb)];have:=Nat.or_lt_two_pow (n:=64) ha hb;omega
theorem jdy (g:FuncId) (may:Nat->Nat->Bool) (hg:jE Tryz.prog g=true) (hmay : ∀ c room,c<256->room<=7->bF g [vb c,bI room] (.bool (may c room))) (b:List Nat) (at':Nat) (hb : ∀ x∈b,x<256) (hl:b.length<=1048576) (hat:at'<=b.length) :
  bF 146 [vl vb b,bI at',bH 32, .func g []] (lebV (Wm.lebGo may 32 b.length at' (b.drop at') 0 0)):=by
 intro S;have hat1 : ¬ (at':Int)<0:=by omega
 have hat2 : ¬ (b.length:Int)<(at':Int):=by omega
 obtain ⟨gd,hgd⟩ : ∃ gd,Wm.lebGo may 32 b.length at' (b.drop at') 0 0=gd:=⟨_,rfl⟩
 rw [hgd];refine qm (c:=jf Tryz.f146) Tryz.func146 rfl (by conv=>lhs; reduce) (by simp [Tryz.ntmps146]) ?_;rw [Tryz.ntmps146];intro hwf;refine bj hat1 hat2 hat ?_;refine bB [0,1,2,3,10,11,35,36,37] (fun c σ S' => ∃ (k n:Nat),k<=b.length-at'/\c=b.length-at'-k/\n<18446744073709551616/\7*k<32/\Wm.lebGo may 32 b.length at' (b.drop (at'+k)) k n=gd/\σ=[(0,vl vb b),(1, .int .i64 (at':Int)),(2, .int .i64 32),(3, .func g []),(10, .ptr (lid S.nx 0) 0),(11, .int .u64 (n:Int)),(35,vl vb (b.drop at')),(36, .int .i64 ((b.length-at':Nat):Int)),(37,bI k)]/\S'=St S [] [some (3,[.int .i64 0, .int .i64 0, .int .i64 0])]) (b.length-at') ?_ ?_
 .exact ⟨0,0,by omega,rfl,by omega,by omega,hgd,by simp [Fr.oy],rfl⟩
 .rintro c σ T ⟨k,n,hk,rfl,hn,h7,hd,rfl,rfl⟩;by_cases hkt:k<b.length-at'
  .have hkb:at'+k<b.length:=by omega
   have hw:=jP hkt (by omega);obtain ⟨x,hx⟩ : ∃ x,b[at'+k]=x:=⟨_,rfl⟩
   have hx256:x<256:=by rw [<-hx]; exact hb _ (ah hkb)
   rw [aj hkb,hx,Wm.lebGo] at hd;have hxd:(b.drop at')[k]? = some x:=by rw [List.getElem?_drop,aa hkb,hx]
   have e1:=and127 x hx256;have e2:IntKind.u64.wrap ((x % 128:Nat):Int)=((x % 128:Nat):Int):=by rw [jZ]; omega
   have e3:IntKind.i64.wrap (7*(k:Int))=7*(k:Int):=by rw [wrap_i64 (by omega) (by omega)]
   have e3a:(0:Int)<=7*(k:Int):=by omega
   have e3b:(7*(k:Int)).toNat=7*k:=by omega
   have e4:=shl64 (x % 128) (7*k) (by omega);have e5:=or64 n (x % 128*2^(7*k) % 18446744073709551616) hn (Nat.mod_lt _ (by decide));obtain ⟨n',hn'⟩ : ∃ n',n ||| x % 128*2^(7*k) % 18446744073709551616=n':=⟨_,rfl⟩
   rw [hn'] at e5 hd;have hn64:n'<18446744073709551616:=by rw [<-hn']; exact Nat.or_lt_two_pow (n:=64) hn (Nat.mod_lt _ (by decide))
   generalize x % 128*2^(7*k) % 18446744073709551616=y at *
   generalize x % 128=xm at *
   have e6:IntKind.i64.wrap (32-7*(k:Int))=((32-7*k:Nat):Int):=by rw [wrap_i64 (by omega) (by omega)]; omega
   repeat first|refine QG ?_|refine QY ?_ (r:=by conv=>lhs;simp[QV,hkt,hx,e1,e2,e3,e3a,e3b,e4,e5,e6])
   obtain ⟨rm,hrm⟩ : ∃ rm,32-7*k=rm:=⟨_,rfl⟩
   rw [hrm] at hd ⊢;by_cases hx127:127<x
   .have hx128 : ¬ x<128:=by omega
    have ix128 : ¬ (x:Int)<128:=by omega
    have ix127:(127:Int)<(x:Int):=by omega
    by_cases hP:32<=7*k+7
    .have hr7:rm<=7:=by omega
     have ir7:(rm:Int)<=7:=by omega
     rw [if_pos ⟨hP, .inl hx127⟩] at hd;subst hd;have hwa:IntKind.i64.wrap ((at':Int)+(k:Int))=(at':Int)+(k:Int):=wrap_i64 (by omega) (by omega);refine bj ir7 ix127 hwa ?_;exact JZ (by simp; rfl) (jd hwf (by simp [lebV,qh]) rfl)
    .have ir7 : ¬ (rm:Int)<=7:=by omega
     rw [if_neg (fun h=>hP h.1),if_neg hx128] at hd;refine bm ir7 ix128 ?_;refine QA [0] (h:=⟨?_,k+1,n',hkt,rfl,hn64,by omega,by rw [<-Nat.add_assoc]; exact hd,by simp [hw],rfl⟩);omega
   .have hx128:x<128:=by omega
    have ix128:(x:Int)<128:=by omega
    have ix127 : ¬ (127:Int)<(x:Int):=by omega
    have hwa:IntKind.i64.wrap ((at':Int)+(k:Int))=(at':Int)+(k:Int):=wrap_i64 (by omega) (by omega);have hwb:IntKind.i64.wrap ((at':Int)+(k:Int)+1)=(at':Int)+(k:Int)+1:=wrap_i64 (by omega) (by omega);by_cases hP:32<=7*k+7
    .have hr7:rm<=7:=by omega
     have ir7:(rm:Int)<=7:=by omega
     have hm:=hmay x rm hx256 hr7;refine QP ?_ (r:=by conv=>lhs;simp[QV,ir7,ix127]);refine jcQ hm (by rfl) hg (by rfl) ?_;cases hmx:may x rm with
     | false =>
      rw [if_pos ⟨hP, .inr hmx⟩] at hd;subst hd;refine QW ?_;refine bi hwa ?_;exact JZ (by simp; rfl) (jd hwf (by simp [lebV,qh]) rfl)
     | true =>
      rw [if_neg (by rintro ⟨_,h | h⟩; exact hx127 h; rw [hmx] at h; cases h),if_pos hx128] at hd;subst hd;refine QW ?_;refine bj ix128 hwa hwb ?_;exact JZ (by simp; rfl) (jd hwf (by simp [lebV,qh]) rfl)
    .have ir7 : ¬ (rm:Int)<=7:=by omega
     rw [if_neg (fun h=>hP h.1),if_pos hx128] at hd;subst hd;refine bq ir7 ix128 hwa hwb ?_;exact JZ (by simp; rfl) (jd hwf (by simp [lebV,qh]) rfl)
  .have hkb:b.drop (at'+k)=[]:=by rw [aA]; omega
   rw [hkb,Wm.lebGo] at hd;subst hd;refine bi hkt ?_;exact JZ (by simp; rfl) (jd hwf (by simp [lebV,qh]) rfl)
theorem agb (g:FuncId) (may:Nat->Nat->Bool) (hg:jE Tryz.prog g=true) (hmay : ∀ c room,c<256->room<=7->bF g [vb c,bI room] (.bool (may c room))) (b:List Nat) (at':Nat) (hb : ∀ x∈b,x<256) (hl:b.length<=1048576) (hat:at'<=b.length) :
  bF 146 [vl vb b,bI at',bH 64, .func g []] (lebV (Wm.lebGo may 64 b.length at' (b.drop at') 0 0)):=by
 intro S;have hat1 : ¬ (at':Int)<0:=by omega
 have hat2 : ¬ (b.length:Int)<(at':Int):=by omega
 obtain ⟨gd,hgd⟩ : ∃ gd,Wm.lebGo may 64 b.length at' (b.drop at') 0 0=gd:=⟨_,rfl⟩
 rw [hgd];refine qm (c:=jf Tryz.f146) Tryz.func146 rfl (by conv=>lhs; reduce) (by simp [Tryz.ntmps146]) ?_;rw [Tryz.ntmps146];intro hwf;refine bj hat1 hat2 hat ?_;refine bB [0,1,2,3,10,11,35,36,37] (fun c σ S' => ∃ (k n:Nat),k<=b.length-at'/\c=b.length-at'-k/\n<18446744073709551616/\7*k<64/\Wm.lebGo may 64 b.length at' (b.drop (at'+k)) k n=gd/\σ=[(0,vl vb b),(1, .int .i64 (at':Int)),(2, .int .i64 64),(3, .func g []),(10, .ptr (lid S.nx 0) 0),(11, .int .u64 (n:Int)),(35,vl vb (b.drop at')),(36, .int .i64 ((b.length-at':Nat):Int)),(37,bI k)]/\S'=St S [] [some (3,[.int .i64 0, .int .i64 0, .int .i64 0])]) (b.length-at') ?_ ?_
 .exact ⟨0,0,by omega,rfl,by omega,by omega,hgd,by simp [Fr.oy],rfl⟩
 .rintro c σ T ⟨k,n,hk,rfl,hn,h7,hd,rfl,rfl⟩;by_cases hkt:k<b.length-at'
  .have hkb:at'+k<b.length:=by omega
   have hw:=jP hkt (by omega);obtain ⟨x,hx⟩ : ∃ x,b[at'+k]=x:=⟨_,rfl⟩
   have hx256:x<256:=by rw [<-hx]; exact hb _ (ah hkb)
   rw [aj hkb,hx,Wm.lebGo] at hd;have hxd:(b.drop at')[k]? = some x:=by rw [List.getElem?_drop,aa hkb,hx]
   have e1:=and127 x hx256;have e2:IntKind.u64.wrap ((x % 128:Nat):Int)=((x % 128:Nat):Int):=by rw [jZ]; omega
   have e3:IntKind.i64.wrap (7*(k:Int))=7*(k:Int):=by rw [wrap_i64 (by omega) (by omega)]
   have e3a:(0:Int)<=7*(k:Int):=by omega
   have e3b:(7*(k:Int)).toNat=7*k:=by omega
   have e4:=shl64 (x % 128) (7*k) (by omega);have e5:=or64 n (x % 128*2^(7*k) % 18446744073709551616) hn (Nat.mod_lt _ (by decide));obtain ⟨n',hn'⟩ : ∃ n',n ||| x % 128*2^(7*k) % 18446744073709551616=n':=⟨_,rfl⟩
   rw [hn'] at e5 hd;have hn64:n'<18446744073709551616:=by rw [<-hn']; exact Nat.or_lt_two_pow (n:=64) hn (Nat.mod_lt _ (by decide))
   generalize x % 128*2^(7*k) % 18446744073709551616=y at *
   generalize x % 128=xm at *
   have e6:IntKind.i64.wrap (64-7*(k:Int))=((64-7*k:Nat):Int):=by rw [wrap_i64 (by omega) (by omega)]; omega
   repeat first|refine QG ?_|refine QY ?_ (r:=by conv=>lhs;simp[QV,hkt,hx,e1,e2,e3,e3a,e3b,e4,e5,e6])
   obtain ⟨rm,hrm⟩ : ∃ rm,64-7*k=rm:=⟨_,rfl⟩
   rw [hrm] at hd ⊢;by_cases hx127:127<x
   .have hx128 : ¬ x<128:=by omega
    have ix128 : ¬ (x:Int)<128:=by omega
    have ix127:(127:Int)<(x:Int):=by omega
    by_cases hP:64<=7*k+7
    .have hr7:rm<=7:=by omega
     have ir7:(rm:Int)<=7:=by omega
     rw [if_pos ⟨hP, .inl hx127⟩] at hd;subst hd;have hwa:IntKind.i64.wrap ((at':Int)+(k:Int))=(at':Int)+(k:Int):=wrap_i64 (by omega) (by omega);refine bj ir7 ix127 hwa ?_;exact JZ (by simp; rfl) (jd hwf (by simp [lebV,qh]) rfl)
    .have ir7 : ¬ (rm:Int)<=7:=by omega
     rw [if_neg (fun h=>hP h.1),if_neg hx128] at hd;refine bm ir7 ix128 ?_;refine QA [0] (h:=⟨?_,k+1,n',hkt,rfl,hn64,by omega,by rw [<-Nat.add_assoc]; exact hd,by simp [hw],rfl⟩);omega
   .have hx128:x<128:=by omega
    have ix128:(x:Int)<128:=by omega
    have ix127 : ¬ (127:Int)<(x:Int):=by omega
    have hwa:IntKind.i64.wrap ((at':Int)+(k:Int))=(at':Int)+(k:Int):=wrap_i64 (by omega) (by omega);have hwb:IntKind.i64.wrap ((at':Int)+(k:Int)+1)=(at':Int)+(k:Int)+1:=wrap_i64 (by omega) (by omega);by_cases hP:64<=7*k+7
    .have hr7:rm<=7:=by omega
     have ir7:(rm:Int)<=7:=by omega
     have hm:=hmay x rm hx256 hr7;refine QP ?_ (r:=by conv=>lhs;simp[QV,ir7,ix127]);refine jcQ hm (by rfl) hg (by rfl) ?_;cases hmx:may x rm with
     | false =>
      rw [if_pos ⟨hP, .inr hmx⟩] at hd;subst hd;refine QW ?_;refine bi hwa ?_;exact JZ (by simp; rfl) (jd hwf (by simp [lebV,qh]) rfl)
     | true =>
      rw [if_neg (by rintro ⟨_,h | h⟩; exact hx127 h; rw [hmx] at h; cases h),if_pos hx128] at hd;subst hd;refine QW ?_;refine bj ix128 hwa hwb ?_;exact JZ (by simp; rfl) (jd hwf (by simp [lebV,qh]) rfl)
    .have ir7 : ¬ (rm:Int)<=7:=by omega
     rw [if_neg (fun h=>hP h.1),if_pos hx128] at hd;subst hd;refine bq ir7 ix128 hwa hwb ?_;exact JZ (by simp; rfl) (jd hwf (by simp [lebV,qh]) rfl)
  .have hkb:b.drop (at'+k)=[]:=by rw [aA]; omega
   rw [hkb,Wm.lebGo] at hd;subst hd;refine bi hkt ?_;exact JZ (by simp; rfl) (jd hwf (by simp [lebV,qh]) rfl)
theorem U_v (b:List Nat) (at':Nat) (hb : ∀ x∈b,x<256) (hl:b.length<=1048576) (hat:at'<=b.length):bF 133 [vl vb b,bI at',bH 32] (lebV (Wm.lebU b at' 32)):=by
 have cr:=jdy 147 Wm.mayU rfl arx b at' hb hl hat;unfold Wm.lebU;intro S;cases hq:Wm.lebGo Wm.mayU 32 b.length at' (b.drop at') 0 0 with
 | error e =>
  rw [hq] at cr;obtain ⟨e1,e2,e3⟩:=e;have cr':bF 146 [vl vb b,bI at',bH 32, .func 147 []] (.tuple [.int .u64 0, .int .i64 0, .agg [.int .i64 e1, .int .i64 e2, .int .i64 e3]]):=cr;refine qm (c:=jf Tryz.f133) Tryz.func133 rfl (by conv=>lhs; reduce) (by simp [Tryz.ntmps133]) ?_;rw [Tryz.ntmps133];intro hwf;refine bk ?_;refine QP ?_;refine QL (cr') ?_;refine bz ?_;exact JZ (by simp; rfl) (jd hwf (by simp [lebV,qh]) rfl)
 | ok r =>
  rw [hq] at cr;obtain ⟨n,nx⟩:=r;have cr':bF 146 [vl vb b,bI at',bH 32, .func 147 []] (.tuple [.int .u64 n, .int .i64 nx, .agg [.int .i64 0, .int .i64 0, .int .i64 0]]):=cr;refine qm (c:=jf Tryz.f133) Tryz.func133 rfl (by conv=>lhs; reduce) (by simp [Tryz.ntmps133]) ?_;rw [Tryz.ntmps133];intro hwf;refine bk ?_;refine QP ?_;refine QL (cr') ?_;refine bz ?_;exact JZ (by simp; rfl) (jd hwf (by simp [lebV,qh]) rfl)
def lebSV:Except Wm.Flt (Int × Nat)->V
 | .error e => .tuple [.int .i64 0,bH 0,qh e]
 | .ok (n,nx) => .tuple [.int .i64 n,bI nx,qh (0,0,0)]
theorem Kt:WN (P:=Tryz.prog) (t:=33) 0=true:=by rw [Yl]; kernel_rfl
theorem Yi {may:Nat->Nat->Bool} {size len at':Nat} : ∀ {l:List Nat} {i n:Nat} {e:Wm.Flt},Wm.lebGo may size len at' l i n = .error e->e.1≠0/\e.2.2=0
 | [],i,n,e,h=>by simp only [Wm.lebGo,Except.error.injEq] at h; subst h; simp
 | c::l,i,n,e,h=>by
  simp only [Wm.lebGo] at h;split at h
  .cases h; simp
  .split at h
   .cases h
   .exact Yi h
theorem ZD {may:Nat->Nat->Bool} {size len at':Nat} : ∀ {l:List Nat} {i n m nx:Nat},Wm.lebGo may size len at' l i n = .ok (m,nx)->n<18446744073709551616->7*i<size->at'+i<nx/\nx<=at'+i+l.length/\m<18446744073709551616/\7*(nx-at')<size+7
 | [],i,n,m,nx,h,_,_=>by simp [Wm.lebGo] at h
 | c::l,i,n,m,nx,h,hn,hi=>by
  have hn':(n ||| c % 128*2^(7*i) % 18446744073709551616)<18446744073709551616:=Nat.or_lt_two_pow (n:=64) hn (Nat.mod_lt _ (by decide));simp only [Wm.lebGo] at h;split at h
  .cases h
  .rename_i hc;split at h
   .cases h; simp only [av]; exact ⟨by omega,by omega,hn',by omega⟩
   .rename_i hx;have hsz : ¬ size<=7*i+7:=fun hs=>hc ⟨hs, .inl (by omega)⟩;obtain ⟨h1,h2,h3,h4⟩:=ZD h hn' (by omega);simp only [av];exact ⟨by omega,by omega,h3,h4⟩
theorem axa (b:List Nat) (at':Nat) (hb : ∀ x∈b,x<256) (hl:b.length<=1048576) (hat:at'<=b.length):bF 148 [vl vb b,bI at',bH 32] (lebSV (Wm.lebS b at' 32)):=by
 have cr:=jdy 165 Wm.mayS rfl ag5 b at' hb hl hat;have hff:=Kt;unfold Wm.lebS;intro S;cases hq:Wm.lebGo Wm.mayS 32 b.length at' (b.drop at') 0 0 with
 | error e =>
  rw [hq] at cr;have he:=(Yi hq).1;obtain ⟨e1,e2,e3⟩:=e;have he1 : ¬ e1=0:=he;have cr':bF 146 [vl vb b,bI at',bH 32, .func 165 []] (.tuple [.int .u64 0, .int .i64 0, .agg [.int .i64 e1, .int .i64 e2, .int .i64 e3]]):=cr;simp only;refine qm (c:=jf Tryz.f148) Tryz.func148 rfl (by conv=>lhs; reduce) (by simp [Tryz.ntmps148]) ?_;rw [Tryz.ntmps148];intro hwf;refine bk ?_;refine QP ?_;refine QL (cr') ?_;refine QW ?_
  repeat first|refine QG ?_|refine QY ?_ (r:=by conv=>lhs;simp[QV,hff,he1,qu,qq,qn])
  refine bD (St S [] [none,some (3,[.int .i64 e1, .int .i64 e2, .int .i64 e3])]) (St S [] [some (3,[.int .i64 0, .int .i64 0, .int .i64 0]),some (3,[.int .i64 e1, .int .i64 e2, .int .i64 e3])]) [] ?_ (r:=by conv=>lhs; simp [QV]);refine QI ?_;refine bz ?_;exact JZ (by simp; rfl) (jd hwf (by simp [lebSV,qh]) rfl)
 | ok r =>
  rw [hq] at cr;obtain ⟨n,nx⟩:=r;obtain ⟨k1,k2,k3,k4⟩:=ZD hq (by omega) (by omega);have cr':bF 146 [vl vb b,bI at',bH 32, .func 165 []] (.tuple [.int .u64 n, .int .i64 nx, .agg [.int .i64 0, .int .i64 0, .int .i64 0]]):=cr;simp only;rw [List.length_drop] at k2;obtain ⟨us,hus⟩ : ∃ us,7*(nx-at')=us:=⟨_,rfl⟩
  rw [hus];have w1:IntKind.i64.wrap ((nx:Int)-(at':Int))=((nx-at':Nat):Int):=by rw [wrap_i64 (by omega) (by omega)]; omega
  have w2:IntKind.i64.wrap (7*((nx-at':Nat):Int))=(us:Int):=by rw [wrap_i64 (by omega) (by omega)]; omega
  have hu0:Wm.sgn n us=if us<64 then (Wm.i64 (n*2^(64-us))).fdiv (2^(64-us)) else Wm.i64 n:=rfl
  by_cases hu:us<64
  .rw [if_pos hu] at hu0;have iu:(us:Int)<64:=by omega
   have w3:IntKind.i64.wrap (64-(us:Int))=((64-us:Nat):Int):=by rw [wrap_i64 (by omega) (by omega)]; omega
   obtain ⟨sh,hsh⟩ : ∃ sh,64-us=sh:=⟨_,rfl⟩
   rw [hsh] at hu0 w3;have w4:=shl64 n sh (by omega);have w5:IntKind.i64.wrap ((n*2^sh % 18446744073709551616:Nat):Int)=Wm.i64 (n*2^sh):=by rw [IntKind.wrap_i64,Wm.i64]; omega
   have w6:min sh IntKind.i64.bits=sh:=by have:IntKind.i64.bits=64:=rfl; omega
   have w7:(sh:Int).toNat=sh:=by omega
   obtain ⟨sg,hsg⟩ : ∃ sg,Wm.sgn n us=sg:=⟨_,rfl⟩
   rw [hsg] at hu0 ⊢;obtain ⟨y,hy⟩ : ∃ y,n*2^sh % 18446744073709551616=y:=⟨_,rfl⟩
   obtain ⟨iy,hiy⟩ : ∃ iy,Wm.i64 (n*2^sh)=iy:=⟨_,rfl⟩
   rw [hy] at w4 w5;rw [hiy] at w5 hu0;have hu1:=hu0.symm;refine qm (c:=jf Tryz.f148) Tryz.func148 rfl (by conv=>lhs; reduce) (by simp [Tryz.ntmps148]) ?_;rw [Tryz.ntmps148];intro hwf;refine bk ?_;refine QP ?_;refine QL (cr') ?_;refine QW ?_
   repeat first|refine QG ?_|refine QY ?_ (r:=by conv=>lhs;simp[QV,hff,qu,qq,qn,w1,w2,iu])
   refine bD (St S [] [none,some (3,[.int .i64 0, .int .i64 0, .int .i64 0])]) (St S [] [some (3,[.int .i64 0, .int .i64 0, .int .i64 0]),some (3,[.int .i64 0, .int .i64 0, .int .i64 0])]) [] ?_ (r:=by conv=>lhs; simp [QV,w3,w4,w5,w6,hu1]);refine QI ?_;refine QM (by conv=>lhs;simp[QV,w3,w4,w5,w6,hu1]) ?_;refine bA ?_;exact JZ (by simp; rfl) (jd hwf (by simp [lebSV,qh]) rfl)
  .rw [if_neg hu] at hu0;have iu : ¬ (us:Int)<64:=by omega
   have w5:IntKind.i64.wrap (n:Int)=Wm.i64 n:=by rw [IntKind.wrap_i64,Wm.i64]
   rw [hu0];refine qm (c:=jf Tryz.f148) Tryz.func148 rfl (by conv=>lhs; reduce) (by simp [Tryz.ntmps148]) ?_;rw [Tryz.ntmps148];intro hwf;refine bk ?_;refine QP ?_;refine QL (cr') ?_;refine QW ?_
   repeat first|refine QG ?_|refine QY ?_ (r:=by conv=>lhs;simp[QV,hff,qu,qq,qn,w1,w2,iu])
   refine bD (St S [] [none,some (3,[.int .i64 0, .int .i64 0, .int .i64 0])]) (St S [] [some (3,[.int .i64 0, .int .i64 0, .int .i64 0]),some (3,[.int .i64 0, .int .i64 0, .int .i64 0])]) [] ?_ (r:=by conv=>lhs; simp [QV,w5]);refine QI ?_;refine bv w5 ?_;refine bA ?_;exact JZ (by simp; rfl) (jd hwf (by simp [lebSV,qh]) rfl)
theorem aw9 (b:List Nat) (at':Nat) (hb : ∀ x∈b,x<256) (hl:b.length<=1048576) (hat:at'<=b.length):bF 148 [vl vb b,bI at',bH 64] (lebSV (Wm.lebS b at' 64)):=by
 have cr:=agb 165 Wm.mayS rfl ag5 b at' hb hl hat;have hff:=Kt;unfold Wm.lebS;intro S;cases hq:Wm.lebGo Wm.mayS 64 b.length at' (b.drop at') 0 0 with
 | error e =>
  rw [hq] at cr;have he:=(Yi hq).1;obtain ⟨e1,e2,e3⟩:=e;have he1 : ¬ e1=0:=he;have cr':bF 146 [vl vb b,bI at',bH 64, .func 165 []] (.tuple [.int .u64 0, .int .i64 0, .agg [.int .i64 e1, .int .i64 e2, .int .i64 e3]]):=cr;simp only;refine qm (c:=jf Tryz.f148) Tryz.func148 rfl (by conv=>lhs; reduce) (by simp [Tryz.ntmps148]) ?_;rw [Tryz.ntmps148];intro hwf;refine bk ?_;refine QP ?_;refine QL (cr') ?_;refine QW ?_
  repeat first|refine QG ?_|refine QY ?_ (r:=by conv=>lhs;simp[QV,hff,he1,qu,qq,qn])
  refine bD (St S [] [none,some (3,[.int .i64 e1, .int .i64 e2, .int .i64 e3])]) (St S [] [some (3,[.int .i64 0, .int .i64 0, .int .i64 0]),some (3,[.int .i64 e1, .int .i64 e2, .int .i64 e3])]) [] ?_ (r:=by conv=>lhs; simp [QV]);refine QI ?_;refine bz ?_;exact JZ (by simp; rfl) (jd hwf (by simp [lebSV,qh]) rfl)
 | ok r =>
  rw [hq] at cr;obtain ⟨n,nx⟩:=r;obtain ⟨k1,k2,k3,k4⟩:=ZD hq (by omega) (by omega);have cr':bF 146 [vl vb b,bI at',bH 64, .func 165 []] (.tuple [.int .u64 n, .int .i64 nx, .agg [.int .i64 0, .int .i64 0, .int .i64 0]]):=cr;simp only;rw [List.length_drop] at k2;obtain ⟨us,hus⟩ : ∃ us,7*(nx-at')=us:=⟨_,rfl⟩
  rw [hus];have w1:IntKind.i64.wrap ((nx:Int)-(at':Int))=((nx-at':Nat):Int):=by rw [wrap_i64 (by omega) (by omega)]; omega
  have w2:IntKind.i64.wrap (7*((nx-at':Nat):Int))=(us:Int):=by rw [wrap_i64 (by omega) (by omega)]; omega
  have hu0:Wm.sgn n us=if us<64 then (Wm.i64 (n*2^(64-us))).fdiv (2^(64-us)) else Wm.i64 n:=rfl
  by_cases hu:us<64
  .rw [if_pos hu] at hu0;have iu:(us:Int)<64:=by omega
   have w3:IntKind.i64.wrap (64-(us:Int))=((64-us:Nat):Int):=by rw [wrap_i64 (by omega) (by omega)]; omega
   obtain ⟨sh,hsh⟩ : ∃ sh,64-us=sh:=⟨_,rfl⟩
   rw [hsh] at hu0 w3;have w4:=shl64 n sh (by omega);have w5:IntKind.i64.wrap ((n*2^sh % 18446744073709551616:Nat):Int)=Wm.i64 (n*2^sh):=by rw [IntKind.wrap_i64,Wm.i64]; omega
   have w6:min sh IntKind.i64.bits=sh:=by have:IntKind.i64.bits=64:=rfl; omega
   have w7:(sh:Int).toNat=sh:=by omega
   obtain ⟨sg,hsg⟩ : ∃ sg,Wm.sgn n us=sg:=⟨_,rfl⟩
   rw [hsg] at hu0 ⊢;obtain ⟨y,hy⟩ : ∃ y,n*2^sh % 18446744073709551616=y:=⟨_,rfl⟩
   obtain ⟨iy,hiy⟩ : ∃ iy,Wm.i64 (n*2^sh)=iy:=⟨_,rfl⟩
   rw [hy] at w4 w5;rw [hiy] at w5 hu0;have hu1:=hu0.symm;refine qm (c:=jf Tryz.f148) Tryz.func148 rfl (by conv=>lhs; reduce) (by simp [Tryz.ntmps148]) ?_;rw [Tryz.ntmps148];intro hwf;refine bk ?_;refine QP ?_;refine QL (cr') ?_;refine QW ?_
   repeat first|refine QG ?_|refine QY ?_ (r:=by conv=>lhs;simp[QV,hff,qu,qq,qn,w1,w2,iu])
   refine bD (St S [] [none,some (3,[.int .i64 0, .int .i64 0, .int .i64 0])]) (St S [] [some (3,[.int .i64 0, .int .i64 0, .int .i64 0]),some (3,[.int .i64 0, .int .i64 0, .int .i64 0])]) [] ?_ (r:=by conv=>lhs; simp [QV,w3,w4,w5,w6,hu1]);refine QI ?_;refine QM (by conv=>lhs;simp[QV,w3,w4,w5,w6,hu1]) ?_;refine bA ?_;exact JZ (by simp; rfl) (jd hwf (by simp [lebSV,qh]) rfl)
  .rw [if_neg hu] at hu0;have iu : ¬ (us:Int)<64:=by omega
   have w5:IntKind.i64.wrap (n:Int)=Wm.i64 n:=by rw [IntKind.wrap_i64,Wm.i64]
   rw [hu0];refine qm (c:=jf Tryz.f148) Tryz.func148 rfl (by conv=>lhs; reduce) (by simp [Tryz.ntmps148]) ?_;rw [Tryz.ntmps148];intro hwf;refine bk ?_;refine QP ?_;refine QL (cr') ?_;refine QW ?_
   repeat first|refine QG ?_|refine QY ?_ (r:=by conv=>lhs;simp[QV,hff,qu,qq,qn,w1,w2,iu])
   refine bD (St S [] [none,some (3,[.int .i64 0, .int .i64 0, .int .i64 0])]) (St S [] [some (3,[.int .i64 0, .int .i64 0, .int .i64 0]),some (3,[.int .i64 0, .int .i64 0, .int .i64 0])]) [] ?_ (r:=by conv=>lhs; simp [QV,w5]);refine QI ?_;refine bv w5 ?_;refine bA ?_;exact JZ (by simp; rfl) (jd hwf (by simp [lebSV,qh]) rfl)
end Go.Vw
namespace Wm
def lebZ (last:Int->Bool):Nat->Int->List Nat
 | 0,n=>[(n % 128).toNat]
 | k+1,n=>if last n then [(n % 128).toNat] else ((n % 128).toNat+128)::lebZ last k (n / 128)
def jai (n:Int):Bool:=n / 128==0
def Wl (n:Int):Bool:=n / 64==0||n / 64 == -1
def uW (n:Int):List Nat:=lebZ jai 9 n
def sW (n:Int):List Nat:=lebZ Wl 9 n
theorem YA (last:Int->Bool) : ∀ (f:Nat) (n:Int),(lebZ last f n).length<=f+1
 | 0,n=>by simp [lebZ]
 | f+1,n=>by
  have:=YA last f (n / 128);simp only [lebZ];split
  .simp
  .simp only [av]; omega
end Wm
namespace Go.Vw
open Go.Proofs Go.RowKit Wm
attribute [-simp] List.map_set
theorem ag3 (n:Int):IntKind.u8.wrap (((IntKind.u8.wrap n % 2^IntKind.u8.bits).toNat ||| 128 % 2^IntKind.u8.bits:Nat):Int)=(((n % 128).toNat+128:Nat):Int):=by
 have key : ∀ c:Fin 256,c.val ||| 128=c.val % 128+128:=by decide +kernel
 have h1:IntKind.u8.bits=8:=rfl;have hc:(n % 256).toNat<256:=by omega
 have:=key ⟨(n % 256).toNat,hc⟩;simp only at this;have e:(n % 256 % (2:Int)^8).toNat=(n % 256).toNat:=by omega
 rw [Kg,Kg,h1,e,show (128 % 2^8:Nat)=128 from rfl,this];omega
theorem ae9 (n:Int):IntKind.u8.wrap (((IntKind.u8.wrap n % 2^IntKind.u8.bits).toNat &&& 127 % 2^IntKind.u8.bits:Nat):Int)=(((n % 128).toNat:Nat):Int):=by
 have key : ∀ c:Fin 256,c.val &&& 127=c.val % 128:=by decide +kernel
 have h1:IntKind.u8.bits=8:=rfl;have hc:(n % 256).toNat<256:=by omega
 have:=key ⟨(n % 256).toNat,hc⟩;simp only at this;have e:(n % 256 % (2:Int)^8).toNat=(n % 256).toNat:=by omega
 rw [Kg,Kg,h1,e,show (127 % 2^8:Nat)=127 from rfl,this];omega
theorem jaW (n:Int) (k:Nat):n.fdiv (2^k)=n / (2^k):=Int.fdiv_eq_ediv_of_nonneg _ (Int.le_of_lt (Int.pow_pos (by decide)))
theorem adb (S:Store) (l:List Nat) (hl:l.length<=100000000000000):bG 125 [vl vb l] S (fun r T=>r = .slice (lid S.nx 0) 0 l.length/\T=St S [] [some (1,l.map vb)]):=by
 refine bE Tryz.func125 Tryz.ntmps125 fun hwf=>?_;refine QY ?_;refine QT ?_;refine acn (l:=l.map vb) rfl rfl (by rfl) rfl rfl rfl rfl (by rfl) rfl rfl Tryz.underlying22 rfl ?_;intro b hb;simp only [Fr.set];by_cases h:b=true
 .have hl0:l=[]:=by simpa using hb h
  subst hl0;subst h;refine bk ?_;exact ⟨_,_,(Ghost.nils (St S [] []) 1).toB _,by rw [jH]; rfl,by rw [qT]; rfl⟩
 .have h':b=false:=by simpa using h
  subst h';have hb1:l.length*1<=140737488355328:=by omega
  have hb2:l.length<=140737488355328:=by omega
  have hap:jB 1 1 (St S [] [some (1,[])]) (.slice (lid S.nx 0) 0 0) (vl vb l)=some (.slice (lid S.nx 1) 0 l.length,St S [] [none,some (1,l.map vb)]):=by
   have:=Kc (S:=St S [] [some (1,[])]) (s:=1) (b:=1) (enc:=vb) (o:=lid S.nx 0) (len:=0) (cells:=[]) (l:=l) (fun _=>rfl) (by simp) (by simp) (by omega) (by omega);rw [this,ZF,jH,YQ (by simp),qT,aS]
   rfl
  repeat first|refine QG ?_|refine QY ?_ (r:=by conv=>lhs;simp[QV,hap,rep0])
  exact jgd [1] hwf (by decide) (by simp) (by simp; rfl) (by simp; rfl) ⟨by simp,by simp⟩
theorem av4 (last:Int->Bool) (inv:Nat->Int->Prop) (fid:FuncId) (hc:jE Tryz.prog fid=true) (hlast : ∀ n:Int,0<=n->n<18446744073709551616->bF fid [.int .u64 n] (.bool (last n))) (hi0 : ∀ n,inv 0 n->last n=true) (hi1 : ∀ f n,inv (f+1) n->last n=false->inv f (n / 128))
  (bs:List Nat) (f:Nat) (n:Int) (hlo:0<=n) (hhi:n<18446744073709551616) (hf:inv f n) (hl:bs.length+f<=99999999999990) (S:Store):bG 85 [vl vb bs, .int .u64 n, .func fid []] S (fun r T=>r = .slice (lid S.nx 0) 0 (bs++lebZ last f n).length/\T=St S [] [some (1,(bs++lebZ last f n).map vb)]):=by
 refine bE Tryz.func85 Tryz.ntmps85 fun hwf=>?_;refine bk ?_;refine QP ?_;refine Kn rfl (adb _ bs (by omega)) ?_;rintro r T ⟨rfl,rfl⟩;obtain ⟨res,hres⟩ : ∃ res,bs++lebZ last f n=res:=⟨_,rfl⟩
 rw [hres];rw [show St (St S [] []) [] [some (1,bs.map vb)]=St S [] [some (1,bs.map vb)] by rw [jh hwf]];rw [show (St S [] []).nx=S.nx by rw [jH]; rfl];refine bz ?_;refine bB [1,2,7] (fun k σ T => ∃ (cur:Int) (out:List Nat),0<=cur/\cur<18446744073709551616/\inv k cur/\out++lebZ last k cur=res/\out.length+k<=99999999999990/\σ=[(1, .int .u64 cur),(2, .func fid []),(7, .slice (lid S.nx 0) 0 out.length)]/\T=St S [] [some (1,out.map vb)]) f ?_ ?_
 .exact ⟨n,bs,hlo,hhi,hf,hres,hl,by simp [Fr.oy],rfl⟩
 .rintro k σ T ⟨cur,out,c1,c2,hk,ho,hol,rfl,rfl⟩;have hb:IntKind.u64.bits=64:=rfl;have hx1:=ag3 cur;have hx2:=ae9 cur;have hst:lebZ last k cur=if last cur=true then [(cur % 128).toNat] else lebZ last k cur:=by
   cases k with
   | zero=>rw [hi0 cur hk]; rfl
   | succ k=>simp only [lebZ]; split<;>rfl
  obtain ⟨g,hg⟩ : ∃ g,(cur % 128).toNat=g:=⟨_,rfl⟩
  rw [hg] at hx1 hx2 hst;refine QP ?_;refine zh rfl hc rfl (hlast cur c1 c2) ?_;cases hp:last cur with
  | true =>
   rw [hst,hp,if_pos rfl] at ho;subst ho;refine QW ?_;have hap : ∀ X,jB 1 1 (St S [] [some (1,out.map vb),some (1,[.int .u8 X])]) (.slice (lid S.nx 0) 0 out.length) (.slice (lid S.nx 1) 0 1)=some (.slice (lid S.nx 2) 0 (out.length+1),St S [] [none,some (1,[.int .u8 X]),some (1,out.map vb++[.int .u8 X])]):=fun X=>by
    rw [qH (s:=1) (cells:=out.map vb) (new:=[.int .u8 X]) (by simp) (by simp) (by simp) (by simp) (by omega) (by omega),YQ (by simp),qT,jH]
    rfl
   refine bj hp hx2 hap ?_;exact jgd [2] hwf (by decide) (by simp) (by simp; rfl) (by simp; rfl) ⟨by simp,by simp [vb]⟩
  | false =>
   cases k with
   | zero=>rw [hi0 cur hk] at hp; cases hp
   | succ k =>
    simp only [lebZ,hp,ay,if_false,hg] at ho;refine QW ?_;have hap : ∀ X,jB 1 1 (St S [] [some (1,out.map vb),some (1,[.int .u8 X])]) (.slice (lid S.nx 0) 0 out.length) (.slice (lid S.nx 1) 0 1)=some (.slice (lid S.nx 2) 0 (out.length+1),St S [] [none,some (1,[.int .u8 X]),some (1,out.map vb++[.int .u8 X])]):=fun X=>by
     rw [qH (s:=1) (cells:=out.map vb) (new:=[.int .u8 X]) (by simp) (by simp) (by simp) (by simp) (by omega) (by omega),YQ (by simp),qT,jH]
     rfl
    have hsh:=jaW cur 7;have hpw:(2:Int)^7=128:=by decide
    rw [hpw] at hsh;have hmin:min 7 IntKind.u64.bits=7:=by rw [hb]; decide
    refine bu hp hx1 hap hsh hmin hpw ?_;refine QA [2] (h:=⟨?_,cur / 128,out++[g+128],by omega,by omega,hi1 k cur hk hp,by rw [<-ho]; simp,by simp; omega,by simp,by simp [vb]⟩);omega
theorem awx (last:Int->Bool) (inv:Nat->Int->Prop) (fid:FuncId) (hc:jE Tryz.prog fid=true) (hlast : ∀ n:Int, -9223372036854775808<=n->n<9223372036854775808->bF fid [.int .i64 n] (.bool (last n))) (hi0 : ∀ n,inv 0 n->last n=true) (hi1 : ∀ f n,inv (f+1) n->last n=false->inv f (n / 128))
  (bs:List Nat) (f:Nat) (n:Int) (hlo : -9223372036854775808<=n) (hhi:n<9223372036854775808) (hf:inv f n) (hl:bs.length+f<=99999999999990) (S:Store):bG 155 [vl vb bs, .int .i64 n, .func fid []] S (fun r T=>r = .slice (lid S.nx 0) 0 (bs++lebZ last f n).length/\T=St S [] [some (1,(bs++lebZ last f n).map vb)]):=by
 refine bE Tryz.func155 Tryz.ntmps155 fun hwf=>?_;refine bk ?_;refine QP ?_;refine Kn rfl (adb _ bs (by omega)) ?_;rintro r T ⟨rfl,rfl⟩;obtain ⟨res,hres⟩ : ∃ res,bs++lebZ last f n=res:=⟨_,rfl⟩
 rw [hres];rw [show St (St S [] []) [] [some (1,bs.map vb)]=St S [] [some (1,bs.map vb)] by rw [jh hwf]];rw [show (St S [] []).nx=S.nx by rw [jH]; rfl];refine bz ?_;refine bB [1,2,7] (fun k σ T => ∃ (cur:Int) (out:List Nat), -9223372036854775808<=cur/\cur<9223372036854775808/\inv k cur/\out++lebZ last k cur=res/\out.length+k<=99999999999990/\σ=[(1, .int .i64 cur),(2, .func fid []),(7, .slice (lid S.nx 0) 0 out.length)]/\T=St S [] [some (1,out.map vb)]) f ?_ ?_
 .exact ⟨n,bs,hlo,hhi,hf,hres,hl,by simp [Fr.oy],rfl⟩
 .rintro k σ T ⟨cur,out,c1,c2,hk,ho,hol,rfl,rfl⟩;have hb:IntKind.i64.bits=64:=rfl;have hx1:=ag3 cur;have hx2:=ae9 cur;have hst:lebZ last k cur=if last cur=true then [(cur % 128).toNat] else lebZ last k cur:=by
   cases k with
   | zero=>rw [hi0 cur hk]; rfl
   | succ k=>simp only [lebZ]; split<;>rfl
  obtain ⟨g,hg⟩ : ∃ g,(cur % 128).toNat=g:=⟨_,rfl⟩
  rw [hg] at hx1 hx2 hst;refine QP ?_;refine zh rfl hc rfl (hlast cur c1 c2) ?_;cases hp:last cur with
  | true =>
   rw [hst,hp,if_pos rfl] at ho;subst ho;refine QW ?_;have hap : ∀ X,jB 1 1 (St S [] [some (1,out.map vb),some (1,[.int .u8 X])]) (.slice (lid S.nx 0) 0 out.length) (.slice (lid S.nx 1) 0 1)=some (.slice (lid S.nx 2) 0 (out.length+1),St S [] [none,some (1,[.int .u8 X]),some (1,out.map vb++[.int .u8 X])]):=fun X=>by
    rw [qH (s:=1) (cells:=out.map vb) (new:=[.int .u8 X]) (by simp) (by simp) (by simp) (by simp) (by omega) (by omega),YQ (by simp),qT,jH]
    rfl
   refine bj hp hx2 hap ?_;exact jgd [2] hwf (by decide) (by simp) (by simp; rfl) (by simp; rfl) ⟨by simp,by simp [vb]⟩
  | false =>
   cases k with
   | zero=>rw [hi0 cur hk] at hp; cases hp
   | succ k =>
    simp only [lebZ,hp,ay,if_false,hg] at ho;refine QW ?_;have hap : ∀ X,jB 1 1 (St S [] [some (1,out.map vb),some (1,[.int .u8 X])]) (.slice (lid S.nx 0) 0 out.length) (.slice (lid S.nx 1) 0 1)=some (.slice (lid S.nx 2) 0 (out.length+1),St S [] [none,some (1,[.int .u8 X]),some (1,out.map vb++[.int .u8 X])]):=fun X=>by
     rw [qH (s:=1) (cells:=out.map vb) (new:=[.int .u8 X]) (by simp) (by simp) (by simp) (by simp) (by omega) (by omega),YQ (by simp),qT,jH]
     rfl
    have hsh:=jaW cur 7;have hpw:(2:Int)^7=128:=by decide
    rw [hpw] at hsh;have hmin:min 7 IntKind.i64.bits=7:=by rw [hb]; decide
    refine bu hp hx1 hap hsh hmin hpw ?_;refine QA [2] (h:=⟨?_,cur / 128,out++[g+128],by omega,by omega,hi1 k cur hk hp,by rw [<-ho]; simp,by simp; omega,by simp,by simp [vb]⟩);omega
theorem arp (n:Int):bF 86 [.int .u64 n] (.bool (jai n)):=by
 intro S;have hb:IntKind.u64.bits=64:=rfl;have hpw:(2:Int)^7=128:=by decide
 have hsh:=jaW n 7;rw [hpw] at hsh;have hmin:min 7 IntKind.u64.bits=7:=by rw [hb]; decide
 refine bE Tryz.func86 Tryz.ntmps86 fun hwf=>?_;refine bj hsh hmin hpw ?_;exact jd hwf (by simp [jai]) rfl
theorem asb (n:Int):bF 156 [.int .i64 n] (.bool (Wl n)):=by
 intro S;have hb:IntKind.i64.bits=64:=rfl;have hpw:(2:Int)^6=64:=by decide
 have hsh:=jaW n 6;rw [hpw] at hsh;have hmin:min 6 IntKind.i64.bits=6:=by rw [hb]; decide
 refine bE Tryz.func156 Tryz.ntmps156 fun hwf=>?_;by_cases h:n / 64=0
 .refine bq hsh hmin hpw h ?_;exact jd hwf (by simp [Wl,h]) rfl
 .refine bq hsh hmin hpw h ?_;exact jd hwf (by simp [Wl,h]) rfl
theorem ajr (bs:List Nat) (n:Int) (h0:0<=n) (h1:n<18446744073709551616) (hl:bs.length<=99999999999900) (S:Store):bG 14 [vl vb bs, .int .u64 n] S (fun r T=>r = .slice (lid S.nx 0) 0 (bs++uW n).length/\T=St S [] [some (1,(bs++uW n).map vb)]):=by
 have h:=av4 jai (fun f n=>0<=n/\n<128^(f+1)) 86 rfl (fun n _ _=>arp n) (fun n h=>by have:=h.2; simp only [jai]; simp at this ⊢; omega) (fun f n h hn=>⟨by omega,by
  have h2:=h.2;rw [Int.pow_succ] at h2;omega⟩) bs 9 n h0 h1 ⟨h0,by have:(128:Int)^(9+1)=1180591620717411303424:=(by decide); omega⟩ (by omega)
 refine bE Tryz.func14 Tryz.ntmps14 fun hwf=>?_;refine bk ?_;refine QP ?_;refine Kn rfl (h _) ?_;rintro r T ⟨rfl,rfl⟩;refine bz ?_;rw [jh hwf];exact jn ⟨by simp [uW,lid],by simp [uW]⟩
theorem awu (bs:List Nat) (n:Int) (h0 : -9223372036854775808<=n) (h1:n<9223372036854775808) (hl:bs.length<=99999999999900) (S:Store):bG 137 [vl vb bs, .int .i64 n] S (fun r T=>r = .slice (lid S.nx 0) 0 (bs++sW n).length/\T=St S [] [some (1,(bs++sW n).map vb)]):=by
 have h:=awx Wl (fun f n => -(64*128^f)<=n/\n<64*128^f) 156 rfl (fun n _ _=>asb n) (fun n h=>by have:=h.1; have:=h.2; simp only [Wl]; simp at *; omega) (fun f n h hn=>by
  obtain ⟨h1,h2⟩:=h;rw [Int.pow_succ] at h1 h2;constructor<;>omega) bs 9 n h0 h1 (by have:(128:Int)^9=9223372036854775808 :=(by decide); constructor<;>omega) (by omega)
 refine bE Tryz.func137 Tryz.ntmps137 fun hwf=>?_;refine bk ?_;refine QP ?_;refine Kn rfl (h _) ?_;rintro r T ⟨rfl,rfl⟩;refine bz ?_;rw [jh hwf];exact jn ⟨by simp [sW,lid],by simp [sW]⟩
end Go.Vw
