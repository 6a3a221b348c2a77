import Derived.Test.YtjkfgakbijjegaaGreatC17
/- Part of the proof. -/
set_option linter.unusedVariables false
set_option linter.unusedSimpArgs false
set_option maxRecDepth 10000
set_option maxHeartbeats 1000000
namespace Go.Vw
open Go.RowKit
theorem awm {b l:Nat} {o:Obj} {m0 m m':Imm} {β0 β β':Objs} {w0 w w':World} (hm:l<w0.heap.size) (h:ExtB b m0 β0 w0 m β w) (k:Ext m β (w.putObj l o) m' β' w'):ExtB b m0 β0 (w0.putObj l o) m' β' w':=by
 have hl:l<w.heap.size:=aK hm h.size;refine ⟨fun b' o' hb=>k.imm b' o' (h.imm b' o' hb),fun o' hob ho => ?_,by have:=h.size; have:=k.size; simp only [World.putObj_size] at this ⊢; omega,fun b' hb hm' hn => ?_,k.os.trans h.os,k.tape.trans h.tape,k.output.trans h.output⟩
 .rcases h.step o' hob ho with h1 | h1
  .rcases k.step o' (by rw [h1]; exact ho) with k1 | k1
   .exact .inl (k1.trans h1)
   .exact .inr k1
  .rcases k.step o' (by rw [h1]; exact Loc.noConfusion) with k1 | k1
   .exact .inr (k1.trans h1)
   .exact .inr k1
 .simp only [World.putObj_size] at hb;obtain ⟨e1,e2,e3⟩:=h.keep b' hb hm' hn;obtain ⟨f1,f2,f3⟩:=k.keep b' (by simp only [World.putObj_size]; exact aK hb h.size) e2 e3;refine ⟨f1.trans ?_,f2,f3⟩;by_cases e:b'=l
  .subst e; rw [World.putObj_heap_same hl,World.putObj_heap_same hm]
  .rw [World.putObj_heap_other e,World.putObj_heap_other e]; exact e1
section
variable {P:Program} {N l r b:Nat} {rec:Loop} {m0:Imm} {β0:Objs} {w0:World} {Q:Exit->Fr->Store->Prop} {σ:Fr} {S:Store}
theorem ajz {c:Code} {l1 l2:List Oper} {o:Oper} {cl:Call} {fz:Arg} {args:List Arg} {cs1 cs2:List CO} {σ1 σ0:Fr} {S1:Store} {x1 x2:V} {Nr p1 p2:Nat} {assign body:Code} {E:EP} (hL:LoopAt l r rec m0 β0 w0) (hR:Ready P Nr p1 p2 assign body rec) (hF0:FrameRep Nr m0 β0 σ0 { tmps:=rec.tmps,defers:=[] })
  (hQ : ∀ ch σ S,E ch S->Q (.panic ch) σ S) (hQo : ∀ σ S, ¬ Q .outgrown σ S) (h:Code.kind c=1) (hops:(Code.ops c).toList=l1++o::l2) (hc1:l1.mapM (za P N (Code.ops c))=some cs1)
  (hc2:l2.mapM (za P N (Code.ops c))=some cs2) (hgs:l1.all (fun o=>o.guard.isNone)=true) (hdf:(l1++l2).all (fun o => !Op.isDefer o.op)=true) (hg:o.guard=none) (hd : ∀ t,o.dst=some t->t<N) (r1:runV none cs1 σ S=some ([],σ1,S1))
  (ho:o.op = .call cl) (hcc:zu P cl=some (.callv fz args)) (hfz:ev σ1 fz = .raw (.func (.yield l) #[] #[])) (ha:args.map (ev σ1)=[x1,x2]) (hbase : ∀ m β w,Holds S1 m β w->ExtB b m0 β0 w0 m β w->Ext m0 β0 w0 m β w)
  (H:RoundV P Nr l assign body ((σ0.set p1 x1).set p2 x2) S1 (fun S2=>qF P E cs2 (Q .normal) (σ1.put o.dst (.bool true)) S2) E):VWpR P N l b m0 β0 w0 c Q σ S:=by
 cases c with
 | region id ops' d =>
  cases d
  .intro m β w a hS hF he;simp only [Code.ops] at hops hc1 hc2;have hout : ¬ LetsOut (Post N b Q m0 β0 w0):=Zw hQo;refine (wpIn_wide (n:=0)).1 (wpIn_region_list ?_);show wpListIn (Fr0 none) 0 P ops' (PostR N l b Q m0 β0 w0) ops'.toList a w;rw [hops];have key : ∀ (l1:List Oper) (cs:List CO) (σ:Fr) (S:Store) (m':Imm) (β':Objs) (w':World) (a:Act),l1.all (fun o=>o.guard.isNone)=true->(l1++l2).all (fun o => !Op.isDefer o.op)=true->l1.mapM (za P N ops')=some cs->qF P E cs (fun σ2 S2=>σ2=σ1/\S2=S1) σ S->Holds S m' β' w'->FrameRep N m' β' σ a->ExtB b m0 β0 w0 m' β' w'->wpListIn (Fr0 none) 0 P ops' (PostR N l b Q m0 β0 w0) (l1++o::l2) a w':=by
    intro l1
    induction l1 with
    | nil =>
     intro cs σ S m' β' w' a _ hdf hl h hS hF he;simp at hl;subst hl;obtain ⟨rfl,rfl⟩:=h;simp only [aZ,wpListIn];have hw:Region.wanted o (yielded ops' a.tmps)=true:=by simp [Region.wanted,hg]
     rw [if_pos hw];refine ⟨fun _ _=>trivial, ?_⟩;obtain ⟨vs,hrun,hrl⟩:=amm ho hcc hF hfz;rw [ha] at hrl;have hex:=hbase m' β' w' hS he;obtain ⟨tm,hy,hround⟩:=arq (hL.ext he) hR hS (hF0.ext hex) hrl H;rw [show ((o.semAt (Fr0 none).round a.eval).run P w')=(Instr.yield l vs.toArray).run P w' from hrun,hy];refine ⟨fun hx=>(by cases hx),RoundIn.mono hround ?_⟩;rintro e w2 (⟨rfl,S2,m2,β2,hk,h1,h2⟩ | ⟨ch,S2,m2,β2,ob,rfl,hE,h1,h2⟩)
     .refine jah (fun e a w h=>Post.toR hL h) _ _ _ (jfM hout l2 _ _ (fun o ho=>by simpa using ax.1 hdf o (by simpa using ho)) ?_);exact Jz hQ l2 cs2 _ _ m2 β2 w2 _ hc2 hk h1 ((hF.ext h2).put o.dst hd (.imm (.bool true))) (he.trans (h2.toB _))
     .exact ⟨σ,S2,m2,β2,hQ _ _ _ hE,h1,(hF.mono h2.imm h2.step),ob,awm (Array.getElem?_eq_some_iff.1 hL.hl).1 he h2⟩
    | cons o' l ih =>
     intro cs σ S m' β' w' a hgl hdl hl h hS hF he;rw [List.all_cons,ae] at hgl;simp only [aY,List.all_cons,ae] at hdl;simp only [List.mapM_cons,Option.bind_eq_bind,aG] at hl;obtain ⟨c',hc',cs',hcs',hl⟩:=hl;simp at hl; subst hl;unfold za at hc';split at hc'
     .rename_i co g h1 h2;split at hc'
      .rename_i hdst;cases hc';have hd' : ∀ t,o'.dst=some t->t<N:=by
        intro t ht; rw [ht] at hdst; simpa using hdst
       simp only [aY,wpListIn];have run:vopX P E σ S co (fun v S'=>qF P E cs' (fun σ2 S2=>σ2=σ1/\S2=S1) (σ.put o'.dst v) S')->o'.wpIn (Fr0 none) 0 P a w' (wpListIn (Fr0 none) 0 P ops' (PostR N _ b Q m0 β0 w0) (l++o::l2)) (PostR N _ b Q m0 β0 w0):=fun hv =>
        aap (ro:=none) (by simpa using hdl.1) (fun _ _ h=>h) (KU h1 hd' hv hS hF he (fun x S' m' β' w' a' k1 k2 k3 k4=>ih cs' _ S' m' β' w' a' hgl.2 hdl.2 hcs' k1 k2 k3 k4)
         (fun ch S' m' β' w' k1 k2 k3 k4=>Post.toR hL (e := .panic ch) ⟨σ,S',m',β',hQ _ _ _ k1,k2,k3,k4⟩))
       cases hg':o'.guard with
       | none =>
        rw [hg'] at h2;simp [zb] at h2; subst h2;have hw:Region.wanted o' (yielded ops' a.tmps)=true:=by simp [Region.wanted,hg']
        rw [if_pos hw];simp only [qF] at h;exact run h
       | some jw =>
        have:=hgl.1;rw [hg'] at this;cases this
      .cases hc'
     .cases hc'
   exact key l1 cs1 σ S m β w a hgs hdf hc1 (JG cs1 σ S r1 ⟨rfl,rfl⟩) hS hF he
  .simp [Code.kind] at h
 | _=>simp [Code.kind] at h
end
def ItV (P:Program) (l:Nat) (m0:Imm) (β0:Objs) (w0:World) (g:FuncId) (args:List V) (K:Store->Prop) (E:EP):Prop :=
 ∀ vs,RepL m0 β0 args vs->Calls P g vs.toArray w0 fun e w'=>(∃ v S' m' β',e = .returned v/\K S'/\Holds S' m' β' w'/\Ext m0 β0 w0 m' β' w') \/
  (∃ ch S' m' β' o,e = .panicked ch/\E ch S'/\Holds S' m' β' w'/\Ext m0 β0 (w0.putObj l o) m' β' w')
theorem au5 {P:Program} {l r:Nat} {m0:Imm} {β0:Objs} {w0:World} {rec:Loop} {g:FuncId} {fn:Func} {c:Code} {args:List V} {S:Store} {K:Store->Prop} {E:EP} (hS:Holds S m0 β0 w0) (hL:LoopAt l r rec m0 β0 w0) (hf:P.funcs[g]? = some fn) (hb:fn.body=some c) (ht:resT fn=some []) (hn:args.length<=fn.ntmps)
  (h:VWpR P fn.ntmps l S.nx m0 β0 w0 c (fun e σ T=>match e with | .normal=>K T | .ret=>K T | .panic ch=>E ch T | _=>False) (zC 0 args) S):ItV P l m0 β0 w0 g args K E:=by
 intro vs hr;refine calls_of_wp hf hb ?_;have hF:FrameRep fn.ntmps m0 β0 (zC 0 args) { tmps:=vs.toArray++Array.replicate (fn.ntmps-vs.toArray.size) undef,defers:=[] }:=by
  have hl:=hr.1;refine ⟨by simp; omega,rfl,fun t => ?_⟩;rw [zP];simp only [Nat.zero_le,if_true,Nat.sub_zero];cases hx:args[t]? with
  | none=>exact .junk _
  | some x =>
   have hlt:t<vs.length:=by rw [<-hl]; exact (ab.1 hx).1
   have:(vs.toArray++Array.replicate (fn.ntmps-vs.toArray.size) undef).getD t undef=vs[t]:=by
    simp [aO,Array.getElem?_append,hlt]
   simp only [this,aJ];exact hr.2 t x _ hx (aa hlt)
 refine wp_mono (h m0 β0 w0 _ hS hF (ExtB.refl _ _ _ _)) ?_;rintro e a' w' ⟨σ',S',m',β',q,r1,r2,r3⟩;cases e with
 | normal =>
  obtain ⟨x,hx,_⟩:=zY (P:=P) ht r2 w';exact ⟨r2.defers,x,hx, .inl ⟨x,S',m',β',rfl,q,r1,Jx hS r3⟩⟩
 | ret =>
  obtain ⟨x,hx,_⟩:=zY (P:=P) ht r2 w';exact ⟨r2.defers,x,hx, .inl ⟨x,S',m',β',rfl,q,r1,Jx hS r3⟩⟩
 | panic ch =>
  obtain ⟨o,r3⟩:=r3;exact ⟨r2.defers, .inr ⟨ch,S',m',β',o,rfl,q,r1,Jx (Jd hS o hL.ml hL.bl) r3⟩⟩
 | _=>exact q.elim
def Mark (rr:Nat):Deferred:={ target := .collected rr,args := #[] }
def EndX (m0:Imm) (β0:Objs) (w0:World) (R:V->Store->Prop) (E:EP) (e:Ending) (w':World):Prop :=
 (∃ v x S' m' β',e = .returned v/\R x S'/\Rep m' β' x v/\Holds S' m' β' w'/\Ext m0 β0 w0 m' β' w')\/(∃ ch S' m' β',e = .panicked ch/\E ch S'/\Holds S' m' β' w'/\Ext m0 β0 w0 m' β' w')
def wpF (f:FuncId) (P:Program) (c:Code) (Q:Exit->Act->World->Prop) (a:Act) (w:World):Prop :=
 ∀ (b:Frame) (k:List Item) (cs:List Frame),b.roundOf=none->b.fn=f -> ∃ e a' w',Q e a' w'/\ArrivesIn (Machine.fenced P Fence.wide) P (lone (b.atR a (.code c::k)) cs w) b k cs e a' w'
section
variable {f:FuncId} {P:Program} {Q:Exit->Act->World->Prop} {a:Act} {w:World}
theorem adc {c:Code} (h:c.wp P Q a w):wpF f P c Q a w:=fun b k cs hb _=>(wpIn_wide (n:=0)).2 h b k cs hb trivial (room_wide _)
theorem jfi {c:Code} {Q':Exit->Act->World->Prop} (h:wpF f P c Q a w) (hq : ∀ e a w,Q e a w->Q' e a w):wpF f P c Q' a w :=
 fun b k cs hb hf=>let ⟨e,a',w',q,r⟩:=h b k cs hb hf; ⟨e,a',w',hq _ _ _ q,r⟩
theorem aa4 {x y:Code} (h:wpF f P x (Exit.then (wpF f P y Q) Q) a w):wpF f P (.seq x y) Q a w:=by
 intro b k cs hb hf;obtain ⟨e,a1,w1,hq,harr⟩:=h b (.code y::k) cs hb hf;have h1:=StepsIn.one (fenced_wide P _) (stepR_seq (P:=P) (b:=b) (a:=a) (k:=k) (cs:=cs) (w:=w) (x:=x) (y:=y));cases e with
 | normal =>
  obtain ⟨e2,a2,w2,hq2,harr2⟩:=hq b k cs hb hf;exact ⟨e2,a2,w2,hq2, .of_steps (h1.trans harr) harr2⟩
 | exit id=>exact ⟨_,a1,w1,hq, .of_steps h1 (.pass (x := .code y) rfl (fun _ _ => .inl (by simp)) harr)⟩
 | goto l=>exact ⟨_,a1,w1,hq, .of_steps h1 (.pass (x := .code y) rfl (fun _ _ => .inl (by simp)) harr)⟩
 | ret=>exact ⟨_,a1,w1,hq, .of_steps h1 (.pass (x := .code y) rfl (fun _ _ => .inl (by simp)) harr)⟩
 | panic ch=>exact ⟨_,a1,w1,hq, .of_steps h1 (.pass (x := .code y) rfl (fun _ _ => .inl (by simp)) harr)⟩
 | outgrown=>exact ⟨_,a1,w1,hq, .of_steps h1 (.pass (x := .code y) rfl (fun _ _ => .inl (by simp)) harr)⟩
theorem al3 {id:Nat} {c:Code} (h:wpF f P c (fun e a w=>(e = .normal \/ ∃ ch,e = .panic ch)/\Q e a w) a w):wpF f P (.block id c) Q a w:=by
 intro b k cs hb hf;obtain ⟨e,a1,w1,⟨he,hq⟩,harr⟩:=h b (.inBlock id::k) cs hb hf;have h1:=StepsIn.one (fenced_wide P _) (stepR_block (P:=P) (b:=b) (a:=a) (k:=k) (cs:=cs) (w:=w) (id:=id) (c:=c));rcases he with rfl | ⟨ch,rfl⟩
 .exact ⟨.normal,a1,w1,hq,h1.trans (StepsIn.trans harr (.one (fenced_wide P _) stepR_inBlock))⟩
 .exact ⟨_,a1,w1,hq, .of_steps h1 harr⟩
theorem alc {tg p1 p2:Nat} {assign body:Code} {g:FuncId} {caps:Array Value} (hv:a.eval (.tmp tg) = .func (.func g) #[] caps) (hg:jE P g=true)
  (h:Calls P g (#[.func (.yield (w.heap.size+1)) #[] #[]]++caps) ((w.alloc (.deferred (some []))).alloc (.loop { state := .ready,pending:=none,fn:=f,tmps:=a.tmps,params := #[p1,p2],assign,body,defers:=w.heap.size }))
   (fun e w3=>match e with
    | .returned _ => ∃ w4,(Instr.endLoop (w.heap.size+1)).run P w3 = .ok none w4/\Q .normal { a with defers:=[Mark w.heap.size]++a.defers } w4
    | .panicked ch=>Q (.panic ch) { a with defers:=[Mark w.heap.size]++a.defers } w3
    | .outgrown=>False)):wpF f P (.rangeFunc (.tmp tg) #[p1,p2] assign body) Q a w:=by
 intro b k cs hb hf;have he:=run_enterLoop_outer (P:=P) (w:=w) b.fn a.tmps #[p1,p2] assign body;rw [<-hb] at he;have hres:(resolve a.eval (rangeCall (.tmp tg) (w.heap.size+1)) 0).run P ((w.alloc (.deferred (some []))).alloc (.loop { state := .ready,pending:=none,fn:=b.fn,tmps:=a.tmps,params := #[p1,p2],assign,body,defers:=w.heap.size })) = .ok ⟨.fn (.func g) caps, #[.func (.yield (w.heap.size+1)) #[] #[]]⟩ ((w.alloc (.deferred (some []))).alloc (.loop { state := .ready,pending:=none,fn:=b.fn,tmps:=a.tmps,params := #[p1,p2],assign,body,defers:=w.heap.size })):=by
  have hv':=hv;simp only [Act.eval] at hv';simp [resolve,Deferred.ofValue,Act.eval] at hv' ⊢;simp [hv']
 have hinv : ∀ W,(invoke (.fn (.func g) caps) #[.func (.yield (w.heap.size+1)) #[] #[]]).run P W = .ok (.enter g (#[.func (.yield (w.heap.size+1)) #[] #[]]++caps)) W:=by
  intro W;unfold jE at hg;split at hg
  .rename_i fn hfn;simp only [Bool.not_eq_true',Bool.or_eq_false_iff] at hg;have hn1' : ¬ fn.name = "runtime.NumGoroutine" := by simpa using hg.1
   have hn2' : ¬ fn.body=none:=by intro h; simp [h] at hg
   simp [invoke,callFunc,hfn,hn1',hn2']
  .cases hg
 have henter:=stepR_rangeFunc (P:=P) (b:=b) (a:=a) (k:=k) (cs:=cs) (w:=w) he hres (hinv _);rw [hf] at henter;obtain ⟨e,w3,fr,hR,hsteps,hfn,hleave⟩:=h (b.atR { a with defers:=[Mark w.heap.size]++a.defers } (.inRangeFunc (w.heap.size+1)::k)::cs);cases e with
 | returned v =>
  obtain ⟨w4,hend,hq⟩:=hR;refine ⟨.normal,_,w4,hq, ?_⟩;refine StepsIn.head (fenced_wide P _) henter (StepsIn.trans (stepsIn_wide.2 hsteps) (StepsIn.head (fenced_wide P _) (step_leave_returned hleave) ?_));rw [finish_atR_inRangeFunc];exact StepsIn.one (fenced_wide P _) (stepR_endRangeFunc hend)
 | panicked ch =>
  refine ⟨.panic ch,_,w3,hR, .inRangeFunc (w.heap.size+1)::k,StepsIn.head (fenced_wide P _) henter (StepsIn.trans (stepsIn_wide.2 hsteps) (StepsIn.one (fenced_wide P _) ?_))⟩;rw [<-Frame.raise_atR];exact step_leave_panicked hleave
 | outgrown=>exact hR.elim
theorem ack {fn:Func} {c:Code} {args:Array Value} {R:Ending->World->Prop} (hf:P.funcs[f]? = some fn) (hb:fn.body=some c)
  (h:wpF f P c (bodyPostM Fence.wide 0 P fn R) { tmps:=args++Array.replicate (fn.ntmps-args.size) undef,defers:=[] } w):Calls P f args w R:=by
 refine (callsIn_wide (n:=0)).1 ⟨trivial,fun cs hr => ?_⟩
 let b:Frame:={ (default:Frame) with fn:=f,kind := .normal,roundOf:=none }
 have henter:Frame.enter P f args .normal=b.atR { tmps:=args++Array.replicate (fn.ntmps-args.size) undef,defers:=[] } [.code c]:=by
  simp [Frame.enter,Frame.atR,hf,hb,b]
 obtain ⟨e,a',w',hq,harr⟩:=h b [] cs rfl rfl;rw [<-henter] at harr;cases e with
 | normal =>
  obtain ⟨e',w'',fr',hR,hs,hfn,hl⟩:=leaves_stepsInM (n:=0) (F:=Fence.wide) a'.defers .returning w' { b.atR a' [] with mode := .returning } cs rfl rfl rfl hf rfl trivial (room_wide _) hq;exact ⟨e',w'',fr',hR,ComesIn.of_steps (StepsIn.trans harr (.one (fenced_wide P _) (stepR_end rfl))) hs,hfn,hl⟩
 | ret =>
  obtain ⟨todo,hs0⟩:=harr.1 rfl;obtain ⟨e',w'',fr',hR,hs,hfn,hl⟩:=leaves_stepsInM (n:=0) (F:=Fence.wide) a'.defers .returning w' { b.atR a' todo with mode := .returning } cs rfl rfl rfl hf rfl trivial (room_wide _) hq;exact ⟨e',w'',fr',hR,ComesIn.of_steps hs0 hs,hfn,hl⟩
 | panic chain =>
  obtain ⟨todo,hs0⟩:=harr;obtain ⟨e',w'',fr',hR,hs,hfn,hl⟩:=leaves_stepsInM (n:=0) (F:=Fence.wide) a'.defers (.panicking chain) w' { b.atR a' todo with mode := .panicking chain } cs rfl rfl rfl hf rfl trivial (room_wide _) hq;exact ⟨e',w'',fr',hR,ComesIn.of_steps hs0 hs,hfn,hl⟩
 | exit id=>exact hq.elim
 | goto l=>exact hq.elim
 | outgrown=>exact ⟨.outgrown,w',b,hq,harr.resolve_left (by simp [b]),rfl,trivial⟩
end
def VGF (f:FuncId) (P:Program) (N b:Nat) (m0:Imm) (β0:Objs) (w0:World) (R:Exit->Act->World->Prop) (c:Code) (σ:Fr) (S:Store):Prop := ∀ m β w a,Holds S m β w->FrameRep N m β σ a->ExtB b m0 β0 w0 m β w->wpF f P c R a w
theorem abw {f:FuncId} {P:Program} {N b:Nat} {m0:Imm} {β0:Objs} {w0:World} {R:Exit->Act->World->Prop} {σ:Fr} {S:Store} {c:Code} (hk:Code.kind c=3) (h:VWp P N b (Code.fst c) (fun e σ S=>e = .normal/\VGF f P N b m0 β0 w0 R (Code.snd c) σ S) σ S):VGF f P N b m0 β0 w0 R c σ S:=by
 cases c with
 | seq x y =>
  intro m β w a hS hF he;refine aa4 (jfi (adc (h m β w a hS hF)) ?_);rintro e a' w' ⟨σ',S',m',β',⟨rfl,q⟩,r1,r2,r3⟩;exact q m' β' w' a' r1 r2 (he.trans r3)
 | region id ops d=>cases d<;>simp [Code.kind] at hk
 | _=>simp [Code.kind] at hk
theorem jfl {P:Program} {f:FuncId} {fn:Func} {c:Code} {args:List V} {S:Store} {R:V->Store->Prop} {E:EP} (hf:P.funcs[f]? = some fn) (hb:fn.body=some c) (hn:args.length<=fn.ntmps)
  (h : ∀ m0 β0 w0,Holds S m0 β0 w0->S.Wf->VGF f P fn.ntmps S.nx m0 β0 w0 (bodyPostM Fence.wide 0 P fn (EndX m0 β0 w0 R E)) c (zC 0 args) S):VCallsX P f args S R E:=by
 intro m β w vs hS hr;refine ack hf hb ?_;have hF:FrameRep fn.ntmps m β (zC 0 args) { tmps:=vs.toArray++Array.replicate (fn.ntmps-vs.toArray.size) undef,defers:=[] }:=by
  have hl:=hr.1;refine ⟨by simp; omega,rfl,fun t => ?_⟩;rw [zP];simp only [Nat.zero_le,if_true,Nat.sub_zero];cases hx:args[t]? with
  | none=>exact .junk _
  | some x =>
   have hlt:t<vs.length:=by rw [<-hl]; exact (ab.1 hx).1
   have:(vs.toArray++Array.replicate (fn.ntmps-vs.toArray.size) undef).getD t undef=vs[t]:=by
    simp [aO,Array.getElem?_append,hlt]
   simp only [this,aJ];exact hr.2 t x _ hx (aa hlt)
 exact h m β w hS hS.wf m β w _ hS hF (ExtB.refl _ _ _ _)
def RangeOk (P:Program) (f:FuncId) (N tg p1 p2:Nat) (assign body Z:Code) (rs:List (Nat × Option (Option Nat))) (R:V->Store->Prop) (E:EP) (σ:Fr) (S:Store):Prop :=
 ∃ g caps,σ.lk tg = .func g caps/\jE P g=true/\p1<N/\p2<N /\ ∃ K:Store->Prop,
  (∀ l r rec m β w,Holds S m β w->LoopAt l r rec m β w->Ready P N p1 p2 assign body rec->FrameRep N m β σ { tmps:=rec.tmps,defers:=[] }->ItV P l m β w g (.raw (.func (.yield l) #[] #[])::caps) K E) /\
  (∀ T v ds,K T->VWpD P N T.nx tg v ds Z (fun e σ' T'=>e = .ret /\ ∃ S2 xs,Seen T' S2/\resL S2 σ' rs=some xs/\R (tupV xs) S2) σ T)
theorem ak5 {P:Program} {N id tg p1 p2:Nat} {A assign body Z c:Code} {f:FuncId} {fn:Func} {rs:List (Nat × Option (Option Nat))} {S0:Store} {m0:Imm} {β0:Objs} {w0:World} {R:V->Store->Prop} {E:EP} {σ:Fr} {S:Store}
  (hc:c = .seq (.seq A (.block id (.rangeFunc (.tmp tg) #[p1,p2] assign body))) Z) (hfn:P.funcs[f]? = some fn) (hres:resC P fn=some rs) (h0:Holds S0 m0 β0 w0)
  (hA:VWp P N S0.nx A (fun e σ S=>e = .normal/\RangeOk P f N tg p1 p2 assign body Z rs R E σ S) σ S):VGF f P N S0.nx m0 β0 w0 (bodyPostM Fence.wide 0 P fn (EndX m0 β0 w0 R E)) c σ S:=by
 subst hc;intro m β w a hS hF he;refine aa4 (aa4 (jfi (adc (hA m β w a hS hF)) ?_));rintro e a1 w1 ⟨σ1,S1,m1,β1,⟨rfl,g,caps,hlk,hcal,hp1,hp2,K,hit,hZ⟩,r1,r2,r3⟩;have hx1:Ext m0 β0 w0 m1 β1 w1:=Jx h0 (he.trans r3);refine al3 ?_;have hrep:=r2.rep tg;rw [hlk] at hrep;obtain ⟨cvs,hcv,hcr⟩:=hrep.inv_func;refine alc (g:=g) (caps:=cvs.toArray) hcv hcal ?_
 -- the two new blocks
 obtain ⟨rec,hrec⟩ : ∃ rec:Loop,({ state := .ready,pending:=none,fn:=f,tmps:=a1.tmps,params := #[p1,p2],assign,body,defers:=w1.heap.size }:Loop)=rec:=⟨_,rfl⟩
 rw [hrec];have hw : ∀ (k:Nat) ob,k<w1.heap.size->((w1.alloc (.deferred (some []))).alloc ob).heap[k]? = w1.heap[k]? := fun k ob hk=>by
  rw [heap_alloc_old _ _ (by simp; omega),heap_alloc_old _ _ hk]
 have hS1:Holds S1 m1 β1 ((w1.alloc (.deferred (some []))).alloc (.loop rec)):=r1.world (fun k o hk=>hw k _ (r1.imm_lt hk)) (fun o k hk=>hw k _ (r1.block_lt hk));have free : ∀ k,w1.heap.size<=k->m1 k=none /\ ∀ o,(β1 o).block? ≠ some k:=fun k hk=>⟨by
  cases hm:m1 k with
  | none=>rfl
  | some o=>exact absurd (r1.imm_lt hm) (by omega),fun o ho=>absurd (r1.block_lt ho) (by omega)⟩
 have hL:LoopAt (w1.heap.size+1) w1.heap.size rec m1 β1 ((w1.alloc (.deferred (some []))).alloc (.loop rec)) :=
  ⟨by have:=heap_alloc_new (w1.alloc (.deferred (some []))) (.loop rec); simpa using this,by rw [heap_alloc_old _ _ (by simp)]; exact heap_alloc_new _ _,(free _ (by omega)).1,(free _ (by omega)).1,(free _ (by omega)).2,(free _ (by omega)).2⟩
 have hRd:Ready P N p1 p2 assign body rec:=by subst hrec; exact ⟨rfl,rfl,rfl,rfl,rfl,⟨fn,hfn⟩,hp1,hp2⟩
 have hF1:FrameRep N m1 β1 σ1 { tmps:=rec.tmps,defers:=[] }:=by subst hrec; exact ⟨r2.size,rfl,r2.rep⟩
 have hd1:=r2.defers
 -- what came since the whole began
 have hext : ∀ (m':Imm) (β':Objs) (w' w'':World) (o:Option Obj),Ext m1 β1 (match o with | some o=>((w1.alloc (.deferred (some []))).alloc (.loop rec)).putObj (w1.heap.size+1) o | none=>(w1.alloc (.deferred (some []))).alloc (.loop rec)) m' β' w' ->
   (∀ k,k<w1.heap.size->w''.heap[k]? = w'.heap[k]?)->w'.heap.size<=w''.heap.size->w''.os=w'.os->w''.tape=w'.tape->w''.output=w'.output->Ext m0 β0 w0 m' β' w'':=by
  intro m' β' w' w'' o hx hk hsz h1 h2 h3;refine hx1.trans ⟨hx.imm,hx.step, ?_,fun k hk' hm hb => ?_, ?_, ?_, ?_⟩
  .have:=hx.size;cases o<;>simp only [World.putObj_size,World.size_alloc] at this<;>omega
  .obtain ⟨f1,f2,f3⟩:=hx.keep k (by cases o<;>simp only [World.putObj_size,World.size_alloc]<;>omega) hm hb;refine ⟨(hk k hk').trans (f1.trans ?_),f2,f3⟩;cases o with
   | none=>exact hw k _ hk'
   | some o=>exact (World.putObj_heap_other (by omega)).trans (hw k _ hk')
  .exact h1.trans (hx.os.trans (by cases o<;>rfl))
  .exact h2.trans (hx.tape.trans (by cases o<;>rfl))
  .exact h3.trans (hx.output.trans (by cases o<;>rfl))
 have hcall:=hit _ _ rec m1 β1 _ hS1 hL hRd hF1 (.func (.yield (w1.heap.size+1)) #[] #[]::cvs) (RepL.cons (.raw _) hcr);rw [show (#[.func (.yield (w1.heap.size+1)) #[] #[]]++cvs.toArray:Array Value)=(Value.func (.yield (w1.heap.size+1)) #[] #[]::cvs).toArray by simp];refine hcall.mono ?_;rintro e w3 (⟨v,S3,m3,β3,rfl,hK,k1,k2⟩ | ⟨ch,S3,m3,β3,o,rfl,hE,k1,k2⟩)
 .have hL3:=hL.ext (k2.toB 0);have hst:rec.state ≠ .busy:=by rw [hRd.st]; exact LoopState.noConfusion
  refine ⟨_,(run_endLoop (P:=P) hL3.hl hst).trans (congrArg (fun x=>Result.ok x _) hRd.pe), .inl rfl, ?_⟩
  -- what comes behind
  obtain ⟨w4,hw4⟩ : ∃ w4,w3.putObj (w1.heap.size+1) (.loop { rec with state := .exhausted })=w4:=⟨_,rfl⟩
  rw [hw4];have hS4:Holds S3 m3 β3 w4:=by rw [<-hw4]; exact Jd k1 _ hL3.ml hL3.bl
  have hr4:w4.heap[w1.heap.size]? = some (.deferred (some [])):=by rw [<-hw4,World.putObj_heap_other (by omega)]; exact hL3.hr
  have hF4:FrameRep N m3 β3 σ1 a1:=r2.mono k2.imm k2.step;have hx4:Ext m0 β0 w0 m3 β3 w4:=hext m3 β3 w3 w4 none k2 (fun k hk=>by rw [<-hw4]; exact World.putObj_heap_other (by omega)) (by rw [<-hw4]; simp) (by rw [<-hw4]; rfl) (by rw [<-hw4]; rfl) (by rw [<-hw4]; rfl);have hz:=hZ S3 _ [Mark w1.heap.size] hK m3 β3 w4 a1 hS4 hF4 rfl;rw [hd1] at hz ⊢;refine jfi (adc hz) ?_;rintro e a5 w5 ⟨a0,rfl,_,σ5,S5,m5,β5,⟨rfl,S2,xs,hseen,hxs,hR⟩,t1,t2,t3⟩;have hx5:Ext m3 β3 w4 m5 β5 w5:=Jx hS4 t3;obtain ⟨e1,e2,e3⟩:=hx5.keep w1.heap.size (Array.getElem?_eq_some_iff.1 hr4).1 hL3.mr hL3.br;have hr5:w5.heap[w1.heap.size]? = some (.deferred (some [])):=e1.trans hr4;show LeavesInM Fence.wide 0 P fn a0.tmps _ (a0.defers++[Mark w1.heap.size]) .returning w5;rw [t2.defers];refine ⟨FrameMode.noConfusion, .inl ⟨w1.heap.size,_,rfl,run_takeDeferred hr5, ?_⟩⟩;obtain ⟨w6,hw6⟩ : ∃ w6,w5.putObj w1.heap.size (.deferred none)=w6:=⟨_,rfl⟩
  rw [hw6];have hS6:Holds S5 m5 β5 w6:=by rw [<-hw6]; exact Jd t1 _ e2 e3
  obtain ⟨m7,β7,q1,q2⟩:=hseen m5 β5 w6 hS6;obtain ⟨vv,hvv,hrv⟩:=JH (P:=P) hres q1 (t2.mono q2.imm q2.step) hxs;refine ⟨vv,hvv, .inl ⟨vv,_,S2,m7,β7,rfl,hR,hrv,q1, ?_⟩⟩;refine Ext.trans ?_ q2;refine ⟨fun k o hk=>hx5.imm k o (hx4.imm k o hk),(hx4.trans hx5).step, ?_,fun k hk hm hb => ?_, ?_, ?_, ?_⟩
  .rw [<-hw6]; simp only [World.putObj_size]; exact (hx4.trans hx5).size
  .obtain ⟨f1,f2,f3⟩:=(hx4.trans hx5).keep k hk hm hb;refine ⟨?_,f2,f3⟩;rw [<-hw6,World.putObj_heap_other (by have:=hx1.size; omega)];exact f1
  .rw [<-hw6]; exact (hx4.trans hx5).os
  .rw [<-hw6]; exact (hx4.trans hx5).tape
  .rw [<-hw6]; exact (hx4.trans hx5).output
 .refine ⟨.inr ⟨ch,rfl⟩, ?_⟩;simp only [Exit.then];have hbr:=k2.keep w1.heap.size (by simp; omega) hL.mr hL.br;have hr3:w3.heap[w1.heap.size]? = some (.deferred (some [])):=hbr.1.trans ((World.putObj_heap_other (by omega)).trans hL.hr);show LeavesInM Fence.wide 0 P fn a1.tmps _ ([Mark w1.heap.size]++a1.defers) (.panicking ch) w3;rw [hd1];refine ⟨FrameMode.noConfusion, .inl ⟨w1.heap.size,_,rfl,run_takeDeferred hr3, ?_⟩⟩;refine .inr ⟨ch,S3,m3,β3,rfl,hE,Jd k1 _ hbr.2.1 hbr.2.2, ?_⟩;exact hext m3 β3 w3 _ (some o) k2 (fun k hk=>World.putObj_heap_other (by omega)) (by simp) rfl rfl rfl
end Go.Vw
namespace Go.Vw
open Go.Proofs Go.RowKit Wm
attribute [-simp] List.map_set
def pO (p:Nat × Nat):V := .ptr p.1 0
def uses (ps:List (Nat × Nat)):List Nat:=ps.flatMap fun p=>[p.1,p.2]
def FmI (S:Store) (p:Nat × Nat) (f:Fm):Prop := ∃ cell,S.get p.1=some (4,[vl bH f.out,vl bH f.lab,cell, .bool f.dead]) /\
 ((cell = .nils/\f.st=[]/\p.2=p.1) \/ ∃ rest,cell = .slice p.2 0 f.st.length/\S.get p.2=some (1,f.st.map bH++rest)/\p.2≠p.1)
def FrL (S:Store):List (Nat × Nat)->List Fm->Prop
 | [],[]=>True
 | p::ps,f::fs=>FmI S p f/\FrL S ps fs
 | _,_=>False
def FoC (co fo:Nat) (fc:V) (ps:List (Nat × Nat)) (S:Store):Prop:=(fc = .nils/\ps=[]/\fo=co) \/ ∃ rest,fc = .slice fo 0 ps.length/\S.get fo=some (1,(ps.map pO).reverse++rest)/\fo≠co
structure CIx (co:Nat) (mv:V) (c:Ck) (fo:Nat) (ps:List (Nat × Nat)) (S:Store):Prop where
 obj : ∃ fc,S.get co=some (6,[mv,bI c.k,bI c.op,vl bH c.locals,fc,bI c.ops])/\FoC co fo fc ps S
 frm:FrL S ps c.fs
 sep : ∀ p∈ps,p.1≠co/\p.2≠co/\p.1≠fo/\p.2≠fo
 dis:ps.Pairwise fun p q=>p.1≠q.1/\p.1≠q.2/\p.2≠q.1/\p.2≠q.2
def ownC (co fo:Nat) (ps:List (Nat × Nat)):List Nat:=co::fo::uses ps
def CI (co:Nat) (mv:V) (c:Ck) (own:List Nat) (S:Store):Prop := ∃ fo ps,own=ownC co fo ps/\CIx co mv c fo ps S
def CP (co:Nat) (mv:V) (own:List Nat) (S:Store) (c':Ck) (T:Store):Prop := ∃ own',CI co mv c' own' T/\Kept S own T /\ ∀ o∈own',o∈own\/S.nx<=o
theorem CP.refl {co:Nat} {mv:V} {c:Ck} {own:List Nat} {S:Store} (h:CI co mv c own S):CP co mv own S c S:=⟨own,h,Kept.refl _ _,fun o h => .inl h⟩
theorem CP.trans {co:Nat} {mv:V} {c1 c2:Ck} {own own':List Nat} {S T U:Store} (k1:Kept S own T) (k2 : ∀ o∈own',o∈own\/S.nx<=o) (h:CP co mv own' T c2 U):CP co mv own S c2 U:=by
 obtain ⟨own2,h1,h2,h3⟩:=h;refine ⟨own2,h1,⟨aU k1.1 h2.1,fun o ho hn => ?_⟩,fun o ho => ?_⟩
 .rw [h2.2 o (aK ho k1.1) fun hm => ?_]
  .exact k1.2 o ho hn
  .rcases k2 o hm with h | h
   .exact hn h
   .omega
 .rcases h3 o ho with h | h
  .exact k2 o h
  .exact .inr (aU k1.1 h)
theorem JT {own own':List Nat} {S T U:Store} (k1:Kept S own T) (k2 : ∀ o∈own',o∈own\/S.nx<=o) (h:Kept T own' U):Kept S own U:=by
 refine ⟨aU k1.1 h.1,fun o ho hn => ?_⟩;rw [h.2 o (aK ho k1.1) fun hm => ?_]
 .exact k1.2 o ho hn
 .rcases k2 o hm with h | h
  .exact hn h
  .omega
theorem qG (p:Nat × Nat) (ps:List (Nat × Nat)):uses (p::ps)=p.1::p.2::uses ps:=rfl
theorem jau {p:Nat × Nat} {ps:List (Nat × Nat)} (h:p∈ps):p.1∈uses ps/\p.2∈uses ps:=by
 constructor<;>exact List.mem_flatMap.2 ⟨p,h,by simp⟩
theorem jcD {o:Nat} {ps:List (Nat × Nat)} (h:o∈uses ps) : ∃ p∈ps,o=p.1\/o=p.2:=by
 obtain ⟨p,hp,h⟩:=List.mem_flatMap.1 h;exact ⟨p,hp,by simpa using h⟩
theorem FmI.keep {S T:Store} {p:Nat × Nat} {f:Fm} (h:FmI S p f) (h1:T.get p.1=S.get p.1) (h2:T.get p.2=S.get p.2):FmI T p f:=by
 obtain ⟨cell,k1,k2⟩:=h;refine ⟨cell,h1.trans k1, ?_⟩;rcases k2 with k2 | ⟨rest,k2,k3,k4⟩
 .exact .inl k2
 .exact .inr ⟨rest,k2,h2.trans k3,k4⟩
theorem FrL.keep {S T:Store} : ∀ {ps:List (Nat × Nat)} {fs:List Fm},FrL S ps fs->(∀ o∈uses ps,T.get o=S.get o)->FrL T ps fs
 | [],[],_,_=>trivial
 | p::ps,f::fs,h,hk=>⟨h.1.keep (hk _ (by simp [qG])) (hk _ (by simp [qG])),FrL.keep h.2 fun o ho=>hk o (by simp [qG,ho])⟩
 | [],_::_,h,_=>h.elim
 | _::_,[],h,_=>h.elim
theorem FrL.len {S:Store} : ∀ {ps:List (Nat × Nat)} {fs:List Fm},FrL S ps fs->ps.length=fs.length
 | [],[],_=>rfl
 | p::ps,f::fs,h=>by simp [FrL.len h.2]
 | [],_::_,h=>h.elim
 | _::_,[],h=>h.elim
theorem CIx.keep {co fo:Nat} {mv:V} {c:Ck} {ps:List (Nat × Nat)} {S T:Store} (h:CIx co mv c fo ps S) (hk : ∀ o∈ownC co fo ps,T.get o=S.get o):CIx co mv c fo ps T:=by
 obtain ⟨⟨fc,h1,h2⟩,h3,h4,h5⟩:=h;refine ⟨⟨fc,(hk co (by simp [ownC])).trans h1, ?_⟩,h3.keep (fun o ho=>hk o (by simp [ownC,ho])),h4,h5⟩;rcases h2 with h2 | ⟨rest,h2,h6,h7⟩
 .exact .inl h2
 .exact .inr ⟨rest,h2,(hk fo (by simp [ownC])).trans h6,h7⟩
theorem FmI.lt {S:Store} {p:Nat × Nat} {f:Fm} (hw:S.Wf) (h:FmI S p f):p.1<S.nx/\p.2<S.nx:=by
 obtain ⟨cell,k1,k2⟩:=h;have:=jx hw k1;rcases k2 with ⟨_,_,k2⟩ | ⟨rest,_,k3,_⟩
 .exact ⟨this,by rw [k2]; exact this⟩
 .exact ⟨this,jx hw k3⟩
theorem FrL.lt {S:Store} (hw:S.Wf) : ∀ {ps:List (Nat × Nat)} {fs:List Fm},FrL S ps fs -> ∀ o∈uses ps,o<S.nx
 | [],[],_,o,ho=>by cases ho
 | p::ps,f::fs,h,o,ho=>by
  simp only [qG,aE] at ho;rcases ho with rfl | rfl | ho
  .exact (h.1.lt hw).1
  .exact (h.1.lt hw).2
  .exact FrL.lt hw h.2 o ho
 | [],_::_,h,_,_=>h.elim
 | _::_,[],h,_,_=>h.elim
theorem CIx.lt {co fo:Nat} {mv:V} {c:Ck} {ps:List (Nat × Nat)} {S:Store} (h:CIx co mv c fo ps S) (hw:S.Wf) : ∀ o∈ownC co fo ps,o<S.nx:=by
 obtain ⟨⟨fc,h1,h2⟩,h3,h4,h5⟩:=h;intro o ho;simp only [ownC,aE] at ho;rcases ho with rfl | rfl | ho
 .exact jx hw h1
 .rcases h2 with ⟨_,_,rfl⟩ | ⟨rest,_,h6,_⟩
  .exact jx hw h1
  .exact jx hw h6
 .exact h3.lt hw o ho
theorem CI.lt {co:Nat} {mv:V} {c:Ck} {own:List Nat} {S:Store} (h:CI co mv c own S) (hw:S.Wf) : ∀ o∈own,o<S.nx:=by
 obtain ⟨fo,ps,rfl,h⟩:=h;exact h.lt hw
theorem CI.co {co:Nat} {mv:V} {c:Ck} {own:List Nat} {S:Store} (h:CI co mv c own S):co∈own:=by
 obtain ⟨fo,ps,rfl,h⟩:=h;simp [ownC]
theorem CI.up {co:Nat} {mv:V} {c:Ck} {own:List Nat} {S:Store} (h:CI co mv c own S) (hw:S.Wf) (l:OL):CI co mv c own (St S [] l):=by
 have hl:=h.lt hw;obtain ⟨fo,ps,rfl,h⟩:=h;exact ⟨fo,ps,rfl,h.keep fun o ho=>jk (hl o ho)⟩
theorem CP.below {co:Nat} {mv:V} {c:Ck} {own:List Nat} {T U:Store} {l:OL} (h:CP co mv own (St T [] l) c U):CP co mv own T c U:=by
 obtain ⟨own',h1,h2,h3⟩:=h;refine ⟨own',h1,h2.up (by simp) (fun k hk => .inl hk),fun o ho => ?_⟩;rcases h3 o ho with h | h
 .exact .inl h
 .rw [jH] at h; simp only [lid] at h; exact .inr (by omega)
theorem CIx.top {co fo s':Nat} {mv:V} {c:Ck} {p:Nat × Nat} {ps:List (Nat × Nat)} {f f':Fm} {fs:List Fm} {S T:Store} (hw:S.Wf) (h:CIx co mv c fo (p::ps) S) (hfs:c.fs=f::fs) (hT : ∀ o,o<S.nx->o≠p.1->o≠p.2->T.get o=S.get o)
  (hF:FmI T (p.1,s') f') (hs:s'=p.1\/s'=p.2\/S.nx<=s'):CIx co mv { c with fs:=f'::fs } fo ((p.1,s')::ps) T:=by
 have hlt:=h.lt hw;obtain ⟨⟨fc,h1,h2⟩,h3,h4,h5⟩:=h;rw [hfs] at h3;have a:=h4 p (by simp);have hco:=hlt co (by simp [ownC]);have hfo:=hlt fo (by simp [ownC]);have hd:=List.pairwise_cons.1 h5;refine ⟨⟨fc,(hT co hco (Ne.symm a.1) (Ne.symm a.2.1)).trans h1, ?_⟩,⟨hF,h3.2.keep fun o ho => ?_⟩,fun q hq => ?_,List.pairwise_cons.2 ⟨fun q hq => ?_,hd.2⟩⟩
 .rcases h2 with ⟨_,h2,_⟩ | ⟨rest,h2,h6,h7⟩
  .cases h2
  .exact .inr ⟨rest,h2,(hT fo hfo (Ne.symm a.2.2.1) (Ne.symm a.2.2.2)).trans h6,h7⟩
 .obtain ⟨q,hq,e⟩:=jcD ho;have:=hd.1 q hq;refine hT o (hlt o (by simp [ownC,qG,ho])) ?_ ?_
  .rcases e with rfl | rfl
   .exact Ne.symm this.1
   .exact Ne.symm this.2.1
  .rcases e with rfl | rfl
   .exact Ne.symm this.2.2.1
   .exact Ne.symm this.2.2.2
 .rcases aE.1 hq with rfl | hq
  .refine ⟨a.1, ?_,a.2.2.1, ?_⟩
   .show s'≠co;rcases hs with rfl | rfl | hs
    .exact a.1
    .exact a.2.1
    .omega
   .show s'≠fo;rcases hs with rfl | rfl | hs
    .exact a.2.2.1
    .exact a.2.2.2
    .omega
  .exact h4 q (by simp [hq])
 .have k:=hd.1 q hq;have q1:=hlt q.1 (by simp [ownC,qG,(jau hq).1]);have q2:=hlt q.2 (by simp [ownC,qG,(jau hq).2]);refine ⟨k.1,k.2.1, ?_, ?_⟩
  .show s'≠q.1;rcases hs with rfl | rfl | hs
   .exact k.1
   .exact k.2.2.1
   .omega
  .show s'≠q.2;rcases hs with rfl | rfl | hs
   .exact k.2.1
   .exact k.2.2.2
   .omega
theorem CP.top {co fo s':Nat} {mv:V} {c c':Ck} {p:Nat × Nat} {ps:List (Nat × Nat)} {f f':Fm} {fs:List Fm} {S T:Store} (hw:S.Wf) (h:CIx co mv c fo (p::ps) S) (hfs:c.fs=f::fs) (hc:c'={ c with fs:=f'::fs }) (hn:S.nx<=T.nx) (hT : ∀ o,o<S.nx->o≠p.1->o≠p.2->T.get o=S.get o)
  (hF:FmI T (p.1,s') f') (hs:s'=p.1\/s'=p.2\/S.nx<=s'):CP co mv (ownC co fo (p::ps)) S c' T:=by
 subst hc;refine ⟨_,⟨fo,_,rfl,h.top hw hfs hT hF hs⟩,⟨hn,fun o ho hno=>hT o ho ?_ ?_⟩,fun o ho => ?_⟩
 .rintro rfl; exact hno (by simp [ownC,qG])
 .rintro rfl; exact hno (by simp [ownC,qG])
 .simp only [ownC,qG,aE] at ho ⊢;rcases ho with h | h | h | h | h
  .exact .inl (.inl h)
  .exact .inl (.inr (.inl h))
  .exact .inl (.inr (.inr (.inl h)))
  .rcases hs with hs | hs | hs
   .exact .inl (.inr (.inr (.inl (h.trans hs))))
   .exact .inl (.inr (.inr (.inr (.inl (h.trans hs)))))
   .exact .inr (by omega)
  .exact .inl (.inr (.inr (.inr (.inr h))))
def CkX {α:Type} (P:Program) (f:FuncId) (args:List V) (co:Nat) (mv:V) (B:Nat) (enc:α->V) (p:Ck->CR α):Prop :=
 ∀ (c:Ck) (own:List Nat) (S:Store) (E:EP),CI co mv c own S->okB B c->c.fs≠[]->(∀ e T,p c = .error e->Kept S own T->E (jY 55 e) T) ->
  VCallsX P f args S (fun r T => ∃ x c',p c = .ok (x,c')/\r=enc x/\CP co mv own S c' T) E
def CkU (P:Program) (f:FuncId) (args:List V) (co:Nat) (mv:V) (B:Nat) (p:Ck->Except Flt Ck):Prop :=
 ∀ (c:Ck) (own:List Nat) (S:Store) (E:EP),CI co mv c own S->okB B c->c.fs≠[]->(∀ e T,p c = .error e->Kept S own T->E (jY 55 e) T) ->
  VCallsX P f args S (fun r T => ∃ c',p c = .ok c'/\r = .tuple []/\CP co mv own S c' T) E
theorem CI.cons {co:Nat} {mv:V} {c:Ck} {own:List Nat} {S:Store} (h:CI co mv c own S) (hne:c.fs≠[]) : ∃ fo p ps f fs,c.fs=f::fs/\own=ownC co fo (p::ps)/\CIx co mv c fo (p::ps) S:=by
 obtain ⟨fo,ps,rfl,h⟩:=h;have hl:=h.frm.len;cases hf:c.fs with
 | nil=>exact absurd hf hne
 | cons f fs =>
  cases ps with
  | nil=>rw [hf] at hl; simp at hl
  | cons p ps=>exact ⟨fo,p,ps,f,fs,rfl,rfl,h⟩
theorem CIx.top_at {co fo:Nat} {mv:V} {c:Ck} {p:Nat × Nat} {ps:List (Nat × Nat)} {S:Store} (h:CIx co mv c fo (p::ps) S) : ∃ L,S.get co=some (6,[mv,bI c.k,bI c.op,vl bH c.locals, .slice fo 0 (ps.length+1),bI c.ops])/\S.get fo=some (1,L)/\L[ps.length]? = some (.ptr p.1 0)/\fo≠co/\ps.length+1<=L.length:=by
 obtain ⟨⟨fc,h1,h2⟩,h3,h4,h5⟩:=h;rcases h2 with ⟨_,h2,_⟩ | ⟨rest,h2,h6,h7⟩
 .cases h2
 .refine ⟨_,by rw [h1,h2]; rfl,h6, ?_,h7,by simp⟩;simp [pO]
theorem acf {co fo:Nat} {mv:V} {c:Ck} {p:Nat × Nat} {ps:List (Nat × Nat)} {S:Store} (h:CIx co mv c fo (p::ps) S) (hb:ps.length<1000000):bG 130 [.ptr co 0] S (fun r T=>r = .ptr p.1 0/\T=S):=by
 obtain ⟨L,h1,h2,h3,h4,h5⟩:=h.top_at;refine bE Tryz.func130 Tryz.ntmps130 fun hwf=>?_;have hlt:=h.lt hwf;have l1:=hlt co (by simp [ownC]);have l2:=hlt fo (by simp [ownC]);have l3:=hlt p.1 (by simp [ownC,qG]);have g1 : ∀ l,(St S [] l).get co=_:=fun l=>(jk l1).trans h1;have g2 : ∀ l,(St S [] l).get fo=_:=fun l=>(jk l2).trans h2;obtain ⟨m,hm⟩ : ∃ m,ps.length=m:=⟨_,rfl⟩
 obtain ⟨n,hn⟩ : ∃ n,ps.length+1=n:=⟨_,rfl⟩
 rw [hn] at g1;rw [hm] at h3;have a1:IntKind.i64.wrap ((n:Int)-1)=(m:Int):=by rw [wrap_i64 (by omega) (by omega)]; omega
 have a2:m<n:=by omega
 refine bp g1 g2 h3 a1 a2 ?_;exact jd (X := .ptr p.1 0) hwf rfl (by rw [jdC]; exact bf l3)
theorem avn (co fo:Nat) (mv:V) (c:Ck) (ps:List (Nat × Nat)) (S:Store) (h:CIx co mv c fo ps S) (e:Int) (E:EP) (hE : ∀ T,Kept S [] T->E (jY 55 (c.flt e)) T):VCallsX Tryz.prog 144 [.ptr co 0,bH e] S (fun _ _=>False) E:=by
 obtain ⟨fc,h1,_⟩:=h.obj;refine jc (c:=jf Tryz.f144) Tryz.func144 rfl rfl (by simp [Tryz.ntmps144]) ?_;rw [Tryz.ntmps144];intro hwf;have l1:=h.lt hwf co (by simp [ownC]);have g1 := @old1 S co l1;rw [show St S [] []=St S [(co,some (6,[mv,bI c.k,bI c.op,vl bH c.locals,fc,bI c.ops]))] [] from old0 l1 h1];refine QT ?_;refine XDP E (Zs S [co] [(co,some (6,[.junk,bI c.k,bI c.op, .junk, .junk, .junk]))] []) 12 [0,1,2,3,4,5,6,7,8,9,10,11,12] (ho:=KF _ _ _ _) (hz:=YI (by simp [WG,subO,jm]) (by simp [jW]) (by simp) (by simp)) (r:=by conv=>lhs; simp [QV,↓ju,ZR,Zs,zz,jl,ji,V.nj,V.nj1,V.bK,g1]) (k := ?_);refine jy ?_;have hT:=hE (St S [] []) (jN (by simp));rw [old0 l1 h1] at hT;exact hT
theorem jdr (co fo:Nat) (mv:V) (c:Ck) (ps:List (Nat × Nat)) (S:Store) (h:CIx co mv c fo ps S) (b:Bool) (e:Int) (E:EP) (hE:b=false -> ∀ T,Kept S [] T->E (jY 55 (c.flt e)) T):VCallsX Tryz.prog 129 [.ptr co 0, .bool b,bH e] S (fun r T=>b=true/\r = .tuple []/\T=S) E:=by
 refine jc (c:=jf Tryz.f129) Tryz.func129 rfl rfl (by simp [Tryz.ntmps129]) ?_;rw [Tryz.ntmps129];intro hwf;cases b with
 | true =>
  refine bk ?_;rw [jh hwf];exact jn ⟨rfl,rfl,rfl⟩
 | false =>
  refine bk ?_;refine XQ E ?_;rw [jh hwf];refine jb rfl (avn co fo mv c ps S h e E (hE rfl)) ?_;rintro _ _ h;exact h.elim
theorem acz {S:Store} {o:Nat} {xs ys:List Int} {rest:List V} (ho:S.get o=some (1,xs.map bH++rest)) (hb:xs.length+ys.length<=10000000000000):jB 1 8 S (.slice o 0 xs.length) (vl bH ys)=some (.slice S.nx 0 (xs.length+ys.length),(S.del o).add (1,xs.map bH++ys.map bH)):=by
 have h1:((ys.map bH).all fun x=>x.ncells==1)=true:=by simp
 have h2:(ys.map bH).flatMap V.cells=ys.map bH:=by rw [List.flatMap_map]; exact Ji ys
 simp only [jB,qb,vl];rw [if_pos h1];simp only [h2,aB];rw [ho];simp only;rw [if_pos ⟨trivial,by simp,by omega,by omega⟩];simp
theorem anq {S:Store} {ys:List Int} (hb:ys.length<=10000000000000):jB 1 8 S .nils (vl bH ys)=some (.slice S.nx 0 ys.length,S.add (1,ys.map bH)):=by
 have h1:((ys.map bH).all fun x=>x.ncells==1)=true:=by simp
 have h2:(ys.map bH).flatMap V.cells=ys.map bH:=by rw [List.flatMap_map]; exact Ji ys
 simp only [jB,qb,vl];rw [if_pos h1];simp only [h2,aB];rw [if_pos ⟨by omega,by omega⟩]
theorem jeC (co:Nat) (mv:V) (l:List Int) (B:Nat) (hB:B+l.length<=10000000000000):CkU Tryz.prog 126 [.ptr co 0,vl bH l] co mv B fun c => .ok (Wh l c):=by
 intro c own S E hi hb hne hE;obtain ⟨fo,p,ps,f,fs,hfs,rfl,hx⟩:=hi.cons hne;have hn:=hx.frm.len;rw [hfs] at hn;have hbn:=hb.n;rw [hfs] at hbn;have hbf:=hb.st f (by rw [hfs]; simp);simp only [av] at hn hbn;have hpc:Wh l c={ c with fs:={ f with st:=f.st++l }::fs }:=by unfold Wh; rw [hfs]
 have hfr:=hx.frm;rw [hfs] at hfr;obtain ⟨cell,h1,h2⟩:=hfr.1;refine jc (c:=jf Tryz.f126) Tryz.func126 rfl rfl (by simp [Tryz.ntmps126]) ?_;rw [Tryz.ntmps126];intro hwf;have ht:=(acf hx (by omega)).toX (E:=E);rw [<-jh hwf] at ht;obtain ⟨l1,l2⟩:=hfr.1.lt hwf;have g1 : ∀ l,(St S [] l).get p.1=some (4,[vl bH f.out,vl bH f.lab,cell, .bool f.dead]):=fun l=>(jk l1).trans h1;refine XQ E ?_;refine jb rfl ht ?_;rintro _ _ ⟨rfl,rfl⟩;refine XN ?_;refine jb rfl ht ?_;rintro _ _ ⟨rfl,rfl⟩;have u1 : ∀ c l,(St S [] l).upd p.1 c=St S [(p.1,some c)] l:=fun c l=>by rw [jT l1]; rfl
 rcases h2 with ⟨rfl,hst,hpp⟩ | ⟨rest,rfl,h3,h4⟩
 .have hap:jB 1 8 (St S [] []) .nils (vl bH l)=some (.slice (lid S.nx 0) 0 l.length,St S [] [some (1,l.map bH)]):=by
   rw [anq (by omega),jH,qT]; rfl
  refine XN ?_ (r:=by conv=>lhs;simp[QV,g1,hap,u1]);refine ja ?_;refine bk ?_;refine jn ⟨_,rfl,rfl,CP.top (s':=lid S.nx 0) hwf hx hfs hpc (by rw [jH]; simp [lid]) (fun o ho h1 h2 => ?_) ⟨_,(by rw [jk l1]; simp [uGet]; rfl), .inr ⟨[], ?_, ?_, ?_⟩⟩ (.inr (.inr (by simp [lid])))⟩
  .rw [jk ho]; simp [uGet,h1]
  .simp [hst]
  .simp [hst]
  .simp [lid]; omega
 .have g2:(St S [] []).get p.2=some (1,f.st.map bH++rest):=(jk l2).trans h3;have hap:jB 1 8 (St S [] []) (.slice p.2 0 f.st.length) (vl bH l)=some (.slice (lid S.nx 0) 0 (f.st.length+l.length),St S [(p.2,none)] [some (1,f.st.map bH++l.map bH)]):=by
   rw [acz g2 (by omega),jH,Jv l2,qT]; rfl
  have g3 : ∀ l,(St S [(p.2,none)] l).get p.1=some (4,[vl bH f.out,vl bH f.lab, .slice p.2 0 f.st.length, .bool f.dead]):=fun l=>by rw [jk l1]; simp [uGet,Ne.symm h4,h1]
  have u3 : ∀ c l,(St S [(p.2,none)] l).upd p.1 c=St S [(p.2,none),(p.1,some c)] l:=fun c l=>by rw [jT l1]; simp [uSet,Ne.symm h4]
  refine XN ?_ (r:=by conv=>lhs;simp[QV,g1,hap,g3,u3]);refine ja ?_;refine bk ?_;refine jn ⟨_,rfl,rfl,CP.top (s':=lid S.nx 0) hwf hx hfs hpc (by rw [jH]; simp [lid]) (fun o ho h1 h2 => ?_) ⟨_,(by rw [jk l1]; simp [uGet,Ne.symm h4]; rfl), .inr ⟨[], ?_, ?_, ?_⟩⟩ (.inr (.inr (by simp [lid])))⟩
  .rw [jk ho]; simp [uGet,h1,h2]
  .simp
  .simp
  .simp [lid]; omega
theorem ace (co:Nat) (mv:V) (B:Nat):CkU Tryz.prog 159 [.ptr co 0] co mv B fun c => .ok (dieC c):=by
 intro c own S E hi hb hne hE;obtain ⟨fo,p,ps,f,fs,hfs,rfl,hx⟩:=hi.cons hne;have hn:=hx.frm.len;rw [hfs] at hn;have hbn:=hb.n;rw [hfs] at hbn;simp only [av] at hn hbn;have hpc:dieC c={ c with fs:={ f with st:=[],dead:=true }::fs }:=by unfold dieC; rw [hfs]
 have hfr:=hx.frm;rw [hfs] at hfr;obtain ⟨cell,h1,h2⟩:=hfr.1;refine jc (c:=jf Tryz.f159) Tryz.func159 rfl rfl (by simp [Tryz.ntmps159]) ?_;rw [Tryz.ntmps159];intro hwf;have ht:=(acf hx (by omega)).toX (E:=E);rw [<-jh hwf] at ht;obtain ⟨l1,l2⟩:=hfr.1.lt hwf;have g1 : ∀ l,(St S [] l).get p.1=some (4,[vl bH f.out,vl bH f.lab,cell, .bool f.dead]):=fun l=>(jk l1).trans h1;have u1 : ∀ c l,(St S [] l).upd p.1 c=St S [(p.1,some c)] l:=fun c l=>by rw [jT l1]; rfl
 have g2 : ∀ c l,(St S [(p.1,some c)] l).get p.1=some c:=fun c l=>by rw [jk l1]; simp [uGet]
 have u2 : ∀ c c' l,(St S [(p.1,some c)] l).upd p.1 c'=St S [(p.1,some c')] l:=fun c c' l=>by rw [jT l1]; simp [uSet]
 refine XQ E ?_;refine jb rfl ht ?_;rintro _ _ ⟨rfl,rfl⟩;refine XN ?_;refine jb rfl ht ?_;rintro _ _ ⟨rfl,rfl⟩;refine XN ?_ (r:=by conv=>lhs;simp[QV,g1,u1,g2,u2]);refine ja ?_;refine bk ?_;refine jn ⟨_,rfl,rfl,CP.top (s':=p.1) hwf hx hfs hpc (by rw [jH]; simp [lid]) (fun o ho h1 h2 => ?_) ⟨.nils,(by rw [jk l1]; simp [uGet]), .inl ⟨rfl,rfl,rfl⟩⟩ (.inl rfl)⟩;rw [jk ho]; simp [uGet,h1]
theorem FrL.at {S:Store} : ∀ {ps:List (Nat × Nat)} {fs:List Fm},FrL S ps fs -> ∀ (n:Nat),n<ps.length -> ∃ p f,ps[n]? = some p/\fs[n]? = some f/\FmI S p f
 | p::ps,f::fs,h,0,_=>⟨p,f,rfl,rfl,h.1⟩
 | p::ps,f::fs,h,n+1,hn=>by
  obtain ⟨q,g,h1,h2,h3⟩:=FrL.at h.2 n (by simpa using hn);exact ⟨q,g,by simpa using h1,by simpa using h2,h3⟩
 | [],[],_,n,h=>absurd h (Nat.not_lt_zero _)
 | [],_::_,h,_,_=>h.elim
 | _::_,[],h,_,_=>h.elim
theorem CIx.at {co fo n:Nat} {mv:V} {c:Ck} {ps:List (Nat × Nat)} {S:Store} (h:CIx co mv c fo ps S) (hn:n<ps.length) : ∃ L p f,S.get co=some (6,[mv,bI c.k,bI c.op,vl bH c.locals, .slice fo 0 ps.length,bI c.ops])/\S.get fo=some (1,L)/\L[ps.length-1-n]? = some (.ptr p.1 0)/\c.fs[n]? = some f/\FmI S p f/\fo≠co/\p.1∈uses ps:=by
 obtain ⟨⟨fc,h1,h2⟩,h3,h4,h5⟩:=h;obtain ⟨p,f,k1,k2,k3⟩:=h3.at n hn;rcases h2 with ⟨_,h2,_⟩ | ⟨rest,h2,h6,h7⟩
 .rw [h2] at hn; simp at hn
 .refine ⟨_,p,f,by rw [h1,h2],h6, ?_,k2,k3,h7,(jau (au k1)).1⟩;rw [aL (by simp; omega),List.getElem?_reverse (by simp; omega)];simp only [aB,aQ];rw [show ps.length-1-(ps.length-1-n)=n by omega,k1]
  rfl
theorem CIx.cons_obj {co fo:Nat} {mv:V} {c:Ck} {ps:List (Nat × Nat)} {S:Store} (h:CIx co mv c fo ps S) (hn:0<ps.length):S.get co=some (6,[mv,bI c.k,bI c.op,vl bH c.locals, .slice fo 0 ps.length,bI c.ops]) /\ ∃ L,S.get fo=some (1,L):=by
 obtain ⟨L,p,f,h1,h2,_⟩:=h.at hn;exact ⟨h1,L,h2⟩
theorem ar8 (co:Nat) (mv:V) (n:Nat) (hn64:n<18446744073709551616) : ∀ (c:Ck) (own:List Nat) (S:Store) (E:EP),CI co mv c own S->c.fs.length<=1000000->c.fs≠[]->(∀ e T,JS n c = .error e->Kept S [] T->E (jY 55 e) T) ->
  VCallsX Tryz.prog 160 [.ptr co 0, .int .u64 n] S (fun r T => ∃ l,JS n c = .ok l/\r=vl bH l/\T=S) E:=by
 intro c own S E hi hb hne hE;obtain ⟨fo,ps,rfl,hx⟩:=hi;have hl:=hx.frm.len;have h0:0<ps.length:=by rw [hl]; exact List.length_pos_iff.2 hne
 obtain ⟨h1,L0,h2⟩:=hx.cons_obj h0;obtain ⟨N,hN⟩ : ∃ N,ps.length=N:=⟨_,rfl⟩
 rw [hN] at h1 h0;have hNb:N<=1000000:=by omega
 refine jc (c:=jf Tryz.f160) Tryz.func160 rfl rfl (by simp [Tryz.ntmps160]) ?_;rw [Tryz.ntmps160];intro hwf;have hlt:=hx.lt hwf;have l1:=hlt co (by simp [ownC]);have l2:=hlt fo (by simp [ownC]);have g1 : ∀ l,(St S [] l).get co=_:=fun l=>(jk l1).trans h1;have g2 : ∀ l,(St S [] l).get fo=_:=fun l=>(jk l2).trans h2;have a1:IntKind.u64.wrap (N:Int)=(N:Int):=by rw [jZ]; omega
 by_cases hnN:n<N
 .obtain ⟨L,p,f,k1,k2,k3,k4,k5,k6,k7⟩:=hx.at (n:=n) (by omega);have hlab:JS n c = .ok f.lab:=by simp only [JS,k4]
  have l3:=hlt p.1 (by simp [ownC,k7]);obtain ⟨cell,k8,k9⟩:=k5;have g2 : ∀ l,(St S [] l).get fo=_:=fun l=>(jk l2).trans k2;have g3 : ∀ l,(St S [] l).get p.1=_:=fun l=>(jk l3).trans k8;obtain ⟨m,hm⟩ : ∃ m,ps.length-1-n=m:=⟨_,rfl⟩
  rw [hm] at k3;have a2:IntKind.i64.wrap ((N:Int)-1)=(N:Int)-1:=wrap_i64 (by omega) (by omega);have a3:IntKind.i64.wrap (n:Int)=(n:Int):=wrap_i64 (by omega) (by omega);have a4:IntKind.i64.wrap ((N:Int)-1-(n:Int))=(m:Int):=by rw [wrap_i64 (by omega) (by omega)]; omega
  have a5:m<N:=by omega
  refine bk ?_;refine XQ E ?_ (r:=by conv=>lhs;simp[QV,g1,g2,a1,hnN]);refine jb rfl (by rw [jh hwf]; exact jdr co fo mv c ps S hx true 9 E (fun h=>by cases h)) ?_;rintro _ _ ⟨_,rfl,rfl⟩;refine ja ?_;rw [<-jh hwf]
  repeat first|refine QG ?_|refine QY ?_ (r:=by conv=>lhs;simp[QV,g1,g2,g3,a2,a3,a4,a5,k3])
  rw [jh hwf];exact jn ⟨_,hlab,rfl,rfl⟩
 .have hlab:JS n c = .error (c.flt 9):=by simp only [JS]; rw [aC (by omega)]
  refine bk ?_;refine XQ E ?_ (r:=by conv=>lhs;simp[QV,g1,g2,a1,hnN]);refine jb rfl (by rw [jh hwf]; exact jdr co fo mv c ps S hx false 9 E (fun _ T hk=>hE _ T hlab hk)) ?_;rintro _ _ ⟨h,_⟩;cases h
theorem aab (co:Nat) (mv:V) (t:Int) (B:Nat) (hB:B<=10000000000000):CkX Tryz.prog 141 [.ptr co 0,bH t] co mv B bH (popC t):=by
 intro c own S E hi hb hne hE;have hi0:=hi;obtain ⟨fo,p,ps,f,fs,hfs,rfl,hx⟩:=hi.cons hne;have hn:=hx.frm.len;rw [hfs] at hn;have hbn:=hb.n;rw [hfs] at hbn;have hbf:=hb.st f (by rw [hfs]; simp);simp only [av] at hn hbn;have hfr:=hx.frm;rw [hfs] at hfr;obtain ⟨cell,h1,h2⟩:=hfr.1;refine jc (c:=jf Tryz.f141) Tryz.func141 rfl rfl (by simp [Tryz.ntmps141]) ?_;rw [Tryz.ntmps141];intro hwf;have ht:=(acf hx (by omega)).toX (E:=E);rw [<-jh hwf] at ht;obtain ⟨l1,l2⟩:=hfr.1.lt hwf;have g1 : ∀ l,(St S [] l).get p.1=some (4,[vl bH f.out,vl bH f.lab,cell, .bool f.dead]):=fun l=>(jk l1).trans h1;refine bk ?_;refine XQ E ?_;refine jb rfl ht ?_;rintro _ _ ⟨rfl,rfl⟩;refine XN ?_;refine ja ?_;by_cases hst:f.st=[]
 .have a1:IntKind.i64.wrap (-1) = -1:=wrap_i64 (by omega) (by omega);have key:(cell = .nils)\/(∃ s',s'=p.2/\cell = .slice s' 0 0 /\ ∀ l,((St S [] l).get s').isSome=true):=by
   rcases h2 with ⟨h,_⟩ | ⟨rest,h,h3,_⟩
   .exact .inl h
   .exact .inr ⟨p.2,rfl,by rw [h,hst]; rfl,fun l=>by rw [jk l2,h3]; rfl⟩
  have hpp:popC t c=if f.dead=true then .ok (t,c) else .error (c.flt 10):=by unfold popC; rw [hfs]; simp only; rw [if_pos hst]
  obtain ⟨d,hd⟩ : ∃ d,f.dead=d:=⟨_,rfl⟩
  rw [hd] at hpp g1;rcases key with rfl | ⟨s',_,rfl,hs'⟩
  .refine bm g1 a1 ?_;refine XQ E ?_ (r:=by conv=>lhs;simp[QV,g1]);refine jb rfl (by rw [jh hwf]; exact jdr co fo mv c (p::ps) S hx d 10 E (fun h T hk=>hE _ T (by rw [hpp,h]; rfl) (hk.weak (by simp)))) ?_;rintro _ _ ⟨rfl,rfl,rfl⟩;refine ja ?_;refine bk ?_;exact jn ⟨t,c,hpp,rfl,CP.refl hi0⟩
  .refine bj g1 a1 hs' ?_;refine XQ E ?_ (r:=by conv=>lhs;simp[QV,g1]);refine jb rfl (by rw [jh hwf]; exact jdr co fo mv c (p::ps) S hx d 10 E (fun h T hk=>hE _ T (by rw [hpp,h]; rfl) (hk.weak (by simp)))) ?_;rintro _ _ ⟨rfl,rfl,rfl⟩;refine ja ?_;refine bk ?_;exact jn ⟨t,c,hpp,rfl,CP.refl hi0⟩
 .obtain ⟨xs,x,hxx⟩ : ∃ xs x,f.st=xs++[x]:=⟨f.st.dropLast,f.st.getLast hst,(List.dropLast_concat_getLast hst).symm⟩
  have hlast:f.st.getLast?.getD 0=x:=by rw [hxx]; simp
  have hdrop:f.st.dropLast=xs:=by rw [hxx]; simp
  have hpp:popC t c=if x=0 then .ok (t,{ c with fs:={ f with st:=xs }::fs }) else if t≠0/\x≠t then .error (c.flt 10) else .ok (x,{ c with fs:={ f with st:=xs }::fs }):=by
   unfold popC; rw [hfs]; simp only; rw [if_neg hst,hlast,hdrop]
  rcases h2 with ⟨_,h,_⟩ | ⟨rest,rfl,h3,h4⟩
  .exact absurd h hst
  .rw [hxx] at g1 h3 hbf;obtain ⟨n,hn1⟩ : ∃ n,xs.length=n:=⟨_,rfl⟩
   have hlen:(xs++[x]).length=n+1:=by simp [hn1]
   rw [hlen] at g1 hbf;obtain ⟨n1,hn2⟩ : ∃ n1,n+1=n1:=⟨_,rfl⟩
   rw [hn2] at g1 hbf;have a1:IntKind.i64.wrap ((n1:Int)-1)=(n:Int):=by rw [wrap_i64 (by omega) (by omega)]; omega
   have a2:n<n1:=by omega
   have a3:n<=n1:=by omega
   obtain ⟨C,hC⟩ : ∃ C,(xs++[x]).map bH++rest=C:=⟨_,rfl⟩
   rw [hC] at h3;have hCn:C[n]? = some (.int .i64 x):=by rw [<-hC]; simp [<-hn1,bH]
   have hC2:C=xs.map bH++(bH x::rest):=by rw [<-hC]; simp
   have g2 : ∀ l,(St S [] l).get p.2=some (1,C):=fun l=>(jk l2).trans h3;have u1 : ∀ c l,(St S [] l).upd p.1 c=St S [(p.1,some c)] l:=fun c l=>by rw [jT l1]; rfl
   have hfin:CP co mv (ownC co fo (p::ps)) S { c with fs:={ f with st:=xs }::fs } (St S [(p.1,some (4,[vl bH f.out,vl bH f.lab, .slice p.2 0 n, .bool f.dead]))] []):=by
    refine CP.top (s':=p.2) hwf hx hfs rfl (by rw [jH]; simp [lid]) (fun o ho h1 h2=>by rw [jk ho]; simp [uGet,h1]) ⟨.slice p.2 0 n,(by rw [jk l1]; simp [uGet]), .inr ⟨bH x::rest,by rw [hn1], ?_,h4⟩⟩ (.inr (.inl rfl));rw [jk l2]; simp [uGet,h4,h3,hC2]
   have hx2:=hx.top (T:=St S [(p.1,some (4,[vl bH f.out,vl bH f.lab, .slice p.2 0 n, .bool f.dead]))] []) (s':=p.2) (f':={ f with st:=xs }) hwf hfs (fun o ho h1 h2=>by rw [jk ho]; simp [uGet,h1]) ⟨.slice p.2 0 n,(by rw [jk l1]; simp [uGet]), .inr ⟨bH x::rest,by rw [hn1],(by rw [jk l2]; simp [uGet,h4,h3,hC2]),h4⟩⟩ (.inr (.inl rfl));by_cases hx0:x=0
   .subst hx0
    repeat first|refine QG ?_|refine QY ?_ (r:=by conv=>lhs;simp[QV,g1,a1,a2,a3,hCn,g2,u1])
    exact jn ⟨t,_,by rw [hpp,if_pos rfl],rfl,hfin⟩
   .rw [if_neg hx0] at hpp;by_cases ht0:t=0
    .subst ht0
     repeat first|refine QG ?_|refine QY ?_ (r:=by conv=>lhs;simp[QV,g1,a1,a2,a3,hCn,g2,u1,hx0])
     exact jn ⟨x,_,by rw [hpp,if_neg (by simp)],rfl,hfin⟩
    .repeat first|refine QG ?_|refine QY ?_ (r:=by conv=>lhs;simp[QV,g1,a1,a2,a3,hCn,g2,u1,hx0,ht0])
     by_cases hxt:x=t
     .subst hxt;refine XQ E ?_;refine jb rfl (jdr co fo mv _ _ _ hx2 true 10 E (fun h=>by cases h)) ?_;rintro _ _ ⟨_,rfl,rfl⟩;refine ja ?_;refine bk ?_;exact jn ⟨x,_,by rw [hpp,if_neg (fun h=>h.2 rfl)],rfl,hfin⟩
     .refine XQ E ?_ (r:=by conv=>lhs;simp[QV,hxt]);refine jb rfl (jdr co fo mv _ _ _ hx2 false 10 E (fun _ T hk=>hE _ T (by rw [hpp,if_pos ⟨ht0,hxt⟩]; rfl) ?_)) ?_
      .exact hk.up (by simp [ownC,qG]) (by simp)
      .rintro _ _ ⟨h,_⟩;cases h
theorem awp {f:FuncId} {P:Program} {N b:Nat} {m0:Imm} {β0:Objs} {w0:World} {R:Exit->Act->World->Prop} {c:Code} {σ:Fr} {S S':Store} (h:S'=S) (k:VGF f P N b m0 β0 w0 R c σ S'):VGF f P N b m0 β0 w0 R c σ S:=h▸k
theorem afo {P:Program} {N l r b:Nat} {rec:Loop} {m0:Imm} {β0:Objs} {w0:World} {Q:Exit->Fr->Store->Prop} {σ:Fr} {S:Store} {c:Code} (j:Nat) {o:Oper} {cl:Call} {fz:Arg} {args:List Arg} {cs1 cs2:List CO} {σ1 σ0:Fr} {S1:Store} {x1 x2:V} {Nr p1 p2:Nat} {assign body:Code} {E:EP} (hL:LoopAt l r rec m0 β0 w0) (hR:Ready P Nr p1 p2 assign body rec) (hF0:FrameRep Nr m0 β0 σ0 { tmps:=rec.tmps,defers:=[] })
  (hQ : ∀ ch σ S,E ch S->Q (.panic ch) σ S) (hQo : ∀ σ S, ¬ Q .outgrown σ S) (h:Code.kind c=1) (hj:(Code.ops c)[j]? = some o) (hc1:((Code.ops c).toList.take j).mapM (za P N (Code.ops c))=some cs1)
  (hc2:((Code.ops c).toList.drop (j+1)).mapM (za P N (Code.ops c))=some cs2) (hgs:((Code.ops c).toList.take j).all (fun o=>o.guard.isNone)=true) (hdf:(Code.ops c).toList.all (fun o => !Op.isDefer o.op)=true) (hg:o.guard=none) (hd : ∀ t,o.dst=some t->t<N) (r1:runV none cs1 σ S=some ([],σ1,S1))
  (ho:o.op = .call cl) (hcc:zu P cl=some (.callv fz args)) (hfz:ev σ1 fz = .raw (.func (.yield l) #[] #[])) (ha:args.map (ev σ1)=[x1,x2]) (hbase : ∀ m β w,Holds S1 m β w->ExtB b m0 β0 w0 m β w->Ext m0 β0 w0 m β w)
  (H:RoundV P Nr l assign body ((σ0.set p1 x1).set p2 x2) S1 (fun S2=>qF P E cs2 (Q .normal) (σ1.put o.dst (.bool true)) S2) E):VWpR P N l b m0 β0 w0 c Q σ S:=by
 have hjl:(Code.ops c).toList[j]? = some o:=by rw [<-hj]; simp
 obtain ⟨hlt,hj2⟩:=ab.1 hjl;have hops:(Code.ops c).toList=(Code.ops c).toList.take j++o::(Code.ops c).toList.drop (j+1):=by
  rw [<-hj2, <-aj hlt,List.take_append_drop]
 refine ajz hL hR hF0 hQ hQo h hops hc1 hc2 hgs ?_ hg hd r1 ho hcc hfz ha hbase H;rw [List.all_append,ae];rw [hops,List.all_append,ae,List.all_cons,ae] at hdf;exact ⟨hdf.1,hdf.2.2⟩
theorem aif (l:List Int) (S:Store):bG 143 [vl bH l] S (fun r T=>r = .func 164 [.ptr (lid S.nx 0) 0]/\T=St S [] [some (1,[vl bH l])]):=by
 refine bE Tryz.func143 Tryz.ntmps143 fun hwf=>?_;refine bk ?_;exact jn ⟨rfl,rfl⟩
theorem ago {l:List Int} {k:Nat} (h:k<l.length) (c:Ck):zM (l.drop k) c=match zM (l.drop (k+1)) c with
  | .error e => .error e
  | .ok (xs,c1)=>match popC l[k] c1 with
   | .error e => .error e
   | .ok (x,c2) => .ok (x::xs,c2):=by rw [aj h]; rfl
theorem adm : ∀ {l:List Int} {k:Nat} {c:Ck} {e:Flt},zM (l.drop k) c = .error e->zM l c = .error e
 | l,0,c,e,h=>h
 | [],k+1,c,e,h=>by simp at h; exact h
 | t::l,k+1,c,e,h=>by
  simp only [zM];rw [adm (l:=l) (k:=k) (by simpa using h)]
theorem CI.keep {co:Nat} {mv:V} {c:Ck} {own:List Nat} {S T:Store} (h:CI co mv c own S) (hk : ∀ o∈own,T.get o=S.get o):CI co mv c own T:=by
 obtain ⟨fo,ps,rfl,h⟩:=h;exact ⟨fo,ps,rfl,h.keep hk⟩
def DP (co cb obx oa n:Nat):Store:=⟨fun o=>if o=cb then some (1,[.ptr co 0]) else if o=obx then some (1,[.slice oa 0 n]) else if o=oa then some (1,List.replicate n .junk) else none,0⟩
theorem ahj {co cb obx oa n:Nat} {X T:Store} {own:List Nat} {cs:List V} (h1:X.get cb=some (1,[.ptr co 0])) (h2:X.get obx=some (1,[.slice oa 0 n])) (h3:X.get oa=some (1,cs)) (h4:cs.length=n) (hk:Kept T (oa::own) X) :
  ZX.ok ⟨DP co cb obx oa n,DP co cb obx oa n,T,oa::own,T.nx,false⟩ X:=by
 have key : ∀ o d,(DP co cb obx oa n).get o=some d -> ∃ d',X.get o=some d'/\d'.1=d.1/\d'.2.length=d.2.length /\ ∀ (i:Nat) x,d.2[i]? = some x->x = .junk\/d'.2[i]? = some x:=by
  intro o d hd;simp only [DP] at hd;split at hd
  .rename_i e; subst e; cases hd; exact ⟨_,h1,rfl,rfl,fun i x h => .inr h⟩
  .split at hd
   .rename_i e; subst e; cases hd; exact ⟨_,h2,rfl,rfl,fun i x h => .inr h⟩
   .split at hd
    .rename_i e; subst e; cases hd;refine ⟨_,h3,rfl,by simp [h4],fun i x h => .inl ?_⟩;rw [List.getElem?_replicate] at h;split at h
     .cases h; rfl
     .cases h
    .cases hd
 exact ⟨key,fun o d hd=>by obtain ⟨d',k1,k2,_⟩:=key o d hd; exact ⟨d',k1,k2⟩,hk,hk.1⟩
theorem avl {co cb obx oa n:Nat} {T:Store} {own:List Nat} (h1:cb<T.nx) (h2:obx<T.nx) (h3:oa<T.nx):ZX.old ⟨DP co cb obx oa n,DP co cb obx oa n,T,oa::own,T.nx,false⟩:=by
 have key : ∀ o d,(DP co cb obx oa n).get o=some d->o<T.nx:=by
  intro o d hd;simp only [DP] at hd;split at hd
  .rename_i e; subst e; exact h1
  .split at hd
   .rename_i e; subst e; exact h2
   .split at hd
    .rename_i e; subst e; exact h3
    .cases hd
 exact ⟨key,key,aT _⟩
def PInv (co:Nat) (mv:V) (c:Ck) (own:List Nat) (l:List Int) (oa:Nat) (T0:Store) (k:Nat) (T:Store):Prop :=
 ∃ xs c1 own1,zM (l.drop k) c = .ok (xs,c1)/\CI co mv c1 own1 T/\Kept T0 (oa::own) T/\(∀ o∈own1,o∈own\/T0.nx<=o)/\T.get oa=some (1,(List.replicate k (0:Int)++xs).map bH)
theorem att (k:Nat) (x:Int) (xs:List Int):((List.replicate (k+1) (0:Int)++xs).map bH).set k (bH x)=(List.replicate k (0:Int)++x::xs).map bH:=by
 rw [<-List.map_set,List.replicate_succ',List.append_assoc,List.set_append_right _ _ (by simp)];simp
theorem jca (co:Nat) (mv:V) (l:List Int) (B:Nat) (hB:B<=10000000000000) (hll:l.length<=1000000):CkX Tryz.prog 128 [.ptr co 0,vl bH l] co mv B (vl bH) (zM l):=by
 intro c own S E hi hb hne hE;refine KV fun hwf=>Yq (jfl (c:=jf Tryz.f128) Tryz.func128 rfl (by simp [Tryz.ntmps128]) fun m0 β0 w0 hS _ => ?_);rw [Tryz.ntmps128];have hco:=hi.lt hwf co hi.co;have hlt:=hi.lt hwf;obtain ⟨n,hn⟩ : ∃ n,l.length=n:=⟨_,rfl⟩
 obtain ⟨Z,hZ⟩ : ∃ Z,(List.replicate n (0:Int)).map bH=Z:=⟨_,rfl⟩
 have mk : ∀ S,YN 1 8 [V.int .i64 0] S (.int .i64 (n:Int)) (.int .i64 (n:Int))=some (.slice S.nx 0 n,S.add (1,Z)):=fun S=>by
  rw [jeE (S:=S) (s:=1) (b:=8) (zero:=[V.int .i64 0]) (n:=n) (by omega) (by omega), <-hZ];simp [rep0]
 refine awp (jh hwf) (abw rfl ?_);refine QP ?_;refine ⟨rfl,abw rfl ?_⟩;refine QP ?_ (r:=by conv=>lhs;simp[QV,hn,mk]);refine ⟨rfl, ?_⟩;refine ak5 (hc:=rfl) Tryz.func128 (by (conv=>lhs; reduce)) hS ?_;refine QP ?_;refine Kn rfl (aif l _) ?_;rintro _ _ ⟨rfl,rfl⟩;refine QN ?_;refine ⟨rfl, ?_⟩;rw [agt];obtain ⟨T0,hT0⟩ : ∃ T0,St S [] ([some (1,[V.ptr co 0]),some (1,Z),some (1,[.slice (lid S.nx 1) 0 n])]++[some (1,[vl bH l])])=T0:=⟨_,rfl⟩
 have gcb:T0.get (lid S.nx 0)=some (1,[.ptr co 0]):=by rw [<-hT0]; simp
 have goa:T0.get (lid S.nx 1)=some (1,Z):=by rw [<-hT0]; simp
 have gob:T0.get (lid S.nx 2)=some (1,[.slice (lid S.nx 1) 0 n]):=by rw [<-hT0]; simp
 have gsb:T0.get (lid S.nx 3)=some (1,[vl bH l]):=by rw [<-hT0]; simp
 have hnx:T0.nx=S.nx+4:=by rw [<-hT0,jH]; simp [lid]
 have hi0:CI co mv c own T0:=by rw [<-hT0]; exact hi.up hwf _
 have hk0:Kept S [] T0:=by rw [<-hT0]; exact jN (by simp)
 rw [hT0];simp only [jH,av,aF];rw [show lid (lid S.nx (0+1+1+1)) 0=lid S.nx 3 from rfl];have oc:S.nx<=lid S.nx 0/\lid S.nx 0<T0.nx:=by rw [hnx]; simp [lid]
 have oo:S.nx<=lid S.nx 1/\lid S.nx 1<T0.nx:=by rw [hnx]; simp [lid]
 have ob:S.nx<=lid S.nx 2/\lid S.nx 2<T0.nx:=by rw [hnx]; simp [lid]
 have os:S.nx<=lid S.nx 3/\lid S.nx 3<T0.nx:=by rw [hnx]; simp [lid]
 have d1:lid S.nx 0≠lid S.nx 1:=by simp [lid]
 have d2:lid S.nx 2≠lid S.nx 1:=by simp [lid]
 have d3:lid S.nx 3≠lid S.nx 1:=by simp [lid]
 have d4:lid S.nx 0≠lid S.nx 2:=by simp [lid]
 clear hT0;obtain ⟨cb,hcb⟩ : ∃ cb,lid S.nx 0=cb:=⟨_,rfl⟩
 obtain ⟨oa,hoa⟩ : ∃ oa,lid S.nx 1=oa:=⟨_,rfl⟩
 obtain ⟨obx,hob⟩ : ∃ obx,lid S.nx 2=obx:=⟨_,rfl⟩
 obtain ⟨sb,hsb⟩ : ∃ sb,lid S.nx 3=sb:=⟨_,rfl⟩
 simp only [hcb,hoa,hob,hsb] at gcb goa gob gsb oc oo ob os d1 d2 d3 d4 ⊢;have nown : ∀ o,S.nx<=o->o∉own:=fun o h hm=>by have:=hlt o hm; omega
 have kept_at : ∀ {T:Store} {o:Nat},Kept T0 (oa::own) T->S.nx<=o->o<T0.nx->o≠oa->T.get o=T0.get o:=fun hk h1 h2 h3=>hk.2 _ h2 (by simp only [aE,not_or]; exact ⟨h3,nown _ h1⟩);have keptS : ∀ {T T':Store} {own1:List Nat},Kept T0 (oa::own) T->(∀ o∈own1,o∈own\/T0.nx<=o)->Kept T own1 T'->Kept S own T':=fun {T T' own1} h1 h2 h3=>by
  have n1:=h1.1;have n2:=h3.1;refine ⟨by omega,fun o ho hno => ?_⟩;have e1:T'.get o=T.get o:=h3.2 o (by omega) fun hm=>by
   rcases h2 o hm with h | h
   .exact hno h
   .omega
  have e2:T.get o=T0.get o:=h1.2 o (by omega) (by simp only [aE,not_or]; exact ⟨by omega,hno⟩);rw [e1,e2,hk0.2 o ho (by simp)]
 refine ⟨164,[.ptr sb 0],rfl,by kernel_rfl,by decide,by decide,PInv co mv c own l oa T0 0, ?_, ?_⟩
 .intro lr r rec m β w hH hL hRd hF;refine au5 hH hL Tryz.func164 rfl rfl (by simp [Tryz.ntmps164]) ?_;rw [Tryz.ntmps164];have a1:IntKind.i64.wrap ((n:Int)-1)=(n:Int)-1:=wrap_i64 (by omega) (by omega);refine KZ rfl (jcN hL ?_);refine QP ?_ (r:=by conv=>lhs;simp[QV,gsb,hn,a1]);refine jcO 0 rfl rfl (ahn [0,1,3] rfl (fun j σ T => ∃ k:Nat,j=k/\k<=n/\PInv co mv c own l oa T0 k T/\σ=[(0, .raw (.func (.yield lr) #[] #[])),(1, .ptr sb 0),(3, .int .i64 ((k:Int)-1))]) n ?_ ?_)
  .refine ⟨n,rfl,aT _,⟨[],c,own,by rw [<-hn,List.drop_length]; rfl,hi0,Kept.refl _ _,fun o h => .inl h,by rw [goa, <-hZ,List.append_nil]⟩,by simp [Fr.oy,Fr.lk]⟩
  .rintro k σ T ⟨_,rfl,hk,⟨xs,c1,own1,p1,p2,p3,p4,p5⟩,rfl⟩;have gs:=(kept_at p3 os.1 os.2 d3).trans gsb;have gc:=(kept_at p3 oc.1 oc.2 d1).trans gcb;have go':=(kept_at p3 ob.1 ob.2 d2).trans gob;have s1:=zQ p1;have b1:=(WE hb p1).1;have f1:c1.fs≠[]:=fun h=>by have:=s1.n; rw [h] at this; exact hne (List.length_eq_zero_iff.1 this.symm)
   cases k with
   | zero =>
    refine KZ rfl (KZ rfl (jcN hL ?_));refine QY ?_;refine jbj rfl (t:=false) rfl rfl (fun h=>by cases h) fun _=>jcN hL ?_;refine QT ?_;refine aba 0 rfl rfl ?_;exact ⟨xs,c1,own1,p1,p2,p3,p4,p5⟩
   | succ k =>
    obtain ⟨kk,hkk⟩ : ∃ kk:Nat,k+1=kk:=⟨_,rfl⟩
    have e1:(((k+1:Nat):Int)-1)=(k:Int):=by omega
    rw [e1];have hlk:k<l.length:=by omega
    have e2:decide (0<=(k:Int))=true:=by simp
    refine KZ rfl (KZ rfl (jcN hL ?_));refine QY ?_ (r:=by conv=>lhs;simp[QV,e2]);refine jbj rfl (t:=true) rfl rfl (fun _=>jcN hL ?_) (fun h=>by cases h);refine QT ?_;refine Kl rfl ?_;refine KZ rfl (jcO 1 rfl rfl (KZ rfl ?_));refine afo 6 (E:=E) hL hRd hF (fun ch σ S h=>h) (fun σ S h=>h) rfl (by (conv=>lhs; reduce)) (by (conv=>lhs; reduce)) (by (conv=>lhs; reduce)) rfl rfl rfl (by decide) (by conv=>lhs; simp [QV,gs,hlk]) rfl rfl rfl rfl (fun m' β' w' h1 h2=>Jx hH h2) ?_;unfold RoundV;refine anj rfl (jeq (fun _ _=>False) (fun _ _ _ h=>h.elim) (fun σ S h=>h) rfl rfl (by (conv=>lhs; reduce)) ?_);refine XN ?_;refine ja ?_;refine jeq (fun _ _=>False) (fun _ _ _ h=>h.elim) (fun σ S h=>h) rfl rfl (by (conv=>lhs; reduce)) ?_;refine XN ?_;refine ja ?_;have nx1:T0.nx<=T.nx:=p3.1;have dg1:(DP co cb obx oa n).get cb=some (1,[.ptr co 0]):=by simp [DP]
    have dg2:(DP co cb obx oa n).get obx=some (1,[.slice oa 0 n]):=by simp [DP,Ne.symm d4]
    have lh:((List.replicate (k+1) (0:Int)++xs).map bH).length=n:=by
     have:=(WE hb p1).2;rw [List.length_drop] at this;simp; omega
    refine afn 1 rfl rfl (ap1 E ⟨DP co cb obx oa n,DP co cb obx oa n,T,oa::own1,T.nx,false⟩ [] [0,1,2,3,4,5,6] [19] rfl (by kernel_rfl) (by (conv=>lhs; reduce)) (by (conv=>lhs; reduce)) (by kernel_rfl) (fun ch σ S h=>h) (fun σ S h=>h) rfl (by kernel_rfl) (by kernel_rfl) (by kernel_rfl) (avl (by omega) (by omega) (by omega)) (ahj gc go' p5 lh (Kept.refl _ _)) ?_);refine ZM (r:=by conv=>lhs;simp[QV,↓ju,ZR,Zs,zz,jl,ji,V.nj,V.nj1,V.bK,dg1,dg2]) (k:=?_);refine qM rfl rfl rfl ((aab co mv l[k] B hB c1 own1 T E p2 b1 f1 ?_).mono ?_ fun _ _ h=>h)
    .intro e T' he hk';exact hE e T' (adm (k:=k) (by rw [ago hlk,p1]; simp only; rw [he])) (keptS p3 p4 hk')
    .rintro _ T' ⟨x,c2,q1,rfl,own2,q2,q3,q4⟩;have n1 : ∀ o,S.nx<=o->o<T0.nx->o∉own1:=fun o h1 h2 hm=>by
      rcases p4 o hm with h | h
      .exact nown o h1 h
      .omega
     have n2 : ∀ o,S.nx<=o->o<T0.nx->o∉own2:=fun o h1 h2 hm=>by
      rcases q4 o hm with h | h
      .exact n1 o h1 h2 h
      .omega
     have at' : ∀ o,S.nx<=o->o<T0.nx->T'.get o=T.get o:=fun o h1 h2=>q3.2 o (by omega) (n1 o h1 h2);have goa':=(at' oa oo.1 oo.2).trans p5;have hkT:Kept T (oa::own1) T':=q3.weak fun o h=>by simp [h]
     refine ⟨ahj ((at' cb oc.1 oc.2).trans gc) ((at' obx ob.1 ob.2).trans go') goa' lh hkT, ?_⟩;have hkn:k<n:=by omega
     have dg3:(DP co cb obx oa n).get oa=some (1,List.replicate n .junk):=by simp [DP,Ne.symm d1,Ne.symm d2]
     have di:jz 1 (DP co cb obx oa n) (V.slice oa 0 n) (.int .i64 (k:Int))=some (.ptr oa k):=by simp [jz,dg3,hkn]
     refine ZM (r:=by conv=>lhs;simp[QV,↓ju,ZR,Zs,zz,jl,ji,V.nj,V.nj1,V.bK,di]) (k:=?_);obtain ⟨C,hC⟩ : ∃ C,(List.replicate (k+1) (0:Int)++xs).map bH=C:=⟨_,rfl⟩
     have hset:=att k x xs;rw [hC] at goa' lh hset;have hkC:k<C.length:=by omega
     refine jo rfl (by conv=>lhs; simp [QV,goa',hkC]) ?_ ?_
     .refine ahj (cs:=C.set k (bH x)) ?_ ?_ ?_ (by simp [lh]) ⟨hkT.1,fun o ho hno => ?_⟩
      .rw [jQ,if_neg d1]; exact (at' cb oc.1 oc.2).trans gc
      .rw [jQ,if_neg d2]; exact (at' obx ob.1 ob.2).trans go'
      .rw [jQ,if_pos rfl]; rfl
      .rw [jQ,if_neg (by simp only [aE,not_or] at hno; exact hno.1)];exact hkT.2 o ho hno
     refine jy ?_;obtain ⟨U,hU⟩ : ∃ U,T'.upd oa (1,C.set k (bH x))=U:=⟨_,rfl⟩
     have pinv:PInv co mv c own l oa T0 k U:=by
      refine ⟨x::xs,c2,own2,by rw [ago hlk,p1]; simp only; rw [q1], ?_, ?_, ?_, ?_⟩
      .exact q2.keep fun o ho=>by rw [<-hU,jQ,if_neg]; rintro rfl; exact n2 _ oo.1 oo.2 ho
      .have n3:=q3.1;refine ⟨by rw [<-hU]; show T0.nx<=T'.nx; omega,fun o ho hno => ?_⟩;have hno' : ¬ o=oa/\o∉own:=by simpa using hno
       rw [<-hU,jQ,if_neg hno'.1,q3.2 o (by omega) (fun hm => ?_)]
       .exact p3.2 o ho hno
       .rcases p4 o hm with h | h
        .exact hno'.2 h
        .omega
      .intro o ho;rcases q4 o ho with h | h
       .exact p4 o h
       .exact .inr (by omega)
      .rw [<-hU,jQ,if_pos rfl, <-hset]
     rw [show T'.upd oa (1,C.set k (V.int IntKind.i64 x))=U from hU]
     change qF Tryz.prog E _ _ _ _
     refine XN ?_;refine ja ?_;refine jbj rfl (t:=false) rfl rfl (fun h=>by cases h) fun _=>jcN hL ?_;refine QT ?_;refine Kl rfl ?_;have a2:IntKind.i64.wrap ((k:Int)-1)=(k:Int)-1:=wrap_i64 (by omega) (by omega);refine jcN hL ?_;refine QY ?_ (r:=by conv=>lhs;simp[QV,a2]);exact ⟨k,by omega,k,rfl,by omega,pinv,by simp [Fr.oy,Fr.lk]⟩
 .rintro T v ds ⟨xs,c1,own1,p1,p2,p3,p4,p5⟩;have go':=(kept_at p3 ob.1 ob.2 d2).trans gob;have hxl:=(WE hb p1).2;rw [List.drop_zero] at hxl p1;refine JM rfl (aiu (fun _ _=>False) (fun _ _ _ h=>h.elim) (fun σ S h=>by cases h.1) rfl rfl (by (conv=>lhs; reduce)) ?_);refine XN ?_ (r:=by conv=>lhs;simp[QV,go']);refine ja ?_;refine aa1 rfl ⟨rfl,T,[.slice oa 0 n],Seen.refl T,by conv=>lhs; simp [resL,qC], ?_⟩;have n1 : ∀ o,S.nx<=o->o<T0.nx->o∉own1:=fun o h1 h2 hm=>by
   rcases p4 o hm with h | h
   .exact nown o h1 h
   .omega
  have hfz:=frzS (enc:=bH) (s:=1) (S:=T) (o:=oa) (fun _=>rfl) (fun _=>rfl) xs (by rw [p5,Ji]; rfl);rw [hxl,hn] at hfz;refine ⟨vl bH xs,T.del oa,hfz.toB _,xs,c1,p1,rfl,own1,p2.keep fun o ho => ?_, ?_,fun o ho => ?_⟩
  .rw [ZU,if_neg]; rintro rfl; exact n1 _ oo.1 oo.2 ho
  .have:=keptS p3 p4 (Kept.refl T own1);refine ⟨this.1,fun o ho hno => ?_⟩;rw [ZU,if_neg (by omega)];exact this.2 o ho hno
  .rcases p4 o ho with h | h
   .exact .inl h
   .exact .inr (by omega)
end Go.Vw
