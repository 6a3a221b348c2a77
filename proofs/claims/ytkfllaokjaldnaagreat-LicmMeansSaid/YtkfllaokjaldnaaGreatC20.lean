import Derived.Test.YtkfllaokjaldnaaGreatC19
/- Part of the proof. -/
set_option linter.unusedVariables false
set_option linter.unusedSimpArgs false
set_option maxRecDepth 10000
set_option maxHeartbeats 4000000
namespace Ev
def fitP:List Int->List Int->Prop
 | t::ts,n::ns=>fits t n=true/\fitP ts ns
 | _,_=>True
theorem jde (l:List Int):fitP [] l:=by cases l<;>exact trivial
theorem YX : ∀ {ts ns:List Int},fitsL ts ns=true->fitP ts ns
 | [],ns,_=>jde ns
 | t::ts,[],_=>trivial
 | t::ts,n::ns,h=>by
  simp only [fitsL,af] at h;exact ⟨h.1,YX h.2⟩
structure Ty (ts v:List Int):Prop where
 len:v.length=ts.length
 u : ∀ y∈v,U64 y
 fit : ∀ a:Nat,a<ts.length->fits (ts.getD a 0) (v.getD a 0)=true
theorem apv {t:Int} (h:Ss.isKind t=true):fits t 0=true:=by
 simp only [Ss.isKind,bk,aj] at h;rcases h with rfl | rfl<;>decide
theorem ajj {n:Nat} {ts:List Int} (h:Ss.kinds n ts=true):Ty ts (List.replicate ts.length 0):=by
 simp only [Ss.kinds,af,aD] at h;refine ⟨by simp,fun y hy=>by rw [List.eq_of_mem_replicate hy]; exact aaq,fun a ha => ?_⟩;have e1:(List.replicate ts.length (0:Int)).getD a 0=0:=by simp [ag,List.getElem?_replicate,ha]
 have e2:ts.getD a 0=ts[a]:=by simp [ag,ac ha]
 rw [e1,e2];exact apv (h.2 _ (ah ha))
theorem Jn {ts:List Int} : ∀ (v is xs:List Int),Ty ts v->Ss.InTs ts.length is->fitP (Ss.cv ts is) xs->(∀ x∈xs,U64 x)->Ty ts (cE v is xs)
 | v,[],_,h,_,_,_=>h
 | v,_::_,[],h,_,_,_=>h
 | v,i::is,x::xs,h,hi,hf,hu=>by
  rw [cE];have hf:fits (ts.getD i.toNat 0) x=true/\fitP (Ss.cv ts is) xs:=hf;obtain ⟨i0,i1⟩:=hi i (by simp);have hvl:=h.len;refine Jn _ is xs ⟨by rw [List.length_set]; exact h.len,fun y hy => ?_,fun a ha => ?_⟩ (fun w hw=>hi w (by simp [hw])) hf.2 fun y hy=>hu y (by simp [hy])
  .rcases List.mem_or_eq_of_mem_set hy with h1 | rfl
   .exact h.u y h1
   .exact hu _ (by simp)
  .by_cases e:i.toNat=a
   .subst e;have e1:(v.set i.toNat x).getD i.toNat 0=x:=by rw [ag,aX (by omega)]; rfl
    rw [e1]; exact hf.1
   .have e1:(v.set i.toNat x).getD a 0=v.getD a 0:=by rw [ag,aQ e, <-ag]
    rw [e1]; exact h.fit a ha
theorem KW {ts:List Int} {ds:List Ss.Def} {near:List Int} {i k:Int} {v:List Int} (hv:Ty ts v) (hd:ds.length=ts.length) : ∀ {l types:List Int},Ss.asks ts ds near i k l types=true->fitsL types (valsI v l)=true
 | [],[],_=>rfl
 | [],_::_,h=>by simp [Ss.asks,Go.Vw.eqF] at h
 | _::_,[],h=>by simp [Ss.asks,Go.Vw.eqF] at h
 | a::l,t::types,h=>by
  simp only [Ss.asks,Go.Vw.eqF,af] at h;obtain ⟨h1,h2⟩:=h;have ih:=KW hv hd (l:=l) (types:=types) h2;simp only [Ss.askOk,af,aj] at h1;obtain ⟨⟨⟨⟨a0,a1⟩,a2⟩,a3⟩,a4⟩:=h1;have:=hv.fit a.toNat (by omega);rw [a2] at this;show (fits t (v.getD a.toNat 0)&&fitsL types (valsI v l))=true;rw [this,ih]; rfl
theorem jdc : ∀ {ts ns:List Int} {k:Nat} {n:Int},fitsL ts ns=true->ns[k]? = some n->fits (ts.getD k 0) n=true
 | [],[],k,n,_,h=>by simp at h
 | [],_::_,k,n,h,_=>by cases h
 | _::_,[],k,n,h,_=>by cases h
 | t::ts,m::ns,0,n,h,hk=>by
  simp only [fitsL,af] at h;simp only [aK,ay] at hk;subst hk;exact h.1
 | t::ts,m::ns,k+1,n,h,hk=>by
  simp only [fitsL,af] at h;have:=jdc (k:=k) h.2 (by simpa using hk);simpa using this
theorem ads : ∀ {ts ns:List Int} {k:Nat} {n:Int},fitsL ts ns=true->fits (ts.getD k 0) n=true->fitsL ts (ns.set k n)=true
 | [],[],k,n,_,_=>rfl
 | [],_::_,k,n,h,_=>by cases h
 | _::_,[],k,n,h,_=>by cases h
 | t::ts,m::ns,0,n,h,hk=>by
  simp only [fitsL,af] at h;simp only [au,fitsL,af];exact ⟨by simpa using hk,h.2⟩
 | t::ts,m::ns,k+1,n,h,hk=>by
  simp only [fitsL,af] at h;simp only [aq,fitsL,af];exact ⟨h.1,ads h.2 (by simpa using hk)⟩
structure StT (e:Ss.Env) (s:State):Prop where
 mem:Go.Vw.byteL s.mem
 cap:s.mem.length<=4096
 most : -9223372036854775808<=s.most/\s.most<9223372036854775808
 glu : ∀ y∈s.globals,U64 y
 glob:fitsL e.globals s.globals=true
 inp : ∀ y∈s.input,U64 y
def jcm (e:Ss.Env) (call:Int->List Int->State->Option Res):Prop :=
 ∀ (n:Int) (args:List Int) (s:State) (t:Ss.Sig) (r:Res),0<=n->e.sigs[n.toNat]? = some t->fitsL t.inn args=true->(∀ x∈args,U64 x)->StT e s->call n args s=some r->StT e r.2.1/\(r.2.2=0->fitP t.out r.1 /\ ∀ x∈r.1,U64 x)
theorem YW {t n:Int} (ht:Ss.isKind t=true) (h:n<4294967296):fits t n=true:=by
 simp only [Ss.isKind,bk,aj] at ht;rcases ht with rfl | rfl
 .simp [fits,h]
 .rfl
theorem end1 {e:Ss.Env} {s:State} {t n er:Int} (hs:StT e s) (hf:fits t n=true) (hu:U64 n):StT e s/\(er=0->fitP [t] [n] /\ ∀ x∈[n],U64 x):=⟨hs,fun _=>⟨⟨hf,jde _⟩,zm hu⟩⟩
theorem end0 {e:Ss.Env} {s:State} {er:Int} (hs:StT e s):StT e s/\(er=0->fitP [] [0] /\ ∀ x∈[(0:Int)],U64 x):=⟨hs,fun _=>⟨trivial,zm aaq⟩⟩
theorem amn {op:Int} {c:Ss.Acc} (h:Ss.accOf op=some c):Ss.isKind c.kind=true:=by
 have : ∀ p∈Ss.accL,Ss.isKind p.2.kind=true:=by decide
 have key : ∀ {l:List (Int × Ss.Acc)},(∀ p∈l,Ss.isKind p.2.kind=true)->Ss.findK op l=some c->Ss.isKind c.kind=true:=by
  intro l
  induction l with
  | nil=>intro _ h; cases h
  | cons p l ih =>
   obtain ⟨k,a⟩:=p;intro hp h;rw [Ss.findK] at h;split at h
   .cases h; exact hp (k,_) (by simp)
   .exact ih (fun p hq=>hp p (by simp [hq])) h
 exact key this h
theorem jaK {op:Int} {a:List Int} (h:(Ss.cB op).2.2=true) (hf:fitsL (Ss.cB op).1 a=true):argsOk op a/\(Ss.cB op).2.1=Ss.rsigT op:=by
 rw [<-Ss.abe] at h hf ⊢;have hr:Ss.rof op≠0:=fun e=>by simp [Ss.rsig,e] at h
 refine ⟨⟨hr,(aat hf).symm,fun i h1 h2 => ?_⟩,by simp [Ss.rsig,hr]⟩;have:=jdc hf (ac h1)
 rwa [ag,ac h2,aR] at this
theorem af6 {O:Ops} (hO:OpsOk O) {e:Ss.Env} {f:Ss.Fn} {ds:List Ss.Def} {near:List Int} {i k:Int} {x:Ss.Ins} {v:List Int} {s:State} {r:Res} {call:Int->List Int->State->Option Res} (hc:jcm e call) (hi:Ss.insOk e f ds near i k x=true) (hx:x.Fits)
  (hd:ds.length=f.types.length) (hv:Ty f.types v) (hs:StT e s) (h:oneF O call x (valsI v x.args) s=some r):StT e r.2.1/\(r.2.2=0->fitP (Ss.cv f.types x.outs) r.1 /\ ∀ y∈r.1,U64 y):=by
 have hu:=aaf hv.u x.args;have hxn:=hx.2.1;simp only [Ss.insOk,af,aj] at hi;obtain ⟨⟨⟨i1,i2⟩,i3⟩,i4⟩:=hi;have ha:=KW hv hd i4;rw [i3];clear i3 i4;generalize valsI v x.args=a at *
 obtain ⟨op,n,xa,xo⟩:=x;simp only at hxn ha i1 i2 hu h ⊢;generalize Ss.insOut f.types ⟨op,n,xa,xo⟩=out at *
 have hal:=aat ha;unfold oneF at h;simp only at h
 by_cases c1:op=256
 .subst c1;rw [if_pos rfl] at h
  cases h
  simp only [Ss.form,if_true] at i2 ⊢;split
  .rename_i ho;rw [if_pos ho] at i2;exact ⟨hs,fun _=>⟨⟨YW (by decide) (by simp only at i2; omega),trivial⟩,zm hxn⟩⟩
  .exact ⟨hs,fun _=>⟨⟨rfl,trivial⟩,zm hxn⟩⟩
 simp only [Ss.form,if_neg c1] at i1 i2 ha hal h ⊢
 by_cases c2:op=258
 .subst c2;simp only [if_true] at h ⊢;split at h
  .cases h; exact ⟨hs,fun h=>absurd h (show ¬ (36:Int)=0 by decide)⟩
  .cases h
   exact ⟨⟨hs.mem,hs.cap,hs.most,hs.glu,hs.glob,hs.inp⟩,fun _=>⟨trivial,zm aaq⟩⟩
 simp only [if_neg c2] at i1 i2 ha hal h ⊢
 by_cases c3:op=27
 .simp only [if_pos c3] at ha hal h ⊢;obtain ⟨p,q,w,rfl⟩:=list3 hal.symm;simp only [ay] at h;subst h;simp only [fitsL,af] at ha;refine end1 hs ?_ ?_
  .split
   .exact ha.2.1
   .exact ha.1
  .split
   .exact hu _ (by simp)
   .exact hu _ (by simp)
 simp only [if_neg c3] at i1 i2 ha hal h ⊢
 by_cases c6:op=16
 .have c4 : ¬ op=35:=by omega
  have c5 : ¬ op=36:=by omega
  simp only [if_neg c4,if_neg c5,if_pos c6] at ha hal i1 h ⊢;split at i1
  .rename_i hn;rw [if_pos hn] at ha hal ⊢;simp only at ha hal ⊢;have hx0:=hxn.1;have hn2:n.toNat<e.sigs.length:=by omega
   have hd:e.sigs.getD n.toNat default=e.sigs[n.toNat]:=by simp [ag,ac hn2]
   rw [hd] at ha hal ⊢;exact hc n a s _ r hxn.1 (ac hn2) ha hu hs h
  .cases i1
 simp only [if_neg c6] at i1 i2 ha hal h ⊢
 by_cases c4:op=35
 .simp only [if_pos (Or.inl c4:op=35\/op=36),Ss.formGlob,if_pos c4] at i1 i2 ha hal h ⊢;split at i1
  .rename_i hn;simp only [if_pos hn];split at h
   .rename_i g hg
    cases h
    exact end1 hs (jdc hs.glob hg) (hs.glu _ (aA hg))
   .cases h
  .cases i1
 simp only [if_neg c4] at h
 by_cases c5:op=36
 .simp only [if_pos (Or.inr c5:op=35\/op=36),Ss.formGlob,if_neg c4,if_pos c5] at i1 i2 ha hal h ⊢;split at i1
  .rename_i hn;rw [if_pos hn] at ha hal ⊢;obtain ⟨p,rfl⟩:=list1 hal.symm;simp only [fitsL,Bool.and_true] at ha;simp only at h;split at h
   .cases h
    refine ⟨⟨hs.mem,hs.cap,hs.most,fun y hy => ?_,ads hs.glob ha,hs.inp⟩,fun _=>⟨trivial,zm aaq⟩⟩;rcases List.mem_or_eq_of_mem_set hy with h1 | rfl
    .exact hs.glu _ h1
    .exact hu _ (by simp)
   .cases h
  .cases i1
 have c45 : ¬ (op=35\/op=36):=by omega
 simp only [if_neg c45,if_neg c5,YV] at i1 i2 ha hal h ⊢
 cases hns:(Ss.cB op).2.2 with
 | true =>
  have hop:=YJ hns;simp only [hns,if_true] at ha hal ⊢;have c7 : ¬ op=257:=by omega
  have c8 : ¬ op=63:=by omega
  have c9 : ¬ op=64:=by omega
  simp only [if_neg c7,if_neg c8,if_neg c9,zP (op:=op) (by omega),ay] at h;subst h;obtain ⟨k1,k2⟩:=jaK hns ha;have:=YK op;rw [k2];exact end1 hs (hO.evalFit op a hu (by omega) k1).1 (hO.eval op a hu (by omega))
 | false =>
  simp only [hns,aF,if_false] at i1 i2 ha hal ⊢
  cases hm:e.mem with
  | false=>rw [hm] at i1; cases i1
  | true =>
  simp only [hm,if_true,Ss.formMem] at i1 i2 ha hal ⊢;have hmB:=hs.mem
  by_cases c7:op=257
  .simp only [if_pos c7] at ha hal h ⊢;obtain ⟨p,rfl⟩:=list1 hal.symm;simp only [ay] at h;subst h;exact end0 hs
  simp only [if_neg c7] at i1 i2 ha hal h ⊢
  by_cases c8:op=63
  .simp only [if_pos c8,zP (op:=op) (by omega),ay] at ha hal h ⊢;subst h;have hcap:=hs.cap;have hdv:(0:Int)<=(s.mem.length:Int).tdiv 256/\(s.mem.length:Int).tdiv 256<4294967296:=by
    rw [Int.tdiv_eq_ediv_of_nonneg (by omega)];omega
   exact end1 hs (YW (by decide) hdv.2) ⟨hdv.1,by omega⟩
  simp only [if_neg c8] at i1 i2 ha hal h ⊢
  by_cases c9:op=64
  .simp only [if_pos c9,zP (op:=op) (by omega)] at ha hal h ⊢;obtain ⟨p,rfl⟩:=list1 hal.symm;simp only [ay] at h;subst h;obtain ⟨g1,g2,g3,g4⟩:=hO.grow s.mem s.most p hmB hs.most.1 hs.most.2 (hu p (by simp));refine ⟨⟨g1,hO.growCap _ _ _ hs.cap,hs.most,hs.glu,hs.glob,hs.inp⟩,fun _=>⟨⟨YW (by decide) g4,trivial⟩,zm ⟨g3,by omega⟩⟩⟩
  simp only [if_neg c9] at i1 i2 ha hal h ⊢
  cases hao:Ss.accOf op with
  | none=>rw [hao] at i1; cases i1
  | some c =>
   simp only [hao] at i1 i2 ha hal h ⊢;have hk:=amn hao
   by_cases hst:c.store=true
   .simp only [if_pos hst] at ha hal h ⊢;obtain ⟨p,q,rfl⟩:=list2 hal.symm;obtain ⟨g1,g2⟩:=hO.store s.mem op p n q hmB (hu p (by simp)) hxn (hu q (by simp));simp only [ay] at h;subst h
    by_cases hz:(O.store s.mem op p n q).2=0
    .simp only [if_pos hz];exact ⟨⟨g1,by simp only [g2 hz]; exact hs.cap,hs.most,hs.glu,hs.glob,hs.inp⟩,fun _=>⟨trivial,zm aaq⟩⟩
    .simp only [if_neg hz];exact end0 hs
   .simp only [if_neg hst] at ha hal h ⊢;obtain ⟨p,rfl⟩:=list1 hal.symm;simp only [ay] at h;subst h;obtain ⟨g1,g2⟩:=hO.load s.mem op p n hmB (hu p (by simp)) hxn;rw [hao] at g2;refine end1 hs ?_ g1;simp only [Ss.isKind,bk,aj] at hk;rcases hk with hk | hk
    .rw [hk]; simp only [fits,g2 hk]; decide
    .rw [hk]; rfl
theorem au0 {e:Ss.Env} (he:e.right=true) {s:State} {n:Int} {t:Ss.Sig} {args:List Int} {r:Res} (ht:e.sigs[n.toNat]? = some t) (hs:StT e s) (h:hostF s n t.out args=some r):StT e r.2.1/\(r.2.2=0->fitP t.out r.1 /\ ∀ x∈r.1,U64 x):=by
 have hk : ∀ y∈t.out,Ss.isKind y=true:=by
  simp only [Ss.Env.right,af,aD] at he;have:=he.2 t (aA ht);simp only [Ss.Sig.right,Ss.kinds,af,aD] at this;exact this.2.2
 have key : ∀ (outs inp:List Int),(∀ y∈outs,Ss.isKind y=true)->fitP outs (hostL outs inp).1:=by
  intro outs
  induction outs with
  | nil=>intro inp _; exact jde _
  | cons y outs ih =>
   intro inp hy
   cases inp with
   | nil=>exact trivial
   | cons x inp =>
    simp only [hostL];split
    .refine ⟨?_,ih inp fun z hz=>hy z (by simp [hz])⟩;split
     .rename_i h1;rw [h1];have hm:mask32 x<4294967296:=by
       have h2:((x % 2^Go.IntKind.u64.bits).toNat &&& 4294967295 % 2^Go.IntKind.u64.bits:Nat)<=4294967295:=bd Nat.and_le_right (by decide);rw [mask32,Go.Vw.aal (by omega) (by omega)];omega
      simp only [fits,hm]; decide
     .rename_i h1;have:=hy y (by simp);simp only [Ss.isKind,bk,aj] at this;rcases this with h2 | h2
      .exact absurd h2 h1
      .rw [h2]; rfl
    .exact trivial
 obtain ⟨h1,h2,h3,h4⟩:=ZW t.out s.input hs.inp;rw [hostF] at h;split at h
 .cases h
  exact ⟨⟨hs.mem,hs.cap,hs.most,hs.glu,hs.glob,h4⟩,fun _=>⟨key _ _ hk,h2⟩⟩
 .cases h
theorem Wz {O:Ops} (hO:OpsOk O) {e:Ss.Env} {f:Ss.Fn} {ds:List Ss.Def} {near:List Int} {i:Int} {call:Int->List Int->State->Option Res} (hc:jcm e call) (hd:ds.length=f.types.length) :
  ∀ (l:List Ss.Ins) (k:Nat) (v:List Int) (s:State) (r:List Int × State × Int),Ss.cx e f ds near i k l=true->(∀ x∈l,x.Fits/\Ss.InTs f.types.length x.outs)->Ty f.types v->StT e s->codeF O call l v s=some r->StT e r.2.1/\(r.2.2=0->Ty f.types r.1)
 | [],k,v,s,r,_,_,hv,hs,h=>by
  cases h
  exact ⟨hs,fun _=>hv⟩
 | x::l,k,v,s,r,hk,hf,hv,hs,h=>by
  simp only [Ss.cx,af] at hk;obtain ⟨x1,x2⟩:=hf x (by simp);rw [codeF] at h;split at h
  .cases h1:oneF O call x (valsI v x.args) s with
   | none=>rw [h1] at h; cases h
   | some q =>
    rw [h1] at h;obtain ⟨g1,g2⟩:=af6 hO hc hk.1 x1 hd hv hs h1;obtain ⟨out,s',er⟩:=q;simp only at h g1 g2
    by_cases h0:er=0
    .rw [if_neg (not_not_intro h0)] at h;obtain ⟨g3,g4⟩:=g2 h0;split at h
     .exact Wz hO hc hd l (k+1) _ s' r hk.2 (fun y hy=>hf y (by simp [hy])) (Jn _ _ _ hv x2 g3 g4) g1 h
     .cases h
    .rw [if_pos h0] at h
     cases h
     exact ⟨g1,fun h=>absurd h h0⟩
  .cases h
theorem ai6 {f:Ss.Fn} {ds:List Ss.Def} {near:List Int} {i:Int} {b:Ss.Block} {v:List Int} (h:Ss.termOk f ds near i b=true) (hd:ds.length=f.types.length) (hv:Ty f.types v) :
  (b.term.kind=4->fitsL f.sig.out (valsI v b.term.args)=true) /\ ∀ x∈b.term.to,fitsL (Ss.cv f.types (f.blocks.getD x.to.toNat default).params) (valsI v x.args)=true:=by
 simp only [Ss.termOk] at h;split at h
 .rename_i le mo rs hh;simp only [Ss.termTail,af,aj] at h;obtain ⟨⟨⟨⟨t1,t2⟩,t3⟩,t4⟩,t5⟩:=h;refine ⟨fun hk => ?_,fun x hx => ?_⟩
  .rw [hk] at hh;have:(0,0,f.sig.out)=(le,mo,rs):=Option.some.inj hh
   cases this
   exact KW hv hd t4
  .have:=aD.1 t5 x hx;simp only [Ss.edgeOk,af] at this;exact KW hv hd this.2
 .cases h
theorem jbg {e:Ss.Env} {f:Ss.Fn} (h:Ss.check e f=true):Ss.kinds 2048 f.types=true:=by
 obtain ⟨h1,_⟩:=Ss.aae h;simp only [Ss.checkHead,af] at h1;exact h1.1.1.2
theorem jbb {e:Ss.Env} {f:Ss.Fn} (h:Ss.check e f=true):f.sig.inn=Ss.cv f.types (f.blocks.getD 0 default).params:=by
 obtain ⟨h1,ds,h2,h3,h4⟩:=Ss.aae h;simp only [Ss.shapeOk,af,Bool.not_eq_true'] at h3;exact (aP h3.1.2).symm
def BlocksTy (O:Ops) (P:Prog) (N d:Nat):Prop :=
 ∀ (f:Ss.Fn) (v:List Int) (at_:Nat) (args:List Int) (s:State) (r:Res),f∈P.fns->Ty f.types v->fitP (Ss.cv f.types (f.blocks.getD at_ default).params) args->(∀ y∈args,U64 y)->StT P.env s->cF O P N d f v at_ args s=some r->StT P.env r.2.1/\(r.2.2=0->fitP f.sig.out r.1 /\ ∀ x∈r.1,U64 x)
theorem ac5 {O:Ops} {P:Prog} (hP:RightP P) {N d:Nat} (h:BlocksTy O P N (d+1)):jcm P.env (callG P (cF O P N) d):=by
 intro n args s t r h0 ht hf hu hs hr;rw [callG] at hr;split at hr
 .rw [ht] at hr;exact au0 hP.env ht hs hr
 .rename_i hn;have hen:=hP.env;simp only [Ss.Env.right,af,aj] at hen;have hi0:=hen.1.1.1.1.1;split at hr
  .cases hr
   exact ⟨hs,fun h=>absurd h (show ¬ (37:Int)=0 by decide)⟩
  .split at hr
   .rename_i g hg;obtain ⟨f1,f2,f3⟩:=hP.fns _ g hg;have e1:(P.env.imports+((n-P.env.imports).toNat:Int)).toNat=n.toNat:=by omega
    rw [e1,ht] at f3
    cases f3
    exact h g _ 0 args s r (aA hg) (ajj (jbg f2)) (by rw [<-jbb f2]; exact YX hf) hu hs hr
   .cases hr
theorem Yi {O:Ops} (hO:OpsOk O) {P:Prog} (hP:RightP P) : ∀ N d,BlocksTy O P N d
 | 0,d=>fun f v at_ args s r _ _ _ _ _ h=>by cases h
 | N+1,d=>fun f v at_ args s r hf hv hfa hua hs h=>by
  obtain ⟨i,hi⟩:=aB.1 hf;obtain ⟨f1,f2,f3⟩:=hP.fns i f hi;obtain ⟨ds,hds,hok⟩:=acb f1 f2;have hcall:=ac5 (O:=O) hP (Yi hO hP N (d+1));rw [cF] at h
  cases hb:f.blocks[at_]? with
  | none=>rw [hb] at h; cases h
  | some b =>
   rw [hb] at h;simp only at h;have hbo:=hok.blocks at_ b hb;have e0:f.blocks.getD at_ default=b:=by rw [ag,hb]; rfl
   rw [e0] at hfa;split at h
   .have hv1:=Jn v b.params args hv hbo.pars hfa hua
    cases hcd:codeF O (callG P (cF O P N) d) b.code (cE v b.params args) s with
    | none=>rw [hcd] at h; cases h
    | some q =>
     obtain ⟨z1,z2⟩:=Wz hO hcall hok.dsl b.code 0 _ s q hbo.code hbo.ins hv1 hs hcd;rw [hcd] at h;obtain ⟨v2,s2,er⟩:=q;simp only at h z1 z2
     by_cases he:er=0
     .rw [if_neg (not_not_intro he)] at h;have z3:=z2 he;obtain ⟨t1,t2⟩:=ai6 hbo.term hok.dsl z3;split at h
      .rename_i h4;split at h
       .cases h
        exact ⟨z1,fun _=>⟨YX (t1 h4),aaf z3.u _⟩⟩
       .cases h
      .split at h
       .cases h
        exact ⟨z1,fun h=>absurd h (show ¬ (32:Int)=0 by decide)⟩
       .split at h
        .cases h
        .rename_i k hpk;split at h
         .cases h
         .rename_i ed hed;split at h
          .exact Yi hO hP N d f v2 ed.to.toNat _ s2 r hf z3 (YX (t2 ed (aA hed))) (aaf z3.u _) z1 h
          .cases h
     .rw [if_pos he] at h
      cases h
      exact ⟨z1,fun h=>absurd h he⟩
   .cases h
theorem aip : ∀ n:Nat,n<256->(!Ss.total (n:Int) || !partialO (n:Int))=true:=by decide +kernel
theorem apa {op:Int} (h:Ss.total op=true):69<=op/\op<=250/\(Ss.cB op).2.2=true/\partialO op=false:=by
 have hn:(Ss.cB op).2.2=true:=by
  unfold Ss.total at h;unfold Ss.cB
  cases hf:Ss.find op with
  | none=>rw [hf] at h; cases h
  | some g=>rfl
 obtain ⟨h1,h2⟩:=YJ hn;refine ⟨h1,h2,hn, ?_⟩;obtain ⟨n,rfl⟩:=Int.eq_ofNat_of_zero_le (show 0<=op by omega);have:=aip n (by omega);rw [h] at this;simpa using this
def jbu (O:Ops) (x:Ss.Ins) (a:List Int):Int:=if x.op=256 then x.n else if x.op=27 then (if a.getD 2 0=0 then a.getD 1 0 else a.getD 0 0) else (O.eval x.op a).1
theorem pure_one {O:Ops} (hO:OpsOk O) {e:Ss.Env} {f:Ss.Fn} {ds:List Ss.Def} {near:List Int} {i k:Int} {x:Ss.Ins} {v:List Int} (hp:Ss.pure x.op=true) (hi:Ss.insOk e f ds near i k x=true) (hd:ds.length=f.types.length) (hv:Ty f.types v) :
  ∀ (call:Int->List Int->State->Option Res) (s:State),oneF O call x (valsI v x.args) s=some ([jbu O x (valsI v x.args)],s,0):=by
 have hu:=aaf hv.u x.args;simp only [Ss.insOk,af,aj] at hi;obtain ⟨⟨⟨i1,i2⟩,i3⟩,i4⟩:=hi;have ha:=KW hv hd i4;clear i3 i4 i2;generalize valsI v x.args=a at *
 obtain ⟨op,n,xa,xo⟩:=x;simp only at ha i1 hu hp ⊢;generalize Ss.insOut f.types ⟨op,n,xa,xo⟩=out at *
 have hal:=aat ha;intro call s;unfold oneF jbu;simp only
 by_cases c1:op=256
 .rw [if_pos c1,if_pos c1]
 rw [if_neg c1,if_neg c1];simp only [Ss.form,if_neg c1] at i1 ha hal
 by_cases c3:op=27
 .have c2 : ¬ op=258:=by omega
  simp only [if_neg c2,if_pos c3] at ha hal ⊢;obtain ⟨p,q,w,rfl⟩:=list3 hal.symm;simp
 have ht:Ss.total op=true:=by
  simp only [Ss.pure,bk,aj] at hp;rcases hp with (hp | hp) | hp
  .exact absurd hp c1
  .exact absurd hp c3
  .exact hp
 obtain ⟨h1,h2,h3,h4⟩:=apa ht;have c2 : ¬ op=258:=by omega
 have c4 : ¬ op=35:=by omega
 have c5 : ¬ op=36:=by omega
 have c6 : ¬ op=16:=by omega
 have c7 : ¬ op=257:=by omega
 have c8 : ¬ op=63:=by omega
 have c9 : ¬ op=64:=by omega
 have c45 : ¬ (op=35\/op=36):=by omega
 simp only [if_neg c2,if_neg c3,if_neg c6,if_neg c45,YV,h3,if_true] at ha hal;simp only [if_neg c2,if_neg c3,if_neg c4,if_neg c5,if_neg c6,if_neg c7,if_neg c8,if_neg c9,zP (op:=op) (by omega)];obtain ⟨k1,k2⟩:=jaK h3 ha;have:=YK op;rw [(hO.evalFit op a hu (by omega) k1).2 h4]
theorem axv {e:Ss.Env} {s:State} (hs:StFits s) (h:holds e.globals e.mem s=true):StT e s:=by
 simp only [holds,af,Bool.not_eq_true',Bool.or_eq_false_iff,decide_eq_false_iff_not] at h;obtain ⟨⟨⟨⟨h1,h2⟩,h3⟩,h4⟩,h5,h6⟩:=h;exact ⟨hs.mem,by omega,hs.most,hs.globals.2,h6,hs.input.2⟩
theorem ahs : ∀ (outs inp:List Int),(hostL outs inp).1.length<=outs.length
 | [],inp=>a9 _
 | _::_,[]=>Nat.zero_le _
 | t::ts,x::inp=>by
  have:=ahs ts inp;simp only [hostL];split
  .simp only [aC]; omega
  .exact Nat.zero_le _
theorem jcj {O:Ops} {P:Prog} (hP:RightP P) : ∀ (N d:Nat) (f:Ss.Fn) (v:List Int) (at_:Nat) (args:List Int) (s:State) (r:Res),f∈P.fns->cF O P N d f v at_ args s=some r->r.1.length<=140737488355328
 | 0,d,f,v,at_,args,s,r,_,h=>by cases h
 | N+1,d,f,v,at_,args,s,r,hf,h=>by
  obtain ⟨i,hi⟩:=aB.1 hf;have f1:=(hP.fns i f hi).1;rw [cF] at h;split at h
  .cases h
  .rename_i b hb;have hbf:=f1.2.2.2 b (aA hb);split at h
   .split at h
    .cases h
    .split at h
     .cases h; exact Nat.zero_le _
     .split at h
      .split at h
       .cases h
        rw [aam]; exact hbf.2.2.2.2.2.1
       .cases h
      .split at h
       .cases h; exact Nat.zero_le _
       .split at h
        .cases h
        .split at h
         .cases h
         .split at h
          .exact jcj hP N d f _ _ _ _ r hf h
          .cases h
   .cases h
theorem ask {O:Ops} {P:Prog} (hP:RightP P) {N d:Nat} {n:Int} {args:List Int} {s:State} {r:Res} (h:callF O P N d n args s=some r):r.1.length<=140737488355328:=by
 have h:callG P (cF O P N) d n args s=some r:=h;rw [callG] at h;split at h
 .split at h
  .rename_i t ht;rw [hostF] at h;split at h
   .cases h
    have h1:=ahs t.out s.input;have h2:=(abn hP.env ht).2;simp only; omega
   .cases h
  .cases h
 .split at h
  .cases h; exact Nat.zero_le _
  .split at h
   .rename_i f hf;exact jcj hP N (d+1) f _ _ _ _ r (aA hf) h
   .cases h
theorem awy {O:Ops} (hO:OpsOk O) {P:Prog} (hP:RightP P) {s:State} (hs:StFits s) {n:Int} {args:List Int} (ha:words args):StFits (runR O P s n args).2.1/\(runR O P s n args).1.length<=140737488355328:=by
 unfold runR;split
 .rename_i hh;split
  .rename_i hc;obtain ⟨c0,c1,c2⟩:=hc;obtain ⟨hg,hm,hi,hl⟩:=acw hs hh;have hlt:n.toNat<P.env.sigs.length:=by omega
   have ht:=ac hlt;rw [ag,ht] at c2;obtain ⟨r,hr,hE⟩:=ab3 hO hP c0 ht (aat c2).symm ha.2 hg hl;rw [hr];refine ⟨hE.good.fit, ?_⟩;simp only;split
   .exact ask hP hr
   .exact Nat.zero_le _
  .exact ⟨hs,Nat.zero_le _⟩
 .exact ⟨hs,Nat.zero_le _⟩
theorem at1 {O:Ops} (hO:OpsOk O) {P Q:Prog} (hP:RightP P) {s:State} (hs:StFits s) {n:Int} {args:List Int} (ha:words args) (he:Q.env=P.env)
  (h : ∀ t r,0<=n->P.env.sigs[n.toNat]? = some t->fitsL t.inn args=true->StT P.env s->callF O P 4800000 0 n args s=some r->callF O Q 4800000 0 n args s=some r):runR O Q s n args=runR O P s n args:=by
 unfold runR;rw [he];split
 .rename_i hh;split
  .rename_i hc;obtain ⟨c0,c1,c2⟩:=hc;obtain ⟨hg,hm,hi,hl⟩:=acw hs hh;have hlt:n.toNat<P.env.sigs.length:=by omega
   have ht:=ac hlt;rw [ag,ht] at c2;obtain ⟨r,hr,hE⟩:=ab3 hO hP c0 ht (aat c2).symm ha.2 hg hl;rw [hr,h _ r c0 ht c2 (axv hs hh) hr]
  .rfl
 .rfl
end Ev
namespace Go.Vw
def encAsk (n:Int) (args:List Int) (s:Ev.State):V := .agg [cj n,vl vu args,vl vby s.mem,cj s.most,vl vu s.globals,cj s.fuel,vl vu s.input,vl vu s.log]
end Go.Vw
namespace Ev
def Agr (need:List Bool) (v w:List Int):Prop:=v.length=w.length /\ ∀ a:Nat,need.getD a false=true->v.getD a 0=w.getD a 0
theorem zR (v:List Int) (i a:Nat) (x:Int):(v.set i x).getD a 0=if i=a/\a<v.length then x else v.getD a 0:=by
 simp only [ag,List.getElem?_set]
 by_cases e:i=a
 .subst e
  by_cases h:i<v.length<;>simp [h]
 .simp [e]
theorem Agr.set {need:List Bool} {v w:List Int} (h:Agr need v w) (i:Nat) (x:Int):Agr need (v.set i x) (w.set i x):=by
 refine ⟨by simpa using h.1,fun a ha => ?_⟩;rw [zR,zR,h.1,h.2 a ha]
def CallTS (e:Ss.Env) (call call':Int->List Int->State->Option Res):Prop :=
 ∀ (n:Int) (args:List Int) (s:State) (t:Ss.Sig) (r:Res),0<=n->e.sigs[n.toNat]? = some t->fitsL t.inn args=true->(∀ x∈args,U64 x)->StT e s->call n args s=some r->call' n args s=some r
theorem ayg {O:Ops} {e:Ss.Env} {f:Ss.Fn} {ds:List Ss.Def} {near:List Int} {i k:Int} {x:Ss.Ins} {v:List Int} {s:State} {r:Res} {call call':Int->List Int->State->Option Res} (hc:CallTS e call call') (hi:Ss.insOk e f ds near i k x=true) (hx:x.Fits)
  (hd:ds.length=f.types.length) (hv:Ty f.types v) (hs:StT e s) (h:oneF O call x (valsI v x.args) s=some r):oneF O call' x (valsI v x.args) s=some r:=by
 by_cases c:x.op=16
 .have hu:=aaf hv.u x.args;have hxn:=hx.2.1;simp only [Ss.insOk,af,aj] at hi;obtain ⟨⟨⟨i1,i2⟩,i3⟩,i4⟩:=hi;have ha:=KW hv hd i4;have c1 : ¬ x.op=256:=by omega
  have c2 : ¬ x.op=258:=by omega
  have c3 : ¬ x.op=27:=by omega
  have c4 : ¬ x.op=35:=by omega
  have c5 : ¬ x.op=36:=by omega
  simp only [oneF,if_neg c1,if_neg c2,if_neg c3,if_neg c4,if_neg c5,if_pos c] at h ⊢;simp only [Ss.form,if_neg c1,if_neg c2,if_neg c3,if_pos c] at i1 ha;split at i1
  .rename_i hn;rw [if_pos hn] at ha;have hx0:=hxn.1;have hn2:x.n.toNat<e.sigs.length:=by omega
   have hd:e.sigs.getD x.n.toNat default=e.sigs[x.n.toNat]:=by simp [ag,ac hn2]
   rw [hd] at ha;exact hc x.n _ s _ r hxn.1 (ac hn2) ha hu hs h
  .cases i1
 .simp only [oneF,if_neg c] at h ⊢;exact h
end Ev
namespace Ss
open Go.Vw.G
theorem ab5 {e:Env} {f:Fn} (h:check e f=true):let near:=cD (succs f.blocks)
  near=rNear (nats (succs f.blocks))/\(∀ i j:Nat,i<f.blocks.length->j<f.blocks.length->cy near i j=true->cy near j i=true->i=j)/\(∀ j:Nat,j<f.blocks.length->cy near j 0=true->j=0) /\
  ∀ (j i k:Nat) (b:Block) (x:Edge),f.blocks[i]? = some b->x∈b.term.to->x.to.toNat=k->j<f.blocks.length->j≠k->cy near j k=true->cy near j i=true:=by
 obtain ⟨h1,ds,h2,h3,h4⟩:=aae h;simp only [shapeOk,af,aj] at h3;obtain ⟨⟨⟨⟨hr,h5⟩,h6⟩,h7⟩,h8⟩:=h3;have hok:=aag hr;have ho:=aah hok;have hgl:(nats (succs f.blocks)).length=f.blocks.length:=by simp [nats,succs]
 have hN:=aa8 hok;rw [ordI,if_pos hr] at h5;have hlt : ∀ n∈order (nats (succs f.blocks)),n<f.blocks.length:=fun n hn=>by rw [<-hgl]; exact ho.lt n hn
 have hall : ∀ i<f.blocks.length,i∈order (nats (succs f.blocks)):=(ajy ho.nd hlt).1 h5
 have hto:=right_to hr;have iff : ∀ {a b:Nat},a<f.blocks.length->b<f.blocks.length->(cy (rNear (nats (succs f.blocks))) a b=true↔Dom (nats (succs f.blocks)) (order (nats (succs f.blocks))) a b):=fun {a b} ha hb=>by
  rw [zg hok hN (by omega) (by omega)];constructor
  .rintro (⟨_,_,h⟩ | rfl)
   .exact h
   .exact Dom.self _
  .exact fun h => .inl ⟨hall a ha,hall b hb,h⟩
 have e0:cD (succs f.blocks)=rNear (nats (succs f.blocks)):=by rw [cD,if_pos hr]
 simp only [e0];refine ⟨trivial,fun i j hi hj k1 k2 => ?_,fun j hj k => ?_,fun j i k b x hb hx hk hj hne hd => ?_⟩
 .exact Dom.anti ho ((iff hi hj).1 k1) ((iff hj hi).1 k2) (hall i hi) (hall j hj)
 .have h0:0<f.blocks.length:=by omega
  refine Classical.byContradiction fun hj0 => ?_
  exact (iff hj h0).1 k 0 (Way.start 0 (Ne.symm hj0))
 .obtain ⟨hi,_⟩:=ae.1 hb;have hk2:=hto b (aA hb) x hx;have hkl:k<f.blocks.length:=by omega
  refine (iff hj hi).2 (Dom.pred ((iff hj hkl).1 hd) hne ?_);have:(nats (succs f.blocks))[i]? = some ((rowOf b).map Int.toNat):=by simp [nats,succs,hb]
  rw [ag,this,aR];exact bi.2 ⟨x.to,bi.2 ⟨x,hx,rfl⟩,hk⟩
end Ss
namespace Ev
open Go.Vw.G
theorem JT : ∀ (v is xs:List Int) (n:Nat),(∀ i∈is,i.toNat≠n)->(cE v is xs).getD n 0=v.getD n 0
 | v,[],_,n,_=>rfl
 | v,_::_,[],n,_=>rfl
 | v,i::is,x::xs,n,h=>by
  rw [cE,JT _ is xs n fun j hj=>h j (by simp [hj])];simp only [ag];rw [aQ (h i (by simp))]
def Holds (v:List Int) (m:Nat) (x:Ss.Ins):Prop:=insideI m (v.getD (x.args.getD 0 0).toNat 0) x.n=true
section
variable {e:Ss.Env} {f:Ss.Fn} {ds:List Ss.Def} {near:List Int}
end
end Ev
namespace Ss
open Go.Vw.G
def Dm (near:List Int) (d j:Nat):Prop:=d≠j/\cy near d j=true
theorem ard {f:Fn} {ds:List Def} (hds:defsOf f=some ds) {a:Int} (h0:0<=a) (hm:(dAt ds a).made=true) : ∃ j:Nat,j<f.blocks.length/\(dAt ds a).block=(j:Int):=by
 obtain ⟨_,hmade,hout⟩:=qR hds;obtain ⟨b,hb,hv⟩:=bh.1 (hmade a h0 hm);obtain ⟨j,hj⟩:=aB.1 hb;refine ⟨j,(ae.1 hj).1, ?_⟩;rcases aG.1 hv with hp | ho
 .have:=jN hds j b hj a hp;rw [a8] at this;exact congrArg Def.block this
 .obtain ⟨y,hy,hvy⟩:=bh.1 ho;obtain ⟨k,hk⟩:=aB.1 hy;exact congrArg Def.block (hout j b hj k y hk a hvy)
theorem aoe {f:Fn} {ds:List Def} (hds:defsOf f=some ds) {near:List Int} {j:Nat} {k a t:Int} (h:askOk f.types ds near j k a t=true):0<=a/\a<ds.length /\ ∃ d:Nat,d<f.blocks.length/\(dAt ds a).block=(d:Int)/\((d=j/\(dAt ds a).pos<k)\/Dm near d j):=by
 simp only [askOk,af,aj] at h;obtain ⟨⟨⟨⟨a0,a1⟩,a2⟩,a3⟩,a4⟩:=h;obtain ⟨d,hd,hb⟩:=ard hds a0 a3;refine ⟨a0,a1,d,hd,hb, ?_⟩;have e1:(ds.getD a.toNat default).block=(d:Int):=hb;rw [e1] at a4
 by_cases e:d=j
 .subst e;rw [if_pos rfl] at a4;exact .inl ⟨rfl,aP a4⟩
 .rw [if_neg (by omega)] at a4;exact .inr ⟨e,a4⟩
theorem Zd {f:Fn} {ds:List Def} (hds:defsOf f=some ds) {near:List Int} {j:Nat} {k:Int} {l types:List Int} (h:asks f.types ds near j k l types=true) {a:Int} (ha:a∈l):0<=a/\a<ds.length /\ ∃ d:Nat,d<f.blocks.length/\(dAt ds a).block=(d:Int)/\((d=j/\(dAt ds a).pos<k)\/Dm near d j):=by
 obtain ⟨t,ht⟩:=abd h a ha;exact aoe hds ht
theorem KU {f:Fn} {ds:List Def} (hds:defsOf f=some ds) {j:Nat} {b:Block} (hb:f.blocks[j]? = some b) {a:Int} (h0:0<=a) (hne:(dAt ds a).block≠(j:Int)):(∀ u∈b.params,u.toNat≠a.toNat) /\ ∀ y∈b.code, ∀ u∈y.outs,u.toNat≠a.toNat:=by
 obtain ⟨_,hmade,hout⟩:=qR hds;obtain ⟨_,hin⟩:=defs_in hds;obtain ⟨i1,i2⟩:=hin b (aA hb);refine ⟨fun u hu e=>hne ?_,fun y hy u hu e=>hne ?_⟩
 .have:=(i1 u hu).1;have e2:u=a:=by omega
  subst e2;have:=jN hds j b hb u hu;rw [a8] at this;exact congrArg Def.block this
 .have:=(i2 y hy u hu).1;have e2:u=a:=by omega
  subst e2;obtain ⟨k,hk⟩:=aB.1 hy;exact congrArg Def.block (hout j b hb k y hk u hu)
def usesT (o:Nat) (t:Term):Prop:=(∃ a∈t.args,a.toNat=o)\/(branches t=true/\t.arg.toNat=o) \/ ∃ ed∈t.to, ∃ a∈ed.args,a.toNat=o
structure MoveF (f g:Fn) (near:List Int) (p n i:Nat) (bp bn:Block) (x:Ins) (o:Int):Prop where
 hm:Mv f.blocks p n i bp bn x
 hg:g=moved f p n i
 pu:pure x.op=true
 out:x.outs=[o]
 nl:n<f.blocks.length
 pl:p<f.blocks.length
 xo : ∀ a∈x.args,a.toNat≠o.toNat
 code : ∀ (j:Nat) (b:Block),f.blocks[j]? = some b -> ∀ (k:Nat) (y:Ins),b.code[k]? = some y->(∃ a∈y.args,a.toNat=o.toNat)->j≠p/\Dm near p j/\((j=n/\i<k)\/Dm near n j)
 term : ∀ (j:Nat) (b:Block),f.blocks[j]? = some b->usesT o.toNat b.term->(j=n\/Dm near n j)/\(j=p\/Dm near p j)
 keepF : ∀ (j:Nat) (b:Block),f.blocks[j]? = some b->Dm near n j -> ∀ a∈o::x.args,(∀ u∈b.params,u.toNat≠a.toNat) /\ ∀ y∈b.code, ∀ u∈y.outs,u.toNat≠a.toNat
 keepN : ∀ (k:Nat) (y:Ins),bn.code[k]? = some y->i<k -> ∀ a∈o::x.args, ∀ u∈y.outs,u.toNat≠a.toNat
 keepG : ∀ (j:Nat) (c:Block),g.blocks[j]? = some c->Dm near p j -> ∀ a∈o::x.args,(∀ u∈c.params,u.toNat≠a.toNat) /\ ∀ y∈c.code, ∀ u∈y.outs,u.toNat≠a.toNat
theorem alg {f:Fn} {ds:List Def} {near:List Int} {i:Int} {b:Block} (h:termOk f ds near i b=true):(∃ l,asks f.types ds near i b.code.length b.term.args l=true)/\(branches b.term=true->asks f.types ds near i b.code.length [b.term.arg] [127]=true) /\ ∀ ed∈b.term.to, ∃ l,asks f.types ds near i b.code.length ed.args l=true:=by
 simp only [termOk] at h;split at h
 .simp only [termTail,af,aj] at h;obtain ⟨⟨⟨⟨t1,t2⟩,t3⟩,t4⟩,t5⟩:=h;refine ⟨⟨_,t4⟩,fun hb=>by rwa [if_pos hb] at t1,fun ed he => ?_⟩;have:=aD.1 t5 ed he;simp only [edgeOk,af] at this;exact ⟨_,this.2⟩
 .cases h
theorem jbI {f:Fn} {ds:List Def} (hds:defsOf f=some ds) {near:List Int} {j:Nat} {b:Block} (h:termOk f ds near j b=true) {o:Int} (h0:0<=o) (hu:usesT o.toNat b.term) : ∃ d:Nat,(dAt ds o).block=(d:Int)/\(d=j\/Dm near d j):=by
 obtain ⟨⟨l,h1⟩,h2,h3⟩:=alg h;have key : ∀ {l types:List Int},asks f.types ds near j b.code.length l types=true->(∃ a∈l,a.toNat=o.toNat) -> ∃ d:Nat,(dAt ds o).block=(d:Int)/\(d=j\/Dm near d j):=by
  rintro l types ha ⟨a,hal,hao⟩;obtain ⟨a0,_,d,_,hb,hd⟩:=Zd hds ha hal;have e:a=o:=by omega
  subst e;exact ⟨d,hb,hd.imp And.left id⟩
 rcases hu with hu | ⟨hb,hu⟩ | ⟨ed,he,hu⟩
 .exact key h1 hu
 .exact key (h2 hb) ⟨_,by simp,hu⟩
 .obtain ⟨l,h4⟩:=h3 ed he;exact key h4 hu
theorem ak1 {e:Env} {f:Fn} {p n i:Nat} {bp bn:Block} {x:Ins} (hc:check e f=true) (hc':check e (moved f p n i)=true) (hm:Mv f.blocks p n i bp bn x) (hx:pure x.op=true) : ∃ o,MoveF f (moved f p n i) (cD (succs f.blocks)) p n i bp bn x o:=by
 have hdok:=aa3 hc;obtain ⟨e0,anti,_,_⟩:=ab5 hc;obtain ⟨_,ds,hds,hsh,hbs⟩:=aae hc;obtain ⟨_,ds',hds',hsh',hbs'⟩:=aae hc';have hsu:succs (moved f p n i).blocks=succs f.blocks:=hm.succs;rw [hsu] at hbs';have hlen:(moved f p n i).blocks.length=f.blocks.length:=hm.len;have hat : ∀ j,(moved f p n i).blocks[j]? = if j=p then some (cC bp x) else if j=n then some (cutAt bn i) else f.blocks[j]? := hm.at
 obtain ⟨hnd,hmade,hout⟩:=qR hds;obtain ⟨hnd',hmade',hout'⟩:=qR hds';have hdl:=(defs_in hds).1;have nl:=(ae.1 hm.hn).1;have pl:=(ae.1 hm.hp).1;have hxm:=aA hm.hi;obtain ⟨o,ho⟩:=hdok.one bn (aA hm.hn) x hxm hx;have o0:=(hdok.outs bn (aA hm.hn) x hxm o (by simp [ho])).1;have atp:=hat p;rw [if_pos rfl] at atp;have hxp:(cC bp x).code[bp.code.length]? = some x:=by simp [cC]
 have d1:dAt ds o=⟨true,(n:Int),(i:Int)⟩:=hout n bn hm.hn i x hm.hi o (by simp [ho]);have d2:dAt ds' o=⟨true,(p:Int),(bp.code.length:Int)⟩:=hout' p _ atp _ x hxp o (by simp [ho]);have insF : ∀ (j:Nat) (b:Block),f.blocks[j]? = some b -> ∀ (k:Nat) (y:Ins),b.code[k]? = some y->insOk e f ds (cD (succs f.blocks)) j k y=true:=fun j b hb k y hy=>by
  have h1:=(aad hbs hb).1;rw [a8] at h1;have:=aaj h1 hy
  rwa [a8] at this
 have insG : ∀ (j:Nat) (b:Block),(moved f p n i).blocks[j]? = some b -> ∀ (k:Nat) (y:Ins),b.code[k]? = some y->insOk e (moved f p n i) ds' (cD (succs f.blocks)) j k y=true:=fun j b hb k y hy=>by
  have h1:=(aad hbs' hb).1;rw [a8] at h1;have:=aaj h1 hy
  rwa [a8] at this
 have askF:=fun (j:Nat) (b:Block) hb (k:Nat) (y:Ins) hy a ha=>Zd hds (YT (insF j b hb k y hy)) (a:=a) ha
 have askG:=fun (j:Nat) (b:Block) hb (k:Nat) (y:Ins) hy a ha=>Zd hds' (YT (insG j b hb k y hy)) (a:=a) ha
 have xF : ∀ a∈x.args,0<=a/\a≠o/\((dAt ds a).block=(n:Int)->(dAt ds a).pos<i) /\ ∃ d:Nat,d<f.blocks.length/\(dAt ds a).block=(d:Int)/\(d=n\/Dm (cD (succs f.blocks)) d n):=fun a ha=>by
  obtain ⟨a0,_,d,hd,hb,hw⟩:=askF n bn hm.hn i x hm.hi a ha;refine ⟨a0,fun e => ?_,fun e => ?_,d,hd,hb,hw.imp And.left id⟩
  .subst e;rw [d1] at hb hw;simp only at hb hw;have e2:n=d:=by omega
   subst e2;rcases hw with hw | hw
   .omega
   .exact hw.1 rfl
  .rw [hb] at e;have e2:d=n:=by omega
   rcases hw with hw | hw
   .exact hw.2
   .exact absurd e2 hw.1
 have xG : ∀ a∈x.args, ∃ d:Nat,d<f.blocks.length/\(dAt ds' a).block=(d:Int)/\(d=p\/Dm (cD (succs f.blocks)) d p):=fun a ha=>by
  obtain ⟨a0,_,d,hd,hb,hw⟩:=askG p _ atp _ x hxp a ha;exact ⟨d,hlen▸hd,hb,hw.imp And.left id⟩
 have dne : ∀ {d q j:Nat},d<f.blocks.length->j<f.blocks.length->(d=q\/Dm (cD (succs f.blocks)) d q)->q<f.blocks.length->Dm (cD (succs f.blocks)) q j->d≠j:=fun {d q j} hd hj hw hq hqj e=>by
  subst e;rcases hw with rfl | hw
  .exact hqj.1 rfl
  .exact hw.1 (anti _ _ hd hq hw.2 hqj.2)
 refine ⟨o,hm,rfl,hx,ho,nl,pl,fun a ha e=>(xF a ha).2.1 (by have:=(xF a ha).1; omega),fun j b hb k y hy hu => ?_,fun j b hb hu => ?_,fun j b hb hj a ha => ?_,fun k y hy hk a ha u hu => ?_,fun j c hcj hj a ha => ?_⟩
 .obtain ⟨a,ha,hao⟩:=hu;obtain ⟨a0,_,d,hd,hdb,hw⟩:=askF j b hb k y hy a ha;have e2:a=o:=by omega
  subst e2;rw [d1] at hdb hw;simp only at hdb hw;have e3:n=d:=by omega
  subst e3;have hnx : ¬ (j=n/\k=i):=fun hh=>by
   obtain ⟨rfl,rfl⟩:=hh;rcases hw with hw | hw
   .omega
   .exact hw.1 rfl
  have hG : ∃ (c:Block) (k':Nat),(moved f p n i).blocks[j]? = some c/\c.code[k']? = some y/\(j=p->k'<bp.code.length):=by
   have hj:=hat j
   by_cases e1:j=p
   .rw [if_pos e1] at hj;have hb2:b=bp:=by
     have:=hm.hp;rw [<-e1,hb] at this;exact Option.some.inj this
    subst hb2;have hkl:=(ae.1 hy).1;exact ⟨_,k,hj,by simp only [cC]; rw [aT hkl]; exact hy,fun _=>hkl⟩
   .rw [if_neg e1] at hj
    by_cases e2:j=n
    .rw [if_pos e2] at hj;have hb2:b=bn:=by
      have:=hm.hn;rw [<-e2,hb] at this;exact Option.some.inj this
     subst hb2
     by_cases e3:k<i
     .exact ⟨_,k,hj,by simp only [cutAt]; rw [JZ,if_pos e3]; exact hy,fun h=>absurd h e1⟩
     .have e4:k≠i:=fun e4=>hnx ⟨e2,e4⟩
      exact ⟨_,k-1,hj,by simp only [cutAt]; rw [JZ,if_neg (by omega),Nat.sub_add_cancel (by omega)]; exact hy,fun h=>absurd h e1⟩
    .rw [if_neg e2,hb] at hj;exact ⟨_,k,hj,hy,fun h=>absurd h e1⟩
  obtain ⟨c,k',hcj,hck,hpk⟩:=hG;obtain ⟨_,_,d',hd',hdb',hw'⟩:=askG j c hcj k' y hck a ha;rw [d2] at hdb' hw';simp only at hdb' hw';have e3:p=d':=by omega
  subst e3;have hjp:Dm (cD (succs f.blocks)) p j:=by
   rcases hw' with ⟨hw1,hw2⟩ | hw'
   .have:=hpk hw1.symm;omega
   .exact hw'
  refine ⟨Ne.symm hjp.1,hjp, ?_⟩;rcases hw with ⟨hw1,hw2⟩ | hw
  .exact .inl ⟨hw1.symm,by omega⟩
  .exact .inr hw
 .have t1:=(aad hbs hb).2;rw [a8] at t1;obtain ⟨d,hdb,hw⟩:=jbI hds t1 o0 hu;rw [d1] at hdb;simp only at hdb;have e3:d=n:=by omega
  subst e3;have hG : ∃ c,(moved f p d i).blocks[j]? = some c/\c.term=b.term:=by
   have hj:=hat j
   by_cases e1:j=p
   .rw [if_pos e1] at hj;have hb2:b=bp:=by
     have:=hm.hp;rw [<-e1,hb] at this;exact Option.some.inj this
    exact ⟨_,hj,by rw [hb2]; rfl⟩
   .rw [if_neg e1] at hj
    by_cases e2:j=d
    .rw [if_pos e2] at hj;have hb2:b=bn:=by
      have:=hm.hn;rw [<-e2,hb] at this;exact Option.some.inj this
     exact ⟨_,hj,by rw [hb2]; rfl⟩
    .rw [if_neg e2,hb] at hj;exact ⟨_,hj,rfl⟩
  obtain ⟨c,hcj,hct⟩:=hG;have t2:=(aad hbs' hcj).2;rw [a8] at t2;obtain ⟨d',hdb',hw'⟩:=jbI hds' t2 o0 (hct▸hu);rw [d2] at hdb';simp only at hdb';have e3:d'=p:=by omega
  subst e3;exact ⟨hw.imp Eq.symm id,hw'.imp Eq.symm id⟩
 .have hjl:=(ae.1 hb).1;rcases aL.1 ha with rfl | ha
  .refine KU hds hb o0 ?_;rw [d1]; simp only;have:=hj.1; omega
  .obtain ⟨a0,_,_,d,hd,hdb,hw⟩:=xF a ha;refine KU hds hb a0 ?_;rw [hdb];have:=dne hd hjl hw nl hj;omega
 .intro hua;have hul:=(hdok.outs bn (aA hm.hn) y (aA hy) u hu).1;have d3:=hout n bn hm.hn k y hy u hu;rcases aL.1 ha with rfl | ha
  .have e2:u=a:=by omega
   subst e2;rw [d1] at d3;have:=congrArg Def.pos d3;simp only at this;omega
  .obtain ⟨a0,_,hp,_⟩:=xF a ha;have e2:u=a:=by omega
   subst e2;have h1:=hp (congrArg Def.block d3);rw [congrArg Def.pos d3] at h1;simp only at h1;omega
 .have hjl:=(ae.1 hcj).1;rw [hlen] at hjl;rcases aL.1 ha with rfl | ha
  .refine KU hds' hcj o0 ?_;rw [d2]; simp only;have:=hj.1; omega
  .obtain ⟨d,hd,hdb,hw⟩:=xG a ha;refine KU hds' hcj (xF a ha).1 ?_;rw [hdb];have:=dne hd hjl hw pl hj;omega
end Ss
namespace Ev
open Go.Vw.G
open Ss (Dm MoveF)
def But (o:Nat) (v w:List Int):Prop:=v.length=w.length /\ ∀ a:Nat,a≠o->v.getD a 0=w.getD a 0
theorem But.set {o:Nat} {v w:List Int} (h:But o v w) (i:Nat) (x:Int):But o (v.set i x) (w.set i x):=by
 refine ⟨by simpa using h.1,fun a ha => ?_⟩;rw [zR,zR,h.1,h.2 a ha]
theorem But.cE {o:Nat} : ∀ {v w:List Int} (is xs:List Int),But o v w->But o (cE v is xs) (cE w is xs)
 | v,w,[],_,h=>h
 | v,w,_::_,[],h=>h
 | v,w,i::is,x::xs,h=>by
  rw [Ev.cE,Ev.cE];exact But.cE is xs (h.set _ _)
theorem But.vals {o:Nat} {v w:List Int} (h:But o v w) {l:List Int} (hl : ∀ a∈l,a.toNat≠o):valsI v l=valsI w l:=aZ fun u hu=>h.2 u.toNat (hl u hu)
theorem But.left {o:Nat} {v w:List Int} (h:But o v w) (y:Int):But o (v.set o y) w:=by
 refine ⟨by simpa using h.1,fun a ha => ?_⟩;rw [zR,if_neg (fun e:o=a/\_=>ha e.1.symm)];exact h.2 a ha
theorem But.right {o:Nat} {v w:List Int} (h:But o v w) (y:Int):But o v (w.set o y):=by
 refine ⟨by simpa using h.1,fun a ha => ?_⟩;rw [zR,if_neg (fun e:o=a/\_=>ha e.1.symm)];exact h.2 a ha
theorem But.eq {o:Nat} {v w:List Int} (h:But o v w) (ho:v.getD o 0=w.getD o 0):v=w:=by
 refine List.ext_getElem h.1 fun a h1 h2 => ?_
 have:v.getD a 0=w.getD a 0:=by
  by_cases e:a=o
  .subst e; exact ho
  .exact h.2 a e
 simpa [ag,ac h1,ac h2] using this
def Made (O:Ops) (x:Ss.Ins) (o:Nat) (v:List Int):Prop:=v.getD o 0=jbu O x (valsI v x.args)
theorem Made.keep {O:Ops} {x:Ss.Ins} {o:Int} {v v':List Int} (h:Made O x o.toNat v) (hk : ∀ a∈o::x.args,v'.getD a.toNat 0=v.getD a.toNat 0):Made O x o.toNat v':=by
 unfold Made at h ⊢;rw [hk o (by simp),h]
 congr 1
 exact aZ fun a ha=>(hk a (by simp [ha])).symm
theorem Made.eq {O:Ops} {x:Ss.Ins} {o:Nat} {v w:List Int} (h:Made O x o v) (k:Made O x o w) (hb:But o v w) (hx : ∀ a∈x.args,a.toNat≠o):v=w:=by
 refine hb.eq ?_;unfold Made at h k;rw [h,k,hb.vals hx]
theorem JU {O:Ops} {call:Int->List Int->State->Option Res} {a:Nat} : ∀ {l:List Ss.Ins} {v:List Int} {s:State} {r:List Int × State × Int},(∀ y∈l, ∀ u∈y.outs,u.toNat≠a)->codeF O call l v s=some r->r.2.2=0->r.1.getD a 0=v.getD a 0
 | [],v,s,r,_,h,_=>by cases h; rfl
 | x::l,v,s,r,hk,h,hz=>by
  rw [codeF] at h;split at h
  .split at h
   .rename_i out s' er _;split at h
    .cases h
     rename_i h0 _;exact absurd hz (by assumption)
    .split at h
     .rw [JU (fun y hy=>hk y (by simp [hy])) h hz];exact JT _ _ _ _ (hk x (by simp))
     .cases h
   .cases h
  .cases h
theorem ahv {O:Ops} {call:Int->List Int->State->Option Res} (m:List Ss.Ins) : ∀ {l:List Ss.Ins} {v:List Int} {s:State},codeF O call l v s=none->codeF O call (l++m) v s=none
 | [],v,s,h=>by cases h
 | x::l,v,s,h=>by
  rw [bl,codeF];rw [codeF] at h;split
  .rename_i h1;rw [if_pos h1] at h;split
   .rename_i out s' er h2;rw [h2] at h;simp only at h;split
    .rename_i h3; rw [if_pos h3] at h; cases h
    .rename_i h3;rw [if_neg h3] at h;split
     .rename_i h4; rw [if_pos h4] at h; exact ahv m h
     .rfl
   .rfl
  .rfl
theorem jdo {O:Ops} {call:Int->List Int->State->Option Res} (m:List Ss.Ins) : ∀ {l:List Ss.Ins} {v:List Int} {s:State} {r:List Int × State × Int},codeF O call l v s=some r->r.2.2≠0->codeF O call (l++m) v s=some r
 | [],v,s,r,h,hz=>by cases h; exact absurd rfl hz
 | x::l,v,s,r,h,hz=>by
  rw [bl,codeF];rw [codeF] at h;split
  .rename_i h1;rw [if_pos h1] at h;split
   .rename_i out s' er h2;rw [h2] at h;simp only at h;split
    .rename_i h3; rw [if_pos h3] at h; exact h
    .rename_i h3;rw [if_neg h3] at h;split
     .rename_i h4; rw [if_pos h4] at h; exact jdo m h hz
     .rename_i h4; rw [if_neg h4] at h; cases h
   .rename_i h2; rw [h2] at h; cases h
  .rename_i h1; rw [if_neg h1] at h; cases h
theorem aci {O:Ops} {call:Int->List Int->State->Option Res} (m:List Ss.Ins) : ∀ {l:List Ss.Ins} {v:List Int} {s:State} {r:List Int × State × Int},codeF O call l v s=some r->r.2.2=0->codeF O call (l++m) v s=codeF O call m r.1 r.2.1
 | [],v,s,r,h,hz=>by cases h; rfl
 | x::l,v,s,r,h,hz=>by
  rw [bl,codeF];rw [codeF] at h;split
  .rename_i h1;rw [if_pos h1] at h;split
   .rename_i out s' er h2;rw [h2] at h;simp only at h;split
    .rename_i h3; rw [if_pos h3] at h; cases h; exact absurd hz h3
    .rename_i h3;rw [if_neg h3] at h;split
     .rename_i h4; rw [if_pos h4] at h; exact aci m h hz
     .rename_i h4; rw [if_neg h4] at h; cases h
   .rename_i h2; rw [h2] at h; cases h
  .rename_i h1; rw [if_neg h1] at h; cases h
theorem Kc {e:Ss.Env} {f:Ss.Fn} {ds:List Ss.Def} {near:List Int} {i:Int} : ∀ {l m:List Ss.Ins} {k:Nat},Ss.cx e f ds near i k (l++m)=true->Ss.cx e f ds near i k l=true/\Ss.cx e f ds near i (k+l.length) m=true
 | [],m,k,h=>⟨rfl,h⟩
 | x::l,m,k,h=>by
  simp only [bl,Ss.cx,af] at h ⊢;obtain ⟨h1,h2⟩:=Kc h.2;exact ⟨⟨h.1,h1⟩,by rw [aC, <-Nat.add_assoc,Nat.add_right_comm]; exact h2⟩
theorem Yv {O:Ops} (hO:OpsOk O) {e:Ss.Env} {f:Ss.Fn} {ds:List Ss.Def} {near:List Int} {i:Int} {o:Nat} {call call':Int->List Int->State->Option Res} (hc:CallTS e call call') (hct:jcm e call) (hd:ds.length=f.types.length) :
  ∀ (l:List Ss.Ins) (k:Nat) (v w:List Int) (s:State) (r:List Int × State × Int),Ss.cx e f ds near i k l=true->(∀ x∈l,x.Fits/\Ss.InTs f.types.length x.outs)->Ty f.types v->StT e s->But o v w->(v=w \/ ∀ y∈l, ∀ a∈y.args,a.toNat≠o)->codeF O call l v s=some r ->
   ∃ w',codeF O call' l w s=some (w',r.2.1,r.2.2)/\(r.2.2=0->But o r.1 w'/\(v=w->r.1=w'))
 | [],k,v,w,s,r,_,_,_,_,hb,_,h=>by
  cases h
  exact ⟨w,rfl,fun _=>⟨hb,id⟩⟩
 | x::l,k,v,w,s,r,hk,hf,hv,hs,hb,hu,h=>by
  simp only [Ss.cx,af] at hk;obtain ⟨x1,x2⟩:=hf x (by simp);rw [codeF] at h;split at h
  .rename_i hin
   cases h1:oneF O call x (valsI v x.args) s with
   | none=>rw [h1] at h; cases h
   | some q =>
    rw [h1] at h;obtain ⟨g1,g2⟩:=af6 hO hct hk.1 x1 hd hv hs h1;have h2:=ayg (O:=O) hc hk.1 x1 hd hv hs h1;have hva:valsI v x.args=valsI w x.args:=by
     rcases hu with rfl | hu
     .rfl
     .exact hb.vals (hu x (by simp))
    rw [hva] at h2;rw [hb.1] at hin;rw [codeF,if_pos hin,h2];obtain ⟨out,s',er⟩:=q;simp only at h g1 g2 ⊢
    by_cases h0:er=0
    .rw [if_neg (not_not_intro h0)] at h ⊢;obtain ⟨g3,g4⟩:=g2 h0;split at h
     .rename_i hio;rw [if_pos (show inR w.length x.outs=true/\x.outs.length<=out.length by rw [<-hb.1]; exact hio)];obtain ⟨w',y1,y2⟩:=Yv hO hc hct hd l (k+1) _ (cE w x.outs out) s' r hk.2 (fun y hy=>hf y (by simp [hy])) (Jn _ _ _ hv x2 g3 g4) g1 (hb.cE _ _) (hu.imp (fun e=>by rw [e]) fun hh y hy=>hh y (by simp [hy])) h;exact ⟨w',y1,fun hz=>⟨(y2 hz).1,fun e=>(y2 hz).2 (by rw [e])⟩⟩
     .cases h
    .rw [if_pos h0] at h ⊢
     cases h
     exact ⟨[],rfl,fun h=>absurd h h0⟩
  .cases h
structure RelD (O:Ops) (near:List Int) (p n:Nat) (x:Ss.Ins) (o:Int) (j:Nat) (v w:List Int):Prop where
 but:But o.toNat v w
 l:Dm near n j->Made O x o.toNat v
 r:Dm near p j->Made O x o.toNat w
structure RelE (O:Ops) (near:List Int) (p n:Nat) (x:Ss.Ins) (o:Int) (j:Nat) (v w:List Int):Prop where
 but:But o.toNat v w
 l:(j=n\/Dm near n j)->Made O x o.toNat v
 r:(j=p\/Dm near p j)->Made O x o.toNat w
theorem ag0 {α:Type} {l:List α} {i k:Nat}:(l.drop i)[k]? = l[i+k]? := by rw [List.getElem?_drop]
theorem aqy {O:Ops} (hO:OpsOk O) {e:Ss.Env} {f g:Ss.Fn} {ds dg:List Ss.Def} {near:List Int} {p n i:Nat} {bp bn:Ss.Block} {x:Ss.Ins} {o:Int} (hM:MoveF f g near p n i bp bn x o) (hf:FnOk e f ds near) (hg:FnOk e g dg near) {j:Nat} {b c:Ss.Block} (hb:f.blocks[j]? = some b) (hcj:g.blocks[j]? = some c)
  {call call':Int->List Int->State->Option Res} (hc:CallTS e call call') (hct:jcm e call) (hct':jcm e call') {v w:List Int} {s:State} {r:List Int × State × Int} (hv:Ty f.types v) (hw:Ty f.types w) (hs:StT e s) (hR:RelD O near p n x o j v w) (h:codeF O call b.code v s=some r) :
  ∃ w',codeF O call' c.code w s=some (w',r.2.1,r.2.2)/\(r.2.2=0->RelE O near p n x o j r.1 w'):=by
 have hbo:=hf.blocks j b hb;have hco:=hg.blocks j c hcj;have hgt:g.types=f.types:=by rw [hM.hg]; rfl
 have hxo:=hM.out;have hjc:g.blocks[j]? = if j=p then some (Ss.cC bp x) else if j=n then some (Ss.cutAt bn i) else f.blocks[j]? := by rw [hM.hg]; exact hM.hm.at j
 have hR2:=hR;obtain ⟨hbut,hl,hr⟩:=hR2
 by_cases e1:j=p
 .rw [if_pos e1,hcj] at hjc;have hc2:c=Ss.cC bp x:=Option.some.inj hjc;have hb2:b=bp:=by
   have:=hM.hm.hp;rw [<-e1,hb] at this;exact Option.some.inj this
  subst hb2;have hcode:c.code=b.code++[x]:=by rw [hc2]; rfl
  have hnu : ∀ y∈b.code, ∀ a∈y.args,a.toNat≠o.toNat:=fun y hy a ha e=>by
   obtain ⟨k,hk⟩:=aB.1 hy;exact (hM.code j b hb k y hk ⟨a,ha,e⟩).1 e1
  obtain ⟨w1,y1,y2⟩:=Yv hO hc hct hf.dsl b.code 0 v w s r hbo.code hbo.ins hv hs hbut (.inr hnu) h;obtain ⟨z1,z2⟩:=Wz hO hct hf.dsl b.code 0 v s r hbo.code hbo.ins hv hs h;rw [hcode]
  by_cases hz:r.2.2=0
  .have hck:=hco.code;rw [hcode] at hck;obtain ⟨hc1,hc2'⟩:=Kc hck;have hin1 : ∀ y∈b.code,y.Fits/\Ss.InTs g.types.length y.outs:=fun y hy=>hco.ins y (by rw [hcode]; exact List.mem_append_left _ hy)
   obtain ⟨_,z4⟩:=Wz hO hct' hg.dsl b.code 0 w s (w1,r.2.1,r.2.2) hc1 hin1 (hgt▸hw) hs y1;have hw1:=z4 hz;rw [a8] at hc2';simp only [Ss.cx,af] at hc2';have hxi:=hco.ins x (by rw [hcode]; simp);have hone:=pure_one hO hM.pu hc2'.1 hg.dsl hw1 call' r.2.1;have hina:inR w1.length x.args=true:=by
    rw [hw1.len, <-hg.dsl];have hi:=hc2'.1;simp only [Ss.insOk,af] at hi;exact KA (asks_in hi.2)
   have hino:inR w1.length x.outs=true:=by rw [hw1.len]; exact KA hxi.2
   have hcx:codeF O call' [x] w1 r.2.1=some (w1.set o.toNat (jbu O x (valsI w1 x.args)),r.2.1,0):=by
    rw [codeF,if_pos hina,hone];simp only [ne_eq,not_true_eq_false,if_false];rw [if_pos ⟨hino,by rw [hxo]; exact a9 _⟩,hxo]
    rfl
   refine ⟨w1.set o.toNat (jbu O x (valsI w1 x.args)), ?_,fun _ => ?_⟩
   .rw [aci [x] y1 hz,hcx,hz]
   .have hb3:=(y2 hz).1;have hwl:=hw1.len;have hol:o.toNat<w1.length:=by
     have:=hxi.2 o (by rw [hxo]; simp);rw [hw1.len]; omega
    refine ⟨hb3.right _,fun hn => ?_,fun _ => ?_⟩
    .rcases hn with hn | hn
     .exact absurd (e1.symm.trans hn) hM.hm.ne
     .refine (hl hn).keep fun a ha => ?_
      exact JU (fun y hy u hu=>(hM.keepF j b hb hn a ha).2 y hy u hu) h hz
    .unfold Made;rw [zR,if_pos ⟨rfl,hol⟩]
     congr 1
     refine aZ fun a ha => ?_
     rw [zR,if_neg (fun e=>hM.xo a ha e.1.symm)]
  .exact ⟨w1,jdo [x] y1 hz,fun h=>absurd h hz⟩
 rw [if_neg e1] at hjc
 by_cases e2:j=n
 .rw [if_pos e2,hcj] at hjc;have hc2:c=Ss.cutAt bn i:=Option.some.inj hjc;have hb2:b=bn:=by
   have:=hM.hm.hn;rw [<-e2,hb] at this;exact Option.some.inj this
  subst hb2;have hil:=(ae.1 hM.hm.hi).1;have hie:b.code[i]=x:=(ae.1 hM.hm.hi).2;have hsp:b.code=b.code.take i++x::b.code.drop (i+1):=by
   rw [<-hie, <-am hil,List.take_append_drop]
  have hcode:c.code=b.code.take i++b.code.drop (i+1):=by rw [hc2]; exact List.eraseIdx_eq_take_drop_succ _ _
  have hpre : ∀ y∈b.code.take i, ∀ a∈y.args,a.toNat≠o.toNat:=fun y hy a ha e=>by
   obtain ⟨k,hk⟩:=aB.1 hy;rw [List.getElem?_take] at hk;split at hk
   .have h1:=(hM.code j b hb k y hk ⟨a,ha,e⟩).2.2;rcases h1 with h1 | h1
    .omega
    .exact h1.1 e2.symm
   .cases hk
  have hpost : ¬ Dm near p j -> ∀ y∈b.code.drop (i+1), ∀ a∈y.args,a.toNat≠o.toNat:=fun hn y hy a ha e=>by
   obtain ⟨k,hk⟩:=aB.1 hy;rw [ag0] at hk;exact hn (hM.code j b hb _ y hk ⟨a,ha,e⟩).2.1
  have hck:=hbo.code;rw [hsp] at hck;obtain ⟨hc1,hc3⟩:=Kc hck;simp only [Ss.cx,af] at hc3;have hin1 : ∀ y∈b.code.take i,y.Fits/\Ss.InTs f.types.length y.outs:=fun y hy=>hbo.ins y (List.mem_of_mem_take hy)
  have hin2 : ∀ y∈b.code.drop (i+1),y.Fits/\Ss.InTs f.types.length y.outs:=fun y hy=>hbo.ins y (List.mem_of_mem_drop hy)
  have hxi:=hbo.ins x (aA hM.hm.hi);have hgin : ∀ y∈b.code.take i,y∈c.code:=fun y hy=>by rw [hcode]; exact List.mem_append_left _ hy
  have hgin2 : ∀ y∈b.code.drop (i+1),y∈c.code:=fun y hy=>by rw [hcode]; exact List.mem_append_right _ hy
  rw [hsp] at h
  cases hpr:codeF O call (b.code.take i) v s with
  | none=>rw [ahv _ hpr] at h; cases h
  | some q =>
   obtain ⟨w1,y1,y2⟩:=Yv hO hc hct hf.dsl _ 0 v w s q hc1 hin1 hv hs hbut (.inr hpre) hpr;obtain ⟨z1,z2⟩:=Wz hO hct hf.dsl _ 0 v s q hc1 hin1 hv hs hpr;rw [hcode]
   by_cases hq:q.2.2=0
   .rw [aci _ hpr hq] at h;have hv1:=z2 hq;have hb1:=(y2 hq).1;have hone:=pure_one hO hM.pu hc3.1 hf.dsl hv1 call q.2.1;have hina:inR q.1.length x.args=true:=by
     rw [hv1.len, <-hf.dsl];have hi:=hc3.1;simp only [Ss.insOk,af] at hi;exact KA (asks_in hi.2)
    have hino:inR q.1.length x.outs=true:=by rw [hv1.len]; exact KA hxi.2
    have hol:o.toNat<q.1.length:=by
     have:=hxi.2 o (by rw [hxo]; simp);rw [hv1.len]; omega
    obtain ⟨_,g2⟩:=af6 hO hct hc3.1 hxi.1 hf.dsl hv1 z1 hone;obtain ⟨g3,g4⟩:=g2 rfl;have hv2:=Jn _ _ _ hv1 hxi.2 g3 g4;rw [hxo] at hv2;have hv2:Ty f.types (q.1.set o.toNat (jbu O x (valsI q.1 x.args))):=hv2;rw [codeF,if_pos hina,hone] at h;simp only [ne_eq,not_true_eq_false,if_false] at h;rw [if_pos ⟨hino,by rw [hxo]; exact a9 _⟩,hxo] at h;have h:codeF O call (b.code.drop (i+1)) (q.1.set o.toNat (jbu O x (valsI q.1 x.args))) q.2.1=some r:=h;have hmade:Made O x o.toNat (q.1.set o.toNat (jbu O x (valsI q.1 x.args))):=by
     unfold Made;rw [zR,if_pos ⟨rfl,hol⟩]
     congr 1
     refine aZ fun a ha => ?_
     rw [zR,if_neg (fun e=>hM.xo a ha e.1.symm)]
    have hb2:=hb1.left (jbu O x (valsI q.1 x.args));have hpw:Dm near p j->Made O x o.toNat w1:=fun hn=>(hr hn).keep fun a ha=>JU (fun y hy u hu=>(hM.keepG j c hcj hn a ha).2 y (hgin y hy) u hu) y1 hq
    have hor:(q.1.set o.toNat (jbu O x (valsI q.1 x.args)))=w1 \/ ∀ y∈b.code.drop (i+1), ∀ a∈y.args,a.toNat≠o.toNat:=by
     by_cases hn:Dm near p j
     .exact .inl (hmade.eq (hpw hn) hb2 hM.xo)
     .exact .inr (hpost hn)
    obtain ⟨w2,y3,y4⟩:=Yv hO hc hct hf.dsl _ _ _ w1 q.2.1 r hc3.2 hin2 hv2 z1 hb2 hor h;refine ⟨w2,by rw [aci _ y1 hq]; exact y3,fun hz=>⟨(y4 hz).1,fun _ => ?_,fun hn => ?_⟩⟩
    .refine hmade.keep fun a ha=>JU (fun y hy u hu => ?_) h hz
     obtain ⟨k,hk⟩:=aB.1 hy;rw [ag0] at hk;exact hM.keepN _ y hk (by omega) a ha u hu
    .rcases hn with hn | hn
     .exact absurd hn e1
     .exact (hpw hn).keep fun a ha=>JU (fun y hy u hu=>(hM.keepG j c hcj hn a ha).2 y (hgin2 y hy) u hu) y3 hz
   .rw [jdo _ hpr hq] at h
    cases h
    exact ⟨w1,jdo _ y1 hq,fun h=>absurd h hq⟩
 rw [if_neg e2,hb,hcj] at hjc;have hc2:c=b:=Option.some.inj hjc;subst hc2;have hor:v=w \/ ∀ y∈c.code, ∀ a∈y.args,a.toNat≠o.toNat:=by
  by_cases hn:Dm near n j/\Dm near p j
  .exact .inl ((hl hn.1).eq (hr hn.2) hbut hM.xo)
  .refine .inr fun y hy a ha e=>hn ?_
   obtain ⟨k,hk⟩:=aB.1 hy;obtain ⟨h1,h2,h3⟩:=hM.code j c hb k y hk ⟨a,ha,e⟩;rcases h3 with h3 | h3
   .exact absurd h3.1 e2
   .exact ⟨h3,h2⟩
 obtain ⟨w1,y1,y2⟩:=Yv hO hc hct hf.dsl c.code 0 v w s r hbo.code hbo.ins hv hs hbut hor h;refine ⟨w1,y1,fun hz=>⟨(y2 hz).1,fun hn => ?_,fun hn => ?_⟩⟩
 .rcases hn with hn | hn
  .exact absurd hn e2
  .exact (hl hn).keep fun a ha=>JU (fun y hy u hu=>(hM.keepF j c hb hn a ha).2 y hy u hu) h hz
 .rcases hn with hn | hn
  .exact absurd hn e1
  .exact (hr hn).keep fun a ha=>JU (fun y hy u hu=>(hM.keepG j c hcj hn a ha).2 y hy u hu) y1 hz
def StepF (f g:Ss.Fn):Prop:=g=f \/ ∃ (p n i:Nat) (bp bn:Ss.Block) (x:Ss.Ins),g=Ss.moved f p n i/\Ss.Mv f.blocks p n i bp bn x/\Ss.pure x.op=true
def RelX (O:Ops) (f g:Ss.Fn) (j:Nat) (v w:List Int):Prop:=(g=f/\v=w) \/ ∃ (p n i:Nat) (bp bn:Ss.Block) (x:Ss.Ins) (o:Int),MoveF f g (cD (Ss.succs f.blocks)) p n i bp bn x o/\RelD O (cD (Ss.succs f.blocks)) p n x o j v w
def RelY (O:Ops) (f g:Ss.Fn) (j:Nat) (v w:List Int):Prop:=(g=f/\v=w) \/ ∃ (p n i:Nat) (bp bn:Ss.Block) (x:Ss.Ins) (o:Int),MoveF f g (cD (Ss.succs f.blocks)) p n i bp bn x o/\RelE O (cD (Ss.succs f.blocks)) p n x o j v w
theorem amj {O:Ops} {e:Ss.Env} {f g:Ss.Fn} (hc:Ss.check e f=true) (hc':Ss.check e g=true) (h:StepF f g) (v:List Int):RelX O f g 0 v v:=by
 rcases h with h | ⟨p,n,i,bp,bn,x,rfl,hm,hx⟩
 .exact .inl ⟨h,rfl⟩
 .obtain ⟨o,hM⟩:=Ss.ak1 hc hc' hm hx;obtain ⟨_,_,d2,_⟩:=Ss.ab5 hc;refine .inr ⟨p,n,i,bp,bn,x,o,hM,⟨rfl,fun _ _=>rfl⟩,fun hn=>absurd (d2 n hM.nl hn.2) hn.1,fun hn=>absurd (d2 p hM.pl hn.2) hn.1⟩
theorem aiv {O:Ops} {f g:Ss.Fn} {j:Nat} {b:Ss.Block} {v w:List Int} (hb:f.blocks[j]? = some b) (h:RelX O f g j v w) (args:List Int):RelX O f g j (cE v b.params args) (cE w b.params args) /\ ∃ c,g.blocks[j]? = some c/\c.params=b.params/\c.term=b.term/\g.types=f.types:=by
 rcases h with ⟨rfl,rfl⟩ | ⟨p,n,i,bp,bn,x,o,hM,hR⟩
 .exact ⟨.inl ⟨rfl,rfl⟩,b,hb,rfl,rfl,rfl⟩
 .have hjc:g.blocks[j]? = if j=p then some (Ss.cC bp x) else if j=n then some (Ss.cutAt bn i) else f.blocks[j]? := by rw [hM.hg]; exact hM.hm.at j
  have hgt:g.types=f.types:=by rw [hM.hg]; rfl
  have hC : ∃ c,g.blocks[j]? = some c/\c.params=b.params/\c.term=b.term/\g.types=f.types:=by
   by_cases e1:j=p
   .rw [if_pos e1] at hjc;have hb2:b=bp:=by
     have:=hM.hm.hp;rw [<-e1,hb] at this;exact Option.some.inj this
    subst hb2;exact ⟨_,hjc,rfl,rfl,hgt⟩
   .rw [if_neg e1] at hjc
    by_cases e2:j=n
    .rw [if_pos e2] at hjc;have hb2:b=bn:=by
      have:=hM.hm.hn;rw [<-e2,hb] at this;exact Option.some.inj this
     subst hb2;exact ⟨_,hjc,rfl,rfl,hgt⟩
    .rw [if_neg e2,hb] at hjc;exact ⟨_,hjc,rfl,rfl,hgt⟩
  refine ⟨.inr ⟨p,n,i,bp,bn,x,o,hM,hR.but.cE _ _,fun hn=>(hR.l hn).keep fun a ha=>JT _ _ _ _ (hM.keepF j b hb hn a ha).1,fun hn=>(hR.r hn).keep fun a ha => ?_⟩,hC⟩;obtain ⟨c,hcj,hcp,_⟩:=hC;exact JT _ _ _ _ (hcp▸(hM.keepG j c hcj hn a ha).1)
theorem ap0 {O:Ops} {f g:Ss.Fn} {j:Nat} {b:Ss.Block} {v w:List Int} (hb:f.blocks[j]? = some b) (h:RelY O f g j v w):v.length=w.length /\ ∃ o:Nat,But o v w/\(v=w \/ ¬ Ss.usesT o b.term):=by
 rcases h with ⟨rfl,rfl⟩ | ⟨p,n,i,bp,bn,x,o,hM,hR⟩
 .exact ⟨rfl,0,⟨rfl,fun _ _=>rfl⟩, .inl rfl⟩
 .refine ⟨hR.but.1,o.toNat,hR.but, ?_⟩
  by_cases hu:Ss.usesT o.toNat b.term
  .obtain ⟨h1,h2⟩:=hM.term j b hb hu;exact .inl ((hR.l h1).eq (hR.r h2) hR.but hM.xo)
  .exact .inr hu
theorem aqc {O:Ops} {e:Ss.Env} {f g:Ss.Fn} (hc:Ss.check e f=true) {j:Nat} {b:Ss.Block} {v w:List Int} (hb:f.blocks[j]? = some b) (h:RelY O f g j v w) {ed:Ss.Edge} (he:ed∈b.term.to):RelX O f g ed.to.toNat v w:=by
 rcases h with ⟨rfl,rfl⟩ | ⟨p,n,i,bp,bn,x,o,hM,hR⟩
 .exact .inl ⟨rfl,rfl⟩
 .obtain ⟨_,_,_,d3⟩:=Ss.ab5 hc;have key : ∀ d:Nat,d<f.blocks.length->Dm (cD (Ss.succs f.blocks)) d ed.to.toNat->j=d\/Dm (cD (Ss.succs f.blocks)) d j:=fun d hd hn=>by
   have:=d3 d j ed.to.toNat b ed hb he rfl hd hn.1 hn.2
   by_cases e:j=d
   .exact .inl e
   .exact .inr ⟨Ne.symm e,this⟩
  exact .inr ⟨p,n,i,bp,bn,x,o,hM,hR.but,fun hn=>hR.l (key n hM.nl hn),fun hn=>hR.r (key p hM.pl hn)⟩
structure StepP (P Q:Prog):Prop where
 env:Q.env=P.env
 fns : ∀ (k:Nat) (f:Ss.Fn),P.fns[k]? = some f -> ∃ g,Q.fns[k]? = some g/\StepF f g
def LicSim (O:Ops) (P Q:Prog) (N d:Nat):Prop :=
 ∀ (f g:Ss.Fn) (v w:List Int) (at_:Nat) (args:List Int) (s:State) (r:Res),f∈P.fns->g∈Q.fns->RelX O f g at_ v w->Ty f.types v->Ty f.types w->fitP (Ss.cv f.types (f.blocks.getD at_ default).params) args->(∀ y∈args,U64 y)->StT P.env s ->
  cF O P N d f v at_ args s=some r->cF O Q N d g w at_ args s=some r
theorem aea {O:Ops} {P Q:Prog} (hP:RightP P) (hQ:RightP Q) (hS:StepP P Q) {N d:Nat} (h:LicSim O P Q N (d+1)):CallTS P.env (callG P (cF O P N) d) (callG Q (cF O Q N) d):=by
 intro n args s t r h0 ht hf hu hs hr;rw [callG] at hr ⊢;rw [hS.env];split at hr
 .rename_i hn;rw [if_pos hn];exact hr
 .rename_i hn;rw [if_neg hn];have hen:=hP.env;simp only [Ss.Env.right,af,aj] at hen;have hi0:=hen.1.1.1.1.1;split at hr
  .rename_i hd;rw [if_pos hd]; exact hr
  .rename_i hd;rw [if_neg hd];split at hr
   .rename_i f hfk;obtain ⟨f1,f2,f3⟩:=hP.fns _ f hfk;obtain ⟨g,hgk,hst⟩:=hS.fns _ f hfk;obtain ⟨g1,g2,g3⟩:=hQ.fns _ g hgk;rw [hS.env] at g2;have e1:(P.env.imports+((n-P.env.imports).toNat:Int)).toNat=n.toNat:=by omega
    rw [e1,ht] at f3
    cases f3
    rw [hgk];have hgt:g.types=f.types:=by
     rcases hst with rfl | ⟨p,q,i,bp,bn,x,rfl,_⟩<;>rfl
    simp only [hgt];have ht0:=ajj (jbg f2);exact h f g _ _ 0 args s r (aA hfk) (aA hgk) (amj f2 g2 hst _) ht0 ht0 (by rw [<-jbb f2]; exact YX hf) hu hs hr
   .cases hr
theorem YP {O:Ops} (hO:OpsOk O) {P Q:Prog} (hP:RightP P) (hQ:RightP Q) (hS:StepP P Q) : ∀ N d,LicSim O P Q N d
 | 0,d=>fun f g v w at_ args s r _ _ _ _ _ _ _ _ h=>by cases h
 | N+1,d=>fun f g v w at_ args s r hf hg hR hv hw hfa hua hs h=>by
  obtain ⟨fi,hfi⟩:=aB.1 hf;obtain ⟨gi,hgi⟩:=aB.1 hg;obtain ⟨f1,f2,f3⟩:=hP.fns fi f hfi;obtain ⟨g1,g2,g3⟩:=hQ.fns gi g hgi;rw [hS.env] at g2;obtain ⟨ds,hds,hok⟩:=acb f1 f2;obtain ⟨dg,hdg,hgk⟩:=acb g1 g2;have hcall:=aea (O:=O) hP hQ hS (YP hO hP hQ hS N (d+1));have hct:=ac5 (O:=O) hP (Yi hO hP N (d+1));have hct':=ac5 (O:=O) hQ (Yi hO hQ N (d+1));rw [hS.env] at hct';rw [cF] at h ⊢
  cases hb:f.blocks[at_]? with
  | none=>rw [hb] at h; cases h
  | some b =>
   rw [hb] at h;simp only at h;have hbo:=hok.blocks at_ b hb;have e0:f.blocks.getD at_ default=b:=by rw [ag,hb]; rfl
   rw [e0] at hfa;obtain ⟨hR1,c,hcj,hcp,hctm,hgt⟩:=aiv hb hR args;rw [hcj];simp only [hcp,hctm];have hlen:v.length=w.length:=by rw [hv.len,hw.len]
   rw [<-hlen];split at h
   .rename_i hpar;rw [if_pos hpar];have hv1:=Jn v b.params args hv hbo.pars hfa hua;have hw1:=Jn w b.params args hw hbo.pars hfa hua
    cases hcd:codeF O (callG P (cF O P N) d) b.code (cE v b.params args) s with
    | none=>rw [hcd] at h; cases h
    | some q =>
     obtain ⟨z1,z2⟩:=Wz hO hct hok.dsl b.code 0 _ s q hbo.code hbo.ins hv1 hs hcd;have hstep : ∃ w',codeF O (callG Q (cF O Q N) d) c.code (cE w b.params args) s=some (w',q.2.1,q.2.2)/\(q.2.2=0->RelY O f g at_ q.1 w'):=by
      rcases hR1 with ⟨rfl,he⟩ | ⟨p,n,i,bp,bn,x,o,hM,hR2⟩
      .rw [hb] at hcj
       cases hcj
       obtain ⟨w',y1,y2⟩:=Yv (o:=0) hO hcall hct hok.dsl b.code 0 _ (cE w b.params args) s q hbo.code hbo.ins hv1 hs ⟨by rw [he],fun a _=>by rw [he]⟩ (.inl he) hcd;exact ⟨w',y1,fun hz => .inl ⟨rfl,(y2 hz).2 he⟩⟩
      .have hsu:Ss.succs g.blocks=Ss.succs f.blocks:=by rw [hM.hg]; exact hM.hm.succs
       rw [hsu] at hgk;obtain ⟨w',y1,y2⟩:=aqy hO hM hok hgk hb hcj hcall hct hct' hv1 hw1 hs hR2 hcd;exact ⟨w',y1,fun hz => .inr ⟨p,n,i,bp,bn,x,o,hM,y2 hz⟩⟩
     obtain ⟨w2,y1,y2⟩:=hstep;have hwt:q.2.2=0->Ty f.types w2:=by
      have hco:=(hgk.blocks at_ c hcj)
      have:=Wz hO hct' hgk.dsl c.code 0 _ s (w2,q.2.1,q.2.2) hco.code hco.ins (hgt▸hw1) hs y1;rw [hgt] at this;exact this.2
     rw [hcd] at h;rw [y1];obtain ⟨v2,s2,er⟩:=q;simp only at h z1 z2 y2 hwt ⊢
     by_cases he:er=0
     .rw [if_neg (not_not_intro he)] at h ⊢;have z3:=z2 he;have w3:=hwt he;have y3:=y2 he;obtain ⟨hl2,o,hbt,hus⟩:=ap0 hb y3;obtain ⟨t1,t2⟩:=ai6 hbo.term hok.dsl z3;rw [<-hl2];have hva : ∀ l:List Int,((∃ a∈l,a.toNat=o)->Ss.usesT o b.term)->valsI v2 l=valsI w2 l:=fun l hl=>by
       rcases hus with e | hus
       .rw [e]
       .exact hbt.vals fun a ha e=>hus (hl ⟨a,ha,e⟩)
      split at h
      .rename_i h4;rw [if_pos h4];split at h
       .rename_i h5;rw [if_pos h5, <-hva _ .inl];exact h
       .cases h
      .rename_i h4;rw [if_neg h4];split at h
       .rename_i h5;rw [if_pos h5]; exact h
       .rename_i h5;have hpk:pickF w2 b.term=pickF v2 b.term:=by
         have hta:Ss.branches b.term=true->v2.getD b.term.arg.toNat 0=w2.getD b.term.arg.toNat 0:=fun hbr=>by
          have:=hva [b.term.arg] (by
           rintro ⟨a,ha,e⟩;rw [aU] at ha;subst ha;exact .inr (.inl ⟨hbr,e⟩))
          simpa [valsI] using this
         unfold pickF;rw [<-hl2]
         by_cases k2:b.term.kind=2
         .rw [hta (by simp [Ss.branches,k2])]
         .by_cases k3:b.term.kind=3
          .rw [hta (by simp [Ss.branches,k3])]
          .rw [if_neg k2,if_neg k3,if_neg k2,if_neg k3]
        rw [if_neg h5,hpk];split at h
        .cases h
        .rename_i k hpk;split at h
         .cases h
         .rename_i ed hed;have hedm:=aA hed;split at h
          .rename_i h6;rw [if_pos h6];rw [<-hva ed.args fun hh => .inr (.inr ⟨ed,hedm,hh⟩)];exact YP hO hP hQ hS N d f g v2 w2 ed.to.toNat _ s2 r hf hg (aqc f2 hb y3 hedm) z3 w3 (YX (t2 ed hedm)) (aaf z3.u _) z1 h
          .cases h
     .rw [if_pos he] at h ⊢;exact h
   .cases h
noncomputable def Wl (f:Ss.Fn):Ss.Fn:=match Ss.first f.blocks (Ss.homeOf f) (Ss.lps f.blocks) with
 | none=>f
 | some m=>Ss.moved f m.1 m.2.1 m.2.2
noncomputable def licTP (k:Nat) (P:Prog):Prog:=⟨P.env,P.fns.map (Ss.licTo k)⟩
noncomputable def licP (P:Prog):Prog:=⟨P.env,P.fns.map Ss.licF⟩
theorem YQ (k:Nat) (f:Ss.Fn):Ss.licTo (k+1) f=Ss.licTo k (Wl f):=by
 cases h:Ss.first f.blocks (Ss.homeOf f) (Ss.lps f.blocks) with
 | none =>
  have e:Wl f=f:=by rw [Wl,h]
  rw [e,Ss.aap _ h,Ss.aap _ h]
 | some m =>
  have e:Wl f=Ss.moved f m.1 m.2.1 m.2.2:=by rw [Wl,h]
  rw [e,Ss.licTo,h]
theorem adz (j:Nat) : ∀ (k:Nat) (f:Ss.Fn),Ss.licTo (k+j) f=Ss.licTo j (Ss.licTo k f)
 | 0,f=>by rw [a8]; rfl
 | k+1,f=>by
  rw [Nat.add_right_comm,YQ,adz j k,YQ]
theorem al6 {e:Ss.Env} {f:Ss.Fn} (h:Ss.check e f=true) {k:Nat} (hk:Ss.wt f+1<=k):Ss.licTo k f=Ss.licF f:=by
 obtain ⟨j,rfl⟩ : ∃ j,k=Ss.wt f+1+j:=⟨k-(Ss.wt f+1),by omega⟩
 rw [adz];exact Ss.aap _ (Ss.apl h)
theorem afc {e:Ss.Env} {f:Ss.Fn} (h:Ss.check e f=true) (hf:f.Fits):StepF f (Wl f)/\(Wl f).Fits/\Ss.check e (Wl f)=true/\(Wl f).sig=f.sig:=by
 rw [Wl];split
 .exact ⟨.inl rfl,hf,h,rfl⟩
 .rename_i m hm;obtain ⟨p,n,i⟩:=m;obtain ⟨bp,bn,x,h1,h2,h3,_⟩:=Ss.abx h hm;exact ⟨.inr ⟨p,n,i,bp,bn,x,rfl,h1,h2⟩,Ss.ab6 h hf hm,h3,rfl⟩
theorem aey {O:Ops} (hO:OpsOk O) {n:Int} {args:List Int} {s:State} {t:Ss.Sig} {r:Res} {N:Nat} (h0:0<=n) (hu : ∀ x∈args,U64 x) (hf:fitsL t.inn args=true) : ∀ (k:Nat) (P:Prog),RightP P->P.env.sigs[n.toNat]? = some t->StT P.env s->callF O P N 0 n args s=some r->callF O (licTP k P) N 0 n args s=some r
 | 0,P,hP,ht,hs,h=>by
  have:licTP 0 P=P:=by
   obtain ⟨e,fs⟩:=P;simp only [licTP]
   congr 1
   exact (aZ fun f _=>rfl).trans (List.map_id _)
  rw [this]; exact h
 | k+1,P,hP,ht,hs,h=>by
  have hS:StepP P ⟨P.env,P.fns.map Wl⟩:=⟨rfl,fun j f hj=>⟨Wl f,by simp [hj],(afc (hP.fns j f hj).2.1 (hP.fns j f hj).1).1⟩⟩
  have hQ:RightP ⟨P.env,P.fns.map Wl⟩:=by
   refine ⟨hP.env,by simpa using hP.len,fun i f hf => ?_⟩;simp only [a6,av] at hf;obtain ⟨g,hg,rfl⟩:=hf;obtain ⟨h1,h2,h3⟩:=hP.fns i g hg;obtain ⟨_,k2,k3,k4⟩:=afc h2 h1;exact ⟨k2,k3,by rw [k4]; exact h3⟩
  have h1:=aea hP hQ hS (YP hO hP hQ hS N 1) n args s t r h0 ht hf hu hs h;have:=aey hO h0 hu hf k ⟨P.env,P.fns.map Wl⟩ hQ ht hs h1;have e:licTP k ⟨P.env,P.fns.map Wl⟩=licTP (k+1) P:=by
   simp only [licTP,List.map_map]
   congr 1
   exact aZ fun f _=>(YQ k f).symm
  rwa [e] at this
theorem ak8 {P:Prog} (hP:RightP P):RightP (licP P):=by
 refine ⟨hP.env,by simpa [licP] using hP.len,fun i f hf => ?_⟩;simp only [licP,a6,av] at hf;obtain ⟨g,hg,rfl⟩:=hf;obtain ⟨h1,h2,h3⟩:=hP.fns i g hg;exact ⟨Ss.aef h2 h1,Ss.akh h2,by rw [(Ss.auj h2).1]; exact h3⟩
theorem apw {O:Ops} (hO:OpsOk O) {P:Prog} (hP:RightP P) {N:Nat} {n:Int} {args:List Int} {s:State} {t:Ss.Sig} {r:Res} (h0:0<=n) (ht:P.env.sigs[n.toNat]? = some t) (hf:fitsL t.inn args=true) (hu : ∀ x∈args,U64 x) (hs:StT P.env s) (h:callF O P N 0 n args s=some r):callF O (licP P) N 0 n args s=some r:=by
 obtain ⟨K,hK⟩ : ∃ K, ∀ f∈P.fns,Ss.wt f+1<=K:=by
  generalize P.fns=l
  induction l with
  | nil=>exact ⟨0,by simp⟩
  | cons f l ih =>
   obtain ⟨K,hK⟩:=ih;refine ⟨K+(Ss.wt f+1),fun g hg => ?_⟩;rcases aL.1 hg with rfl | hg
   .omega
   .have:=hK g hg; omega
 have:=aey hO h0 hu hf K P hP ht hs h;have e:licTP K P=licP P:=by
  simp only [licTP,licP]
  congr 1
  refine aZ fun f hfm => ?_
  obtain ⟨i,hi⟩:=aB.1 hfm;exact al6 (hP.fns i f hi).2.1 (hK f hfm)
 rwa [e] at this
end Ev
namespace Go.Vw
open Go.Proofs Go.RowKit
attribute [-simp] List.map_set
theorem aw8 (s:Ev.State) (h2:s.globals.length<2^62) (h3:s.input.length<2^62) (h4:s.log.length<2^62):b8 17 [qe s,qe s] (.bool true):=by
 intro S;obtain ⟨mem,most,glb,fuel,inp,log⟩:=s;simp only at h2 h3 h4;have e1:qe ⟨mem,most,glb,fuel,inp,log⟩ = .agg [vl vby mem,cj most,vl vu glb,cj fuel,vl vu inp,vl vu log]:=rfl;rw [e1];have a1:=asj mem;have a2:=jac glb glb h2;have a3:=jac inp inp h3;have a4:=jac log log h4;rw [bv rfl] at a2 a3 a4;refine b7 Tryz.func17 Tryz.ntmps17 fun hwf=>?_
 refine QY ?_;refine QH 2 0 ?_;refine QH 3 1 ?_;refine QP ?_;refine QL (a1) ?_;refine QZ ?_;refine QL (a2) ?_;refine QZ ?_;refine QL (a3) ?_;refine QZ ?_;refine QL (a4) ?_;refine bV ?_
 exact ja (X := .bool true) hwf (by simp) rfl
theorem aup (a:List Int) (h:a.length<2^62):b8 16 [vl vu a,vl vu a] (.bool true):=by
 have:=jac a a h
 rwa [bv rfl] at this
end Go.Vw
