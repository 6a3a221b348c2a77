import Derived.Test.YtenhhokhkkfgbaaGreatC37
/- Part of the proof. -/
set_option linter.unusedVariables false
set_option linter.unusedSimpArgs false
set_option maxRecDepth 10000
set_option maxHeartbeats 4000000
namespace Ev
def fitP:List Int->List Int->Prop
 | t::ts,n::ns=>fits t n=true/\fitP ts ns
 | _,_=>True
theorem jcM (l:List Int):fitP [] l:=by cases l<;>exact trivial
theorem YI : ∀ {ts ns:List Int},fitsL ts ns=true->fitP ts ns
 | [],ns,_=>jcM ns
 | t::ts,[],_=>trivial
 | t::ts,n::ns,h=>by
  simp only [fitsL,af] at h;exact ⟨h.1,YI h.2⟩
structure Ty (ts v:List Int):Prop where
 len:v.length=ts.length
 u : ∀ y∈v,U64 y
 fit : ∀ a:Nat,a<ts.length->fits (ts.getD a 0) (v.getD a 0)=true
theorem fits_zero {t:Int} (h:Ss.isKind t=true):fits t 0=true:=by
 simp only [Ss.isKind,bq,aj] at h;rcases h with rfl | rfl<;>decide
theorem ty_zero {n:Nat} {ts:List Int} (h:Ss.kinds n ts=true):Ty ts (List.replicate ts.length 0):=by
 simp only [Ss.kinds,af,aD] at h;refine ⟨by simp,fun y hy=>by rw [List.eq_of_mem_replicate hy]; exact u64_0,fun a ha => ?_⟩;have e1:(List.replicate ts.length (0:Int)).getD a 0=0:=by simp [ag,List.getElem?_replicate,ha]
 have e2:ts.getD a 0=ts[a]:=by simp [ag,ac ha]
 rw [e1,e2];exact fits_zero (h.2 _ (ah ha))
theorem JI {ts:List Int} : ∀ (v is xs:List Int),Ty ts v->Ss.InTs ts.length is->fitP (Ss.typesOf ts is) xs->(∀ x∈xs,U64 x)->Ty ts (setAll v is xs)
 | v,[],_,h,_,_,_=>h
 | v,_::_,[],h,_,_,_=>h
 | v,i::is,x::xs,h,hi,hf,hu=>by
  rw [setAll];have hf:fits (ts.getD i.toNat 0) x=true/\fitP (Ss.typesOf ts is) xs:=hf;obtain ⟨i0,i1⟩:=hi i (by simp);have hvl:=h.len;refine JI _ is xs ⟨by rw [List.length_set]; exact h.len,fun y hy => ?_,fun a ha => ?_⟩ (fun w hw=>hi w (by simp [hw])) hf.2 fun y hy=>hu y (by simp [hy])
  ·rcases List.mem_or_eq_of_mem_set hy with h1 | rfl
   ·exact h.u y h1
   ·exact hu _ (by simp)
  ·by_cases e:i.toNat=a
   ·subst e;have e1:(v.set i.toNat x).getD i.toNat 0=x:=by rw [ag,aZ (by omega)]; rfl
    rw [e1]; exact hf.1
   ·have e1:(v.set i.toNat x).getD a 0=v.getD a 0:=by rw [ag,aR e, <-ag]
    rw [e1]; exact h.fit a ha
theorem KW {ts:List Int} {ds:List Ss.Def} {near:List Int} {i k:Int} {v:List Int} (hv:Ty ts v) (hd:ds.length=ts.length) : ∀ {l types:List Int},Ss.asks ts ds near i k l types=true->fitsL types (valsI v l)=true
 | [],[],_=>rfl
 | [],_::_,h=>by simp [Ss.asks,Go.Vw.eqF] at h
 | _::_,[],h=>by simp [Ss.asks,Go.Vw.eqF] at h
 | a::l,t::types,h=>by
  simp only [Ss.asks,Go.Vw.eqF,af] at h;obtain ⟨h1,h2⟩:=h;have ih:=KW hv hd (l:=l) (types:=types) h2;simp only [Ss.askOk,af,aj] at h1;obtain ⟨⟨⟨⟨a0,a1⟩,a2⟩,a3⟩,a4⟩:=h1;have:=hv.fit a.toNat (by omega);rw [a2] at this;show (fits t (v.getD a.toNat 0)&&fitsL types (valsI v l))=true;rw [this,ih]; rfl
theorem jcK : ∀ {ts ns:List Int} {k:Nat} {n:Int},fitsL ts ns=true->ns[k]? = some n->fits (ts.getD k 0) n=true
 | [],[],k,n,_,h=>by simp at h
 | [],_::_,k,n,h,_=>by cases h
 | _::_,[],k,n,h,_=>by cases h
 | t::ts,m::ns,0,n,h,hk=>by
  simp only [fitsL,af] at h;simp only [aK,ay] at hk;subst hk;exact h.1
 | t::ts,m::ns,k+1,n,h,hk=>by
  simp only [fitsL,af] at h;have:=jcK (k:=k) h.2 (by simpa using hk);simpa using this
theorem fitsL_set : ∀ {ts ns:List Int} {k:Nat} {n:Int},fitsL ts ns=true->fits (ts.getD k 0) n=true->fitsL ts (ns.set k n)=true
 | [],[],k,n,_,_=>rfl
 | [],_::_,k,n,h,_=>by cases h
 | _::_,[],k,n,h,_=>by cases h
 | t::ts,m::ns,0,n,h,hk=>by
  simp only [fitsL,af] at h;simp only [au,fitsL,af];exact ⟨by simpa using hk,h.2⟩
 | t::ts,m::ns,k+1,n,h,hk=>by
  simp only [fitsL,af] at h;simp only [aq,fitsL,af];exact ⟨h.1,fitsL_set h.2 (by simpa using hk)⟩
structure StT (e:Ss.Env) (s:State):Prop where
 mem:Go.Vw.byteL s.mem
 cap:s.mem.length<=4096
 most : -9223372036854775808<=s.most/\s.most<9223372036854775808
 glu : ∀ y∈s.globals,U64 y
 glob:fitsL e.globals s.globals=true
 inp : ∀ y∈s.input,U64 y
def CallTy (e:Ss.Env) (call:Int->List Int->State->Option Res):Prop :=
 ∀ (n:Int) (args:List Int) (s:State) (t:Ss.Sig) (r:Res),0<=n->e.sigs[n.toNat]? = some t->fitsL t.inn args=true->(∀ x∈args,U64 x)->StT e s->call n args s=some r->StT e r.2.1/\(r.2.2=0->fitP t.out r.1 /\ ∀ x∈r.1,U64 x)
theorem YH {t n:Int} (ht:Ss.isKind t=true) (h:n<4294967296):fits t n=true:=by
 simp only [Ss.isKind,bq,aj] at ht;rcases ht with rfl | rfl
 ·simp [fits,h]
 ·rfl
theorem end1 {e:Ss.Env} {s:State} {t n er:Int} (hs:StT e s) (hf:fits t n=true) (hu:U64 n):StT e s/\(er=0->fitP [t] [n] /\ ∀ x∈[n],U64 x):=⟨hs,fun _=>⟨⟨hf,jcM _⟩,zm hu⟩⟩
theorem end0 {e:Ss.Env} {s:State} {er:Int} (hs:StT e s):StT e s/\(er=0->fitP [] [0] /\ ∀ x∈[(0:Int)],U64 x):=⟨hs,fun _=>⟨trivial,zm u64_0⟩⟩
theorem accOf_kind {op:Int} {c:Ss.Acc} (h:Ss.accOf op=some c):Ss.isKind c.kind=true:=by
 have : ∀ p∈Ss.accL,Ss.isKind p.2.kind=true:=by decide
 have key : ∀ {l:List (Int × Ss.Acc)},(∀ p∈l,Ss.isKind p.2.kind=true)->Ss.findK op l=some c->Ss.isKind c.kind=true:=by
  intro l
  induction l with
  | nil=>intro _ h; cases h
  | cons p l ih =>
   obtain ⟨k,a⟩:=p;intro hp h;rw [Ss.findK] at h;split at h
   ·cases h; exact hp (k,_) (by simp)
   ·exact ih (fun p hq=>hp p (by simp [hq])) h
 exact key this h
theorem jav {op:Int} {a:List Int} (h:(Ss.numSig op).2.2=true) (hf:fitsL (Ss.numSig op).1 a=true):argsOk op a/\(Ss.numSig op).2.1=Ss.rsigT op:=by
 rw [<-Ss.rsig_eq] at h hf ⊢;have hr:Ss.rof op≠0:=fun e=>by simp [Ss.rsig,e] at h
 refine ⟨⟨hr,(fitsL_len hf).symm,fun i h1 h2 => ?_⟩,by simp [Ss.rsig,hr]⟩;have:=jcK hf (ac h1)
 rwa [ag,ac h2,aS] at this
theorem one_ty {O:Ops} (hO:OpsOk O) {e:Ss.Env} {f:Ss.Fn} {ds:List Ss.Def} {near:List Int} {i k:Int} {x:Ss.Ins} {v:List Int} {s:State} {r:Res} {call:Int->List Int->State->Option Res} (hc:CallTy e call) (hi:Ss.insOk e f ds near i k x=true) (hx:x.Fits)
  (hd:ds.length=f.types.length) (hv:Ty f.types v) (hs:StT e s) (h:oneF O call x (valsI v x.args) s=some r):StT e r.2.1/\(r.2.2=0->fitP (Ss.typesOf f.types x.outs) r.1 /\ ∀ y∈r.1,U64 y):=by
 have hu:=vals_u64 hv.u x.args;have hxn:=hx.2.1;simp only [Ss.insOk,af,aj] at hi;obtain ⟨⟨⟨i1,i2⟩,i3⟩,i4⟩:=hi;have ha:=KW hv hd i4;rw [i3];clear i3 i4;generalize valsI v x.args=a at *
 obtain ⟨op,n,xa,xo⟩:=x;simp only at hxn ha i1 i2 hu h ⊢;generalize Ss.insOut f.types ⟨op,n,xa,xo⟩=out at *
 have hal:=fitsL_len ha;unfold oneF at h;simp only at h
 by_cases c1:op=256
 ·subst c1;rw [if_pos rfl] at h
  cases h
  simp only [Ss.form,if_true] at i2 ⊢;split
  ·rename_i ho;rw [if_pos ho] at i2;exact ⟨hs,fun _=>⟨⟨YH (by decide) (by simp only at i2; omega),trivial⟩,zm hxn⟩⟩
  ·exact ⟨hs,fun _=>⟨⟨rfl,trivial⟩,zm hxn⟩⟩
 simp only [Ss.form,if_neg c1] at i1 i2 ha hal h ⊢
 by_cases c2:op=258
 ·subst c2;simp only [if_true] at h ⊢;split at h
  ·cases h; exact ⟨hs,fun h=>absurd h (show ¬ (36:Int)=0 by decide)⟩
  ·cases h
   exact ⟨⟨hs.mem,hs.cap,hs.most,hs.glu,hs.glob,hs.inp⟩,fun _=>⟨trivial,zm u64_0⟩⟩
 simp only [if_neg c2] at i1 i2 ha hal h ⊢
 by_cases c3:op=27
 ·simp only [if_pos c3] at ha hal h ⊢;obtain ⟨p,q,w,rfl⟩:=list3 hal.symm;simp only [ay] at h;subst h;simp only [fitsL,af] at ha;refine end1 hs ?_ ?_
  ·split
   ·exact ha.2.1
   ·exact ha.1
  ·split
   ·exact hu _ (by simp)
   ·exact hu _ (by simp)
 simp only [if_neg c3] at i1 i2 ha hal h ⊢
 by_cases c6:op=16
 ·have c4 : ¬ op=35:=by omega
  have c5 : ¬ op=36:=by omega
  simp only [if_neg c4,if_neg c5,if_pos c6] at ha hal i1 h ⊢;split at i1
  ·rename_i hn;rw [if_pos hn] at ha hal ⊢;simp only at ha hal ⊢;have hx0:=hxn.1;have hn2:n.toNat<e.sigs.length:=by omega
   have hd:e.sigs.getD n.toNat default=e.sigs[n.toNat]:=by simp [ag,ac hn2]
   rw [hd] at ha hal ⊢;exact hc n a s _ r hxn.1 (ac hn2) ha hu hs h
  ·cases i1
 simp only [if_neg c6] at i1 i2 ha hal h ⊢
 by_cases c4:op=35
 ·simp only [if_pos (Or.inl c4:op=35\/op=36),Ss.formGlob,if_pos c4] at i1 i2 ha hal h ⊢;split at i1
  ·rename_i hn;simp only [if_pos hn];split at h
   ·rename_i g hg
    cases h
    exact end1 hs (jcK hs.glob hg) (hs.glu _ (aA hg))
   ·cases h
  ·cases i1
 simp only [if_neg c4] at h
 by_cases c5:op=36
 ·simp only [if_pos (Or.inr c5:op=35\/op=36),Ss.formGlob,if_neg c4,if_pos c5] at i1 i2 ha hal h ⊢;split at i1
  ·rename_i hn;rw [if_pos hn] at ha hal ⊢;obtain ⟨p,rfl⟩:=list1 hal.symm;simp only [fitsL,Bool.and_true] at ha;simp only at h;split at h
   ·cases h
    refine ⟨⟨hs.mem,hs.cap,hs.most,fun y hy => ?_,fitsL_set hs.glob ha,hs.inp⟩,fun _=>⟨trivial,zm u64_0⟩⟩;rcases List.mem_or_eq_of_mem_set hy with h1 | rfl
    ·exact hs.glu _ h1
    ·exact hu _ (by simp)
   ·cases h
  ·cases i1
 have c45 : ¬ (op=35\/op=36):=by omega
 simp only [if_neg c45,if_neg c5,YG] at i1 i2 ha hal h ⊢
 cases hns:(Ss.numSig op).2.2 with
 | true =>
  have hop:=Yy hns;simp only [hns,if_true] at ha hal ⊢;have c7 : ¬ op=257:=by omega
  have c8 : ¬ op=63:=by omega
  have c9 : ¬ op=64:=by omega
  simp only [if_neg c7,if_neg c8,if_neg c9,zR (op:=op) (by omega),ay] at h;subst h;obtain ⟨k1,k2⟩:=jav hns ha;have:=Yz op;rw [k2];exact end1 hs (hO.evalFit op a hu (by omega) k1).1 (hO.eval op a hu (by omega))
 | false =>
  simp only [hns,aF,if_false] at i1 i2 ha hal ⊢
  cases hm:e.mem with
  | false=>rw [hm] at i1; cases i1
  | true =>
  simp only [hm,if_true,Ss.formMem] at i1 i2 ha hal ⊢;have hmB:=hs.mem
  by_cases c7:op=257
  ·simp only [if_pos c7] at ha hal h ⊢;obtain ⟨p,rfl⟩:=list1 hal.symm;simp only [ay] at h;subst h;exact end0 hs
  simp only [if_neg c7] at i1 i2 ha hal h ⊢
  by_cases c8:op=63
  ·simp only [if_pos c8,zR (op:=op) (by omega),ay] at ha hal h ⊢;subst h;have hcap:=hs.cap;have hdv:(0:Int)<=(s.mem.length:Int).tdiv 256/\(s.mem.length:Int).tdiv 256<4294967296:=by
    rw [Int.tdiv_eq_ediv_of_nonneg (by omega)];omega
   exact end1 hs (YH (by decide) hdv.2) ⟨hdv.1,by omega⟩
  simp only [if_neg c8] at i1 i2 ha hal h ⊢
  by_cases c9:op=64
  ·simp only [if_pos c9,zR (op:=op) (by omega)] at ha hal h ⊢;obtain ⟨p,rfl⟩:=list1 hal.symm;simp only [ay] at h;subst h;obtain ⟨g1,g2,g3,g4⟩:=hO.grow s.mem s.most p hmB hs.most.1 hs.most.2 (hu p (by simp));refine ⟨⟨g1,hO.growCap _ _ _ hs.cap,hs.most,hs.glu,hs.glob,hs.inp⟩,fun _=>⟨⟨YH (by decide) g4,trivial⟩,zm ⟨g3,by omega⟩⟩⟩
  simp only [if_neg c9] at i1 i2 ha hal h ⊢
  cases hao:Ss.accOf op with
  | none=>rw [hao] at i1; cases i1
  | some c =>
   simp only [hao] at i1 i2 ha hal h ⊢;have hk:=accOf_kind hao
   by_cases hst:c.store=true
   ·simp only [if_pos hst] at ha hal h ⊢;obtain ⟨p,q,rfl⟩:=list2 hal.symm;obtain ⟨g1,g2⟩:=hO.store s.mem op p n q hmB (hu p (by simp)) hxn (hu q (by simp));simp only [ay] at h;subst h
    by_cases hz:(O.store s.mem op p n q).2=0
    ·simp only [if_pos hz];exact ⟨⟨g1,by simp only [g2 hz]; exact hs.cap,hs.most,hs.glu,hs.glob,hs.inp⟩,fun _=>⟨trivial,zm u64_0⟩⟩
    ·simp only [if_neg hz];exact end0 hs
   ·simp only [if_neg hst] at ha hal h ⊢;obtain ⟨p,rfl⟩:=list1 hal.symm;simp only [ay] at h;subst h;obtain ⟨g1,g2⟩:=hO.load s.mem op p n hmB (hu p (by simp)) hxn;rw [hao] at g2;refine end1 hs ?_ g1;simp only [Ss.isKind,bq,aj] at hk;rcases hk with hk | hk
    ·rw [hk]; simp only [fits,g2 hk]; decide
    ·rw [hk]; rfl
theorem host_ty {e:Ss.Env} (he:e.right=true) {s:State} {n:Int} {t:Ss.Sig} {args:List Int} {r:Res} (ht:e.sigs[n.toNat]? = some t) (hs:StT e s) (h:hostF s n t.out args=some r):StT e r.2.1/\(r.2.2=0->fitP t.out r.1 /\ ∀ x∈r.1,U64 x):=by
 have hk : ∀ y∈t.out,Ss.isKind y=true:=by
  simp only [Ss.Env.right,af,aD] at he;have:=he.2 t (aA ht);simp only [Ss.Sig.right,Ss.kinds,af,aD] at this;exact this.2.2
 have key : ∀ (outs inp:List Int),(∀ y∈outs,Ss.isKind y=true)->fitP outs (hostL outs inp).1:=by
  intro outs
  induction outs with
  | nil=>intro inp _; exact jcM _
  | cons y outs ih =>
   intro inp hy
   cases inp with
   | nil=>exact trivial
   | cons x inp =>
    simp only [hostL];split
    ·refine ⟨?_,ih inp fun z hz=>hy z (by simp [hz])⟩;split
     ·rename_i h1;rw [h1];have hm:mask32 x<4294967296:=by
       have h2:((x % 2^Go.IntKind.u64.bits).toNat &&& 4294967295 % 2^Go.IntKind.u64.bits:Nat)<=4294967295:=bh Nat.and_le_right (by decide);rw [mask32,Go.Vw.wrap_u64' (by omega) (by omega)];omega
      simp only [fits,hm]; decide
     ·rename_i h1;have:=hy y (by simp);simp only [Ss.isKind,bq,aj] at this;rcases this with h2 | h2
      ·exact absurd h2 h1
      ·rw [h2]; rfl
    ·exact trivial
 obtain ⟨h1,h2,h3,h4⟩:=ZG t.out s.input hs.inp;rw [hostF] at h;split at h
 ·cases h
  exact ⟨⟨hs.mem,hs.cap,hs.most,hs.glu,hs.glob,h4⟩,fun _=>⟨key _ _ hk,h2⟩⟩
 ·cases h
theorem code_ty {O:Ops} (hO:OpsOk O) {e:Ss.Env} {f:Ss.Fn} {ds:List Ss.Def} {near:List Int} {i:Int} {call:Int->List Int->State->Option Res} (hc:CallTy e call) (hd:ds.length=f.types.length) :
  ∀ (l:List Ss.Ins) (k:Nat) (v:List Int) (s:State) (r:List Int × State × Int),Ss.checkCode e f ds near i k l=true->(∀ x∈l,x.Fits/\Ss.InTs f.types.length x.outs)->Ty f.types v->StT e s->codeF O call l v s=some r->StT e r.2.1/\(r.2.2=0->Ty f.types r.1)
 | [],k,v,s,r,_,_,hv,hs,h=>by
  cases h
  exact ⟨hs,fun _=>hv⟩
 | x::l,k,v,s,r,hk,hf,hv,hs,h=>by
  simp only [Ss.checkCode,af] at hk;obtain ⟨x1,x2⟩:=hf x (by simp);rw [codeF] at h;split at h
  ·cases h1:oneF O call x (valsI v x.args) s with
   | none=>rw [h1] at h; cases h
   | some q =>
    rw [h1] at h;obtain ⟨g1,g2⟩:=one_ty hO hc hk.1 x1 hd hv hs h1;obtain ⟨out,s',er⟩:=q;simp only at h g1 g2
    by_cases h0:er=0
    ·rw [if_neg (not_not_intro h0)] at h;obtain ⟨g3,g4⟩:=g2 h0;split at h
     ·exact code_ty hO hc hd l (k+1) _ s' r hk.2 (fun y hy=>hf y (by simp [hy])) (JI _ _ _ hv x2 g3 g4) g1 h
     ·cases h
    ·rw [if_pos h0] at h
     cases h
     exact ⟨g1,fun h=>absurd h h0⟩
  ·cases h
theorem term_ty {f:Ss.Fn} {ds:List Ss.Def} {near:List Int} {i:Int} {b:Ss.Block} {v:List Int} (h:Ss.termOk f ds near i b=true) (hd:ds.length=f.types.length) (hv:Ty f.types v) :
  (b.term.kind=4->fitsL f.sig.out (valsI v b.term.args)=true) /\ ∀ x∈b.term.to,fitsL (Ss.typesOf f.types (f.blocks.getD x.to.toNat default).params) (valsI v x.args)=true:=by
 simp only [Ss.termOk] at h;split at h
 ·rename_i le mo rs hh;simp only [Ss.termTail,af,aj] at h;obtain ⟨⟨⟨⟨t1,t2⟩,t3⟩,t4⟩,t5⟩:=h;refine ⟨fun hk => ?_,fun x hx => ?_⟩
  ·rw [hk] at hh;have:(0,0,f.sig.out)=(le,mo,rs):=Option.some.inj hh
   cases this
   exact KW hv hd t4
  ·have:=aD.1 t5 x hx;simp only [Ss.edgeOk,af] at this;exact KW hv hd this.2
 ·cases h
theorem jaU {e:Ss.Env} {f:Ss.Fn} (h:Ss.check e f=true):Ss.kinds 2048 f.types=true:=by
 obtain ⟨h1,_⟩:=Ss.check_spec h;simp only [Ss.checkHead,af] at h1;exact h1.1.1.2
theorem Wq {e:Ss.Env} {f:Ss.Fn} (h:Ss.check e f=true):f.sig.inn=Ss.typesOf f.types (f.blocks.getD 0 default).params:=by
 obtain ⟨h1,ds,h2,h3,h4⟩:=Ss.check_spec h;simp only [Ss.shapeOk,af,Bool.not_eq_true'] at h3;exact (aQ h3.1.2).symm
def BlocksTy (O:Ops) (P:Prog) (N d:Nat):Prop :=
 ∀ (f:Ss.Fn) (v:List Int) (at_:Nat) (args:List Int) (s:State) (r:Res),f∈P.fns->Ty f.types v->fitP (Ss.typesOf f.types (f.blocks.getD at_ default).params) args->(∀ y∈args,U64 y)->StT P.env s->blocksF O P N d f v at_ args s=some r->StT P.env r.2.1/\(r.2.2=0->fitP f.sig.out r.1 /\ ∀ x∈r.1,U64 x)
theorem call_ty {O:Ops} {P:Prog} (hP:RightP P) {N d:Nat} (h:BlocksTy O P N (d+1)):CallTy P.env (callG P (blocksF O P N) d):=by
 intro n args s t r h0 ht hf hu hs hr;rw [callG] at hr;split at hr
 ·rw [ht] at hr;exact host_ty hP.env ht hs hr
 ·rename_i hn;have hen:=hP.env;simp only [Ss.Env.right,af,aj] at hen;have hi0:=hen.1.1.1.1.1;split at hr
  ·cases hr
   exact ⟨hs,fun h=>absurd h (show ¬ (37:Int)=0 by decide)⟩
  ·split at hr
   ·rename_i g hg;obtain ⟨f1,f2,f3⟩:=hP.fns _ g hg;have e1:(P.env.imports+((n-P.env.imports).toNat:Int)).toNat=n.toNat:=by omega
    rw [e1,ht] at f3
    cases f3
    exact h g _ 0 args s r (aA hg) (ty_zero (jaU f2)) (by rw [<-Wq f2]; exact YI hf) hu hs hr
   ·cases hr
theorem jaX {O:Ops} (hO:OpsOk O) {P:Prog} (hP:RightP P) : ∀ N d,BlocksTy O P N d
 | 0,d=>fun f v at_ args s r _ _ _ _ _ h=>by cases h
 | N+1,d=>fun f v at_ args s r hf hv hfa hua hs h=>by
  obtain ⟨i,hi⟩:=aB.1 hf;obtain ⟨f1,f2,f3⟩:=hP.fns i f hi;obtain ⟨ds,hds,hok⟩:=fn_ok f1 f2;have hcall:=call_ty (O:=O) hP (jaX hO hP N (d+1));rw [blocksF] at h
  cases hb:f.blocks[at_]? with
  | none=>rw [hb] at h; cases h
  | some b =>
   rw [hb] at h;simp only at h;have hbo:=hok.blocks at_ b hb;have e0:f.blocks.getD at_ default=b:=by rw [ag,hb]; rfl
   rw [e0] at hfa;split at h
   ·have hv1:=JI v b.params args hv hbo.pars hfa hua
    cases hcd:codeF O (callG P (blocksF O P N) d) b.code (setAll v b.params args) s with
    | none=>rw [hcd] at h; cases h
    | some q =>
     obtain ⟨z1,z2⟩:=code_ty hO hcall hok.dsl b.code 0 _ s q hbo.code hbo.ins hv1 hs hcd;rw [hcd] at h;obtain ⟨v2,s2,er⟩:=q;simp only at h z1 z2
     by_cases he:er=0
     ·rw [if_neg (not_not_intro he)] at h;have z3:=z2 he;obtain ⟨t1,t2⟩:=term_ty hbo.term hok.dsl z3;split at h
      ·rename_i h4;split at h
       ·cases h
        exact ⟨z1,fun _=>⟨YI (t1 h4),vals_u64 z3.u _⟩⟩
       ·cases h
      ·split at h
       ·cases h
        exact ⟨z1,fun h=>absurd h (show ¬ (32:Int)=0 by decide)⟩
       ·split at h
        ·cases h
        ·rename_i k hpk;split at h
         ·cases h
         ·rename_i ed hed;split at h
          ·exact jaX hO hP N d f v2 ed.to.toNat _ s2 r hf z3 (YI (t2 ed (aA hed))) (vals_u64 z3.u _) z1 h
          ·cases h
     ·rw [if_pos he] at h
      cases h
      exact ⟨z1,fun h=>absurd h he⟩
   ·cases h
theorem total_small : ∀ n:Nat,n<256->(!Ss.total (n:Int) || !partialO (n:Int))=true:=by decide +kernel
theorem total_ops {op:Int} (h:Ss.total op=true):69<=op/\op<=250/\(Ss.numSig op).2.2=true/\partialO op=false:=by
 have hn:(Ss.numSig op).2.2=true:=by
  unfold Ss.total at h;unfold Ss.numSig
  cases hf:Ss.find op with
  | none=>rw [hf] at h; cases h
  | some g=>rfl
 obtain ⟨h1,h2⟩:=Yy hn;refine ⟨h1,h2,hn, ?_⟩;obtain ⟨n,rfl⟩:=Int.eq_ofNat_of_zero_le (show 0<=op by omega);have:=total_small n (by omega);rw [h] at this;simpa using this
def pureV (O:Ops) (x:Ss.Ins) (a:List Int):Int:=if x.op=256 then x.n else if x.op=27 then (if a.getD 2 0=0 then a.getD 1 0 else a.getD 0 0) else (O.eval x.op a).1
theorem pure_one {O:Ops} (hO:OpsOk O) {e:Ss.Env} {f:Ss.Fn} {ds:List Ss.Def} {near:List Int} {i k:Int} {x:Ss.Ins} {v:List Int} (hp:Ss.pure x.op=true) (hi:Ss.insOk e f ds near i k x=true) (hd:ds.length=f.types.length) (hv:Ty f.types v) :
  ∀ (call:Int->List Int->State->Option Res) (s:State),oneF O call x (valsI v x.args) s=some ([pureV O x (valsI v x.args)],s,0):=by
 have hu:=vals_u64 hv.u x.args;simp only [Ss.insOk,af,aj] at hi;obtain ⟨⟨⟨i1,i2⟩,i3⟩,i4⟩:=hi;have ha:=KW hv hd i4;clear i3 i4 i2;generalize valsI v x.args=a at *
 obtain ⟨op,n,xa,xo⟩:=x;simp only at ha i1 hu hp ⊢;generalize Ss.insOut f.types ⟨op,n,xa,xo⟩=out at *
 have hal:=fitsL_len ha;intro call s;unfold oneF pureV;simp only
 by_cases c1:op=256
 ·rw [if_pos c1,if_pos c1]
 rw [if_neg c1,if_neg c1];simp only [Ss.form,if_neg c1] at i1 ha hal
 by_cases c3:op=27
 ·have c2 : ¬ op=258:=by omega
  simp only [if_neg c2,if_pos c3] at ha hal ⊢;obtain ⟨p,q,w,rfl⟩:=list3 hal.symm;simp
 have ht:Ss.total op=true:=by
  simp only [Ss.pure,bq,aj] at hp;rcases hp with (hp | hp) | hp
  ·exact absurd hp c1
  ·exact absurd hp c3
  ·exact hp
 obtain ⟨h1,h2,h3,h4⟩:=total_ops ht;have c2 : ¬ op=258:=by omega
 have c4 : ¬ op=35:=by omega
 have c5 : ¬ op=36:=by omega
 have c6 : ¬ op=16:=by omega
 have c7 : ¬ op=257:=by omega
 have c8 : ¬ op=63:=by omega
 have c9 : ¬ op=64:=by omega
 have c45 : ¬ (op=35\/op=36):=by omega
 simp only [if_neg c2,if_neg c3,if_neg c6,if_neg c45,YG,h3,if_true] at ha hal;simp only [if_neg c2,if_neg c3,if_neg c4,if_neg c5,if_neg c6,if_neg c7,if_neg c8,if_neg c9,zR (op:=op) (by omega)];obtain ⟨k1,k2⟩:=jav h3 ha;have:=Yz op;rw [(hO.evalFit op a hu (by omega) k1).2 h4]
theorem stT_of {e:Ss.Env} {s:State} (hs:StFits s) (h:holds e.globals e.mem s=true):StT e s:=by
 simp only [holds,af,Bool.not_eq_true',Bool.or_eq_false_iff,decide_eq_false_iff_not] at h;obtain ⟨⟨⟨⟨h1,h2⟩,h3⟩,h4⟩,h5,h6⟩:=h;exact ⟨hs.mem,by omega,hs.most,hs.globals.2,h6,hs.input.2⟩
theorem hostL_le : ∀ (outs inp:List Int),(hostL outs inp).1.length<=outs.length
 | [],inp=>bf _
 | _::_,[]=>Nat.zero_le _
 | t::ts,x::inp=>by
  have:=hostL_le ts inp;simp only [hostL];split
  ·simp only [aC]; omega
  ·exact Nat.zero_le _
theorem jbW {O:Ops} {P:Prog} (hP:RightP P) : ∀ (N d:Nat) (f:Ss.Fn) (v:List Int) (at_:Nat) (args:List Int) (s:State) (r:Res),f∈P.fns->blocksF O P N d f v at_ args s=some r->r.1.length<=140737488355328
 | 0,d,f,v,at_,args,s,r,_,h=>by cases h
 | N+1,d,f,v,at_,args,s,r,hf,h=>by
  obtain ⟨i,hi⟩:=aB.1 hf;have f1:=(hP.fns i f hi).1;rw [blocksF] at h;split at h
  ·cases h
  ·rename_i b hb;have hbf:=f1.2.2.2 b (aA hb);split at h
   ·split at h
    ·cases h
    ·split at h
     ·cases h; exact Nat.zero_le _
     ·split at h
      ·split at h
       ·cases h
        rw [vals_len]; exact hbf.2.2.2.2.2.1
       ·cases h
      ·split at h
       ·cases h; exact Nat.zero_le _
       ·split at h
        ·cases h
        ·split at h
         ·cases h
         ·split at h
          ·exact jbW hP N d f _ _ _ _ r hf h
          ·cases h
   ·cases h
theorem call_len {O:Ops} {P:Prog} (hP:RightP P) {N d:Nat} {n:Int} {args:List Int} {s:State} {r:Res} (h:callF O P N d n args s=some r):r.1.length<=140737488355328:=by
 have h:callG P (blocksF O P N) d n args s=some r:=h;rw [callG] at h;split at h
 ·split at h
  ·rename_i t ht;rw [hostF] at h;split at h
   ·cases h
    have h1:=hostL_le t.out s.input;have h2:=(sig_right hP.env ht).2;simp only; omega
   ·cases h
  ·cases h
 ·split at h
  ·cases h; exact Nat.zero_le _
  ·split at h
   ·rename_i f hf;exact jbW hP N (d+1) f _ _ _ _ r (aA hf) h
   ·cases h
theorem run_fit {O:Ops} (hO:OpsOk O) {P:Prog} (hP:RightP P) {s:State} (hs:StFits s) {n:Int} {args:List Int} (ha:words args):StFits (runR O P s n args).2.1/\(runR O P s n args).1.length<=140737488355328:=by
 unfold runR;split
 ·rename_i hh;split
  ·rename_i hc;obtain ⟨c0,c1,c2⟩:=hc;obtain ⟨hg,hm,hi,hl⟩:=good_of hs hh;have hlt:n.toNat<P.env.sigs.length:=by omega
   have ht:=ac hlt;rw [ag,ht] at c2;obtain ⟨r,hr,hE⟩:=call_ends hO hP c0 ht (fitsL_len c2).symm ha.2 hg hl;rw [hr];refine ⟨hE.good.fit, ?_⟩;simp only;split
   ·exact call_len hP hr
   ·exact Nat.zero_le _
  ·exact ⟨hs,Nat.zero_le _⟩
 ·exact ⟨hs,Nat.zero_le _⟩
theorem run_same {O:Ops} (hO:OpsOk O) {P Q:Prog} (hP:RightP P) {s:State} (hs:StFits s) {n:Int} {args:List Int} (ha:words args) (he:Q.env=P.env)
  (h : ∀ t r,0<=n->P.env.sigs[n.toNat]? = some t->fitsL t.inn args=true->StT P.env s->callF O P 4800000 0 n args s=some r->callF O Q 4800000 0 n args s=some r):runR O Q s n args=runR O P s n args:=by
 unfold runR;rw [he];split
 ·rename_i hh;split
  ·rename_i hc;obtain ⟨c0,c1,c2⟩:=hc;obtain ⟨hg,hm,hi,hl⟩:=good_of hs hh;have hlt:n.toNat<P.env.sigs.length:=by omega
   have ht:=ac hlt;rw [ag,ht] at c2;obtain ⟨r,hr,hE⟩:=call_ends hO hP c0 ht (fitsL_len c2).symm ha.2 hg hl;rw [hr,h _ r c0 ht c2 (stT_of hs hh) hr]
  ·rfl
 ·rfl
end Ev
namespace Go.Vw
def encAsk (n:Int) (args:List Int) (s:Ev.State):V := .agg [vint n,vl vu args,vl vby s.mem,vint s.most,vl vu s.globals,vint s.fuel,vl vu s.input,vl vu s.log]
end Go.Vw
namespace Ev
def Agr (need:List Bool) (v w:List Int):Prop:=v.length=w.length /\ ∀ a:Nat,need.getD a false=true->v.getD a 0=w.getD a 0
theorem jch (v:List Int) (i a:Nat) (x:Int):(v.set i x).getD a 0=if i=a/\a<v.length then x else v.getD a 0:=by
 simp only [ag,List.getElem?_set]
 by_cases e:i=a
 ·subst e
  by_cases h:i<v.length<;>simp [h]
 ·simp [e]
theorem Agr.set {need:List Bool} {v w:List Int} (h:Agr need v w) (i:Nat) (x:Int):Agr need (v.set i x) (w.set i x):=by
 refine ⟨by simpa using h.1,fun a ha => ?_⟩;rw [jch,jch,h.1,h.2 a ha]
theorem Agr.drop {need:List Bool} {v w:List Int} (h:Agr need v w) {i:Nat} (x:Int) (hi : ¬ need.getD i false=true):Agr need (v.set i x) w:=by
 refine ⟨by simpa using h.1,fun a ha => ?_⟩;rw [jch,if_neg (fun e:i=a/\a<v.length=>hi (e.1▸ha))];exact h.2 a ha
theorem Agr.setAll {need:List Bool} : ∀ {v w:List Int} (is xs:List Int),Agr need v w->Agr need (setAll v is xs) (setAll w is xs)
 | v,w,[],_,h=>h
 | v,w,_::_,[],h=>h
 | v,w,i::is,x::xs,h=>by
  rw [Ev.setAll,Ev.setAll];exact Agr.setAll is xs (h.set _ _)
theorem Agr.vals {need:List Bool} {v w:List Int} (h:Agr need v w) {l:List Int} (hl : ∀ u∈l,Ss.on need u=true):valsI v l=valsI w l:=a7 fun u hu=>h.2 u.toNat (hl u hu)
theorem Agr.edge {need:List Bool} {v w:List Int} (h:Agr need v w) : ∀ (ps us:List Int) {x y:List Int},ps.length=us.length->(∀ q∈ps.zip us,Ss.on need q.1=true->Ss.on need q.2=true)->Agr need x y->Agr need (Ev.setAll x ps (valsI v us)) (Ev.setAll y (ps.filter (Ss.on need)) (valsI w (((ps.zip us).filter fun q=>Ss.on need q.1).map Prod.snd)))
 | [],us,x,y,_,_,k=>by simpa [Ev.setAll] using k
 | p::ps,[],x,y,hl,_,_=>by simp at hl
 | p::ps,a::us,x,y,hl,hq,k=>by
  have e1:valsI v (a::us)=v.getD a.toNat 0::valsI v us:=rfl;rw [e1,Ev.setAll]
  by_cases hp:Ss.on need p=true
  ·have e2:((p::ps).zip (a::us)).filter (fun q=>Ss.on need q.1)=(p,a)::(ps.zip us).filter fun q=>Ss.on need q.1:=by
    rw [List.zip_cons_cons]; exact List.filter_cons_of_pos (p:=fun q:Int × Int=>Ss.on need q.1) hp
   rw [e2,List.filter_cons_of_pos hp];have e3:valsI w (((p,a)::(ps.zip us).filter fun q=>Ss.on need q.1).map Prod.snd)=w.getD a.toNat 0::valsI w (((ps.zip us).filter fun q=>Ss.on need q.1).map Prod.snd):=rfl;rw [e3,Ev.setAll, <-h.2 a.toNat (hq (p,a) (by simp) hp)];exact Agr.edge h ps us (by simpa using hl) (fun q hm=>hq q (by simp [hm])) (k.set _ _)
  ·have e2:((p::ps).zip (a::us)).filter (fun q=>Ss.on need q.1)=(ps.zip us).filter fun q=>Ss.on need q.1:=by
    rw [List.zip_cons_cons]; exact List.filter_cons_of_neg (p:=fun q:Int × Int=>Ss.on need q.1) hp
   rw [e2,List.filter_cons_of_neg hp];exact Agr.edge h ps us (by simpa using hl) (fun q hm=>hq q (by simp [hm])) (k.drop _ hp)
def CallTS (e:Ss.Env) (call call':Int->List Int->State->Option Res):Prop :=
 ∀ (n:Int) (args:List Int) (s:State) (t:Ss.Sig) (r:Res),0<=n->e.sigs[n.toNat]? = some t->fitsL t.inn args=true->(∀ x∈args,U64 x)->StT e s->call n args s=some r->call' n args s=some r
theorem one_ts {O:Ops} {e:Ss.Env} {f:Ss.Fn} {ds:List Ss.Def} {near:List Int} {i k:Int} {x:Ss.Ins} {v:List Int} {s:State} {r:Res} {call call':Int->List Int->State->Option Res} (hc:CallTS e call call') (hi:Ss.insOk e f ds near i k x=true) (hx:x.Fits)
  (hd:ds.length=f.types.length) (hv:Ty f.types v) (hs:StT e s) (h:oneF O call x (valsI v x.args) s=some r):oneF O call' x (valsI v x.args) s=some r:=by
 by_cases c:x.op=16
 ·have hu:=vals_u64 hv.u x.args;have hxn:=hx.2.1;simp only [Ss.insOk,af,aj] at hi;obtain ⟨⟨⟨i1,i2⟩,i3⟩,i4⟩:=hi;have ha:=KW hv hd i4;have c1 : ¬ x.op=256:=by omega
  have c2 : ¬ x.op=258:=by omega
  have c3 : ¬ x.op=27:=by omega
  have c4 : ¬ x.op=35:=by omega
  have c5 : ¬ x.op=36:=by omega
  simp only [oneF,if_neg c1,if_neg c2,if_neg c3,if_neg c4,if_neg c5,if_pos c] at h ⊢;simp only [Ss.form,if_neg c1,if_neg c2,if_neg c3,if_pos c] at i1 ha;split at i1
  ·rename_i hn;rw [if_pos hn] at ha;have hx0:=hxn.1;have hn2:x.n.toNat<e.sigs.length:=by omega
   have hd:e.sigs.getD x.n.toNat default=e.sigs[x.n.toNat]:=by simp [ag,ac hn2]
   rw [hd] at ha;exact hc x.n _ s _ r hxn.1 (ac hn2) ha hu hs h
  ·cases i1
 ·simp only [oneF,if_neg c] at h ⊢;exact h
theorem jcU {O:Ops} (hO:OpsOk O) {e:Ss.Env} {f:Ss.Fn} {ds:List Ss.Def} {near:List Int} {i:Int} {need:List Bool} {call call':Int->List Int->State->Option Res} (hc:CallTS e call call') (hct:CallTy e call) (hd:ds.length=f.types.length) :
  ∀ (l:List Ss.Ins) (k:Nat) (v w:List Int) (s:State) (r:List Int × State × Int),Ss.checkCode e f ds near i k l=true->(∀ x∈l,x.Fits/\Ss.InTs f.types.length x.outs)->(∀ x∈l,Ss.dKeep need x=true -> ∀ u∈x.args,Ss.on need u=true)->(∀ x∈l,Ss.dKeep need x=false->Ss.pure x.op=true /\ ∃ o,x.outs=[o] /\ ¬ Ss.on need o=true) ->
   Ty f.types v->StT e s->Agr need v w->codeF O call l v s=some r -> ∃ w',codeF O call' (l.filter (Ss.dKeep need)) w s=some (w',r.2.1,r.2.2)/\(r.2.2=0->Agr need r.1 w')
 | [],k,v,w,s,r,_,_,_,_,_,_,ha,h=>by
  cases h
  exact ⟨w,rfl,fun _=>ha⟩
 | x::l,k,v,w,s,r,hk,hf,hkp,hdr,hv,hs,ha,h=>by
  simp only [Ss.checkCode,af] at hk;obtain ⟨x1,x2⟩:=hf x (by simp);rw [codeF] at h;split at h
  ·rename_i hin
   cases h1:oneF O call x (valsI v x.args) s with
   | none=>rw [h1] at h; cases h
   | some q =>
    rw [h1] at h;obtain ⟨g1,g2⟩:=one_ty hO hct hk.1 x1 hd hv hs h1;have h2:=one_ts (O:=O) hc hk.1 x1 hd hv hs h1
    cases hkx:Ss.dKeep need x with
    | true =>
     rw [List.filter_cons_of_pos hkx];have hva:=ha.vals (hkp x (by simp) hkx);rw [hva] at h2;rw [ha.1] at hin;rw [codeF,if_pos hin,h2];obtain ⟨out,s',er⟩:=q;simp only at h g1 g2 ⊢
     by_cases h0:er=0
     ·rw [if_neg (not_not_intro h0)] at h ⊢;obtain ⟨g3,g4⟩:=g2 h0;split at h
      ·rename_i hio;rw [if_pos (show inR w.length x.outs=true/\x.outs.length<=out.length by rw [<-ha.1]; exact hio)];exact jcU hO hc hct hd l (k+1) _ _ s' r hk.2 (fun y hy=>hf y (by simp [hy])) (fun y hy=>hkp y (by simp [hy])) (fun y hy=>hdr y (by simp [hy])) (JI _ _ _ hv x2 g3 g4) g1 (ha.setAll _ _) h
      ·cases h
     ·rw [if_pos h0] at h ⊢
      cases h
      exact ⟨[],rfl,fun h=>absurd h h0⟩
    | false =>
     rw [List.filter_cons_of_neg (by rw [hkx]; decide)];obtain ⟨p1,o,p2,p3⟩:=hdr x (by simp) hkx;rw [pure_one hO p1 hk.1 hd hv call s] at h1
     cases h1
     simp only [ne_eq,not_true_eq_false,if_false] at h;obtain ⟨g3,g4⟩:=g2 rfl;split at h
     ·have hty:=JI _ _ _ hv x2 g3 g4;rw [p2] at h hty;exact jcU hO hc hct hd l (k+1) _ w s r hk.2 (fun y hy=>hf y (by simp [hy])) (fun y hy=>hkp y (by simp [hy])) (fun y hy=>hdr y (by simp [hy])) hty g1 (ha.drop _ p3) h
     ·cases h
  ·cases h
def dceP (P:Prog):Prog:=⟨P.env,P.fns.map Ss.dceF⟩
theorem dceP_right {P:Prog} (hP:RightP P):RightP (dceP P):=by
 refine ⟨hP.env,by simpa [dceP] using hP.len,fun i f hf => ?_⟩;simp only [dceP,a8,av] at hf;obtain ⟨g,hg,rfl⟩:=hf;obtain ⟨h1,h2,h3⟩:=hP.fns i g hg;exact ⟨Ss.dceF_fits h1,Ss.dce_check h2,h3⟩
theorem inR_sub {n:Nat} {l m:List Int} (h:inR n m=true) (hs : ∀ a∈l,a∈m):inR n l=true:=by
 simp only [inR,aD] at h ⊢;exact fun a ha=>h a (hs a ha)
theorem pick_agr {need:List Bool} {v w:List Int} {t:Ss.Term} {to:List Ss.Edge} {us:List Int} (h:Agr need v w) (hb:Ss.branches t=true->Ss.on need t.arg=true) (hl:to.length=t.to.length):pickF w ⟨t.kind,t.arg,to,us⟩=pickF v t:=by
 unfold pickF;simp only [hl, <-h.1]
 by_cases k2:t.kind=2
 ·rw [h.2 t.arg.toNat (hb (by simp [Ss.branches,k2]))]
 ·by_cases k3:t.kind=3
  ·rw [h.2 t.arg.toNat (hb (by simp [Ss.branches,k3]))]
  ·rw [if_neg k2,if_neg k3,if_neg k2,if_neg k3]
def DceSim (O:Ops) (P:Prog) (N d:Nat):Prop :=
 ∀ (f:Ss.Fn) (v w:List Int) (at_:Nat) (args args':List Int) (s:State) (r:Res),f∈P.fns->Ty f.types v->Agr (Ss.dNeed f) v w->fitP (Ss.typesOf f.types (f.blocks.getD at_ default).params) args->(∀ y∈args,U64 y)->StT P.env s ->
  Agr (Ss.dNeed f) (setAll v (f.blocks.getD at_ default).params args) (setAll w ((f.blocks.getD at_ default).params.filter (Ss.on (Ss.dNeed f))) args')->((f.blocks.getD at_ default).params.filter (Ss.on (Ss.dNeed f))).length<=args'.length ->
  blocksF O P N d f v at_ args s=some r->blocksF O (dceP P) N d (Ss.dceF f) w at_ args' s=some r
theorem dce_calls {O:Ops} {P:Prog} (hP:RightP P) {N d:Nat} (h:DceSim O P N (d+1)):CallTS P.env (callG P (blocksF O P N) d) (callG (dceP P) (blocksF O (dceP P) N) d):=by
 intro n args s t r h0 ht hf hu hs hr;rw [callG] at hr ⊢;split at hr
 ·rename_i hn;rw [if_pos (show n<(dceP P).env.imports from hn)];exact hr
 ·rename_i hn;rw [if_neg (show ¬ n<(dceP P).env.imports from hn)];have hen:=hP.env;simp only [Ss.Env.right,af,aj] at hen;have hi0:=hen.1.1.1.1.1;split at hr
  ·rename_i hd;rw [if_pos hd]; exact hr
  ·rename_i hd;rw [if_neg hd];split at hr
   ·rename_i g hg;obtain ⟨f1,f2,f3⟩:=hP.fns _ g hg;have e1:(P.env.imports+((n-P.env.imports).toNat:Int)).toNat=n.toNat:=by omega
    rw [e1,ht] at f3
    cases f3
    have e:(dceP P).fns[(n-(dceP P).env.imports).toNat]? = some (Ss.dceF g):=by
     show (P.fns.map Ss.dceF)[(n-P.env.imports).toNat]? = _;rw [a8,hg]; rfl
    rw [e];have hdk:=Ss.check_dok f2;have hft:(g.blocks.getD 0 default).params.filter (Ss.on (Ss.dNeed g))=(g.blocks.getD 0 default).params:=List.filter_eq_self.2 fun v hv=>Ss.dNeed_root hdk (by simp only [Ss.roots,aG]; exact .inl hv)
    have hlen:(g.blocks.getD 0 default).params.length<=args.length:=by
     have h1:=fitsL_len hf;rw [Wq f2] at h1;simp only [Ss.typesOf,aI] at h1;omega
    have hrf:Agr (Ss.dNeed g) (List.replicate g.types.length 0) (List.replicate g.types.length 0):=⟨rfl,fun _ _=>rfl⟩
    exact h g _ (List.replicate g.types.length 0) 0 args args s r (aA hg) (ty_zero (jaU f2)) hrf (by rw [<-Wq f2]; exact YI hf) hu hs (by rw [hft]; exact hrf.setAll _ _) (by rw [hft]; exact hlen) hr
   ·cases hr
theorem YK {O:Ops} (hO:OpsOk O) {P:Prog} (hP:RightP P) : ∀ N d,DceSim O P N d
 | 0,d=>fun f v w at_ args args' s r _ _ _ _ _ _ _ _ h=>by cases h
 | N+1,d=>fun f v w at_ args args' s r hf hv hag hfa hua hs hpa hpl h=>by
  obtain ⟨i,hi⟩:=aB.1 hf;obtain ⟨f1,f2,f3⟩:=hP.fns i f hi;obtain ⟨ds,hds,hok⟩:=fn_ok f1 f2;have hdk:=Ss.check_dok f2;have hcall:=dce_calls (O:=O) hP (YK hO hP N (d+1));have hct:=call_ty (O:=O) hP (jaX hO hP N (d+1));rw [blocksF] at h ⊢
  cases hb:f.blocks[at_]? with
  | none=>rw [hb] at h; cases h
  | some b =>
   rw [hb] at h;simp only at h;have hbm:=aA hb;have hbo:=hok.blocks at_ b hb;have e0:f.blocks.getD at_ default=b:=by rw [ag,hb]; rfl
   have e1:(Ss.dceF f).blocks[at_]? = some ⟨b.params.filter (Ss.on (Ss.dNeed f)),b.code.filter (Ss.dKeep (Ss.dNeed f)),⟨b.term.kind,b.term.arg,b.term.to.map (Ss.dEdge (Ss.dNeed f) f.blocks),b.term.args⟩⟩:=by
    show (f.blocks.map (Ss.dBlock (Ss.dNeed f) f.blocks))[at_]? = _;rw [a8,hb]; rfl
   rw [e0] at hfa hpa hpl;rw [e1];obtain ⟨need,hneed⟩ : ∃ need,Ss.dNeed f=need:=⟨_,rfl⟩
   have hroot : ∀ u∈Ss.rootsB b,Ss.on need u=true:=fun u hu=>by
    rw [<-hneed];exact Ss.dNeed_root hdk (by simp only [Ss.roots,aG,bj]; exact .inr ⟨b,hbm,hu⟩)
   have hask : ∀ a u:Int,Ss.on need a=true->Ss.Asks f a u->Ss.on need u=true:=fun a u ha hau=>by
    rw [<-hneed] at ha ⊢;exact Ss.dNeed_asks hdk ha hau
   rw [hneed] at hag hpa hpl ⊢;simp only;split at h
   ·rename_i hpar;have hpr:inR w.length (b.params.filter (Ss.on need))=true:=inR_sub (hag.1▸hpar.1) fun a ha=>(List.mem_filter.1 ha).1
    rw [if_pos (And.intro hpr hpl)];have hv1:=JI v b.params args hv hbo.pars hfa hua
    cases hcd:codeF O (callG P (blocksF O P N) d) b.code (setAll v b.params args) s with
    | none=>rw [hcd] at h; cases h
    | some q =>
     have hkp : ∀ x∈b.code,Ss.dKeep need x=true -> ∀ u∈x.args,Ss.on need u=true:=fun x hx hk u hu=>by
      by_cases hp:Ss.pure x.op=true
      ·obtain ⟨o,ho⟩:=hdk.one b hbm x hx hp;have hon:Ss.on need o=true:=by
        rw [Ss.dKeep,hp,ho] at hk;simpa using hk
       exact hask o u hon (.inl ⟨b,hbm,x,hx,hp,ho,hu⟩)
      ·refine hroot u ?_;simp only [Ss.rootsB,aG,bj];exact .inl ⟨x,hx,by rw [if_neg hp]; exact List.mem_append_left _ hu⟩
     have hdr : ∀ x∈b.code,Ss.dKeep need x=false->Ss.pure x.op=true /\ ∃ o,x.outs=[o] /\ ¬ Ss.on need o=true:=fun x hx hk=>by
      have hp:Ss.pure x.op=true:=by
       cases hpp:Ss.pure x.op with
       | true=>rfl
       | false=>rw [Ss.dKeep,hpp] at hk; simp at hk
      obtain ⟨o,ho⟩:=hdk.one b hbm x hx hp;refine ⟨hp,o,ho,fun hon => ?_⟩;rw [Ss.dKeep,hp,ho] at hk;simp only [List.getD_cons_zero,hon] at hk
      cases hk
     obtain ⟨z1,z2⟩:=code_ty hO hct hok.dsl b.code 0 _ s q hbo.code hbo.ins hv1 hs hcd;obtain ⟨w2,y1,y2⟩:=jcU hO hcall hct hok.dsl b.code 0 _ _ s q hbo.code hbo.ins hkp hdr hv1 hs hpa hcd;rw [hcd] at h;rw [y1];obtain ⟨v2,s2,er⟩:=q;simp only at h z1 z2 y2 ⊢
     by_cases he:er=0
     ·rw [if_neg (not_not_intro he)] at h ⊢;have z3:=z2 he;have y3:=y2 he;obtain ⟨t1,t2⟩:=term_ty hbo.term hok.dsl z3;have harg : ∀ u∈b.term.args,Ss.on need u=true:=fun u hu=>hroot u (by simp only [Ss.rootsB,aG]; exact .inr (.inl hu))
      have hbr:Ss.branches b.term=true->Ss.on need b.term.arg=true:=fun hk=>hroot _ (by simp [Ss.rootsB,hk])
      rw [<-y3.1];split at h
      ·rename_i h4;rw [if_pos h4];split at h
       ·rename_i h5;rw [if_pos h5, <-y3.vals harg];exact h
       ·cases h
      ·rename_i h4;rw [if_neg h4];split at h
       ·rename_i h5;rw [if_pos h5]; exact h
       ·rename_i h5;rw [if_neg h5,pick_agr y3 hbr (by rw [aI])];split at h
        ·cases h
        ·rename_i k hpk;split at h
         ·cases h
         ·rename_i ed hed;simp only [a8,hed,bl];have hedm:=aA hed;split at h
          ·rename_i h6;obtain ⟨k0,k1,k2⟩:=hdk.etos b hbm ed hedm;rw [if_pos (show inR v2.length (Ss.dEdge need f.blocks ed).args=true/\0<=(Ss.dEdge need f.blocks ed).to from ⟨inR_sub h6.1 fun a ha=>Ss.dEdge_mem ha,k0⟩)];have hag2:Agr need (setAll v2 (f.blocks.getD ed.to.toNat default).params (valsI v2 ed.args)) (setAll w2 ((f.blocks.getD ed.to.toNat default).params.filter (Ss.on need)) (valsI w2 (Ss.dEdge need f.blocks ed).args)) :=
            y3.edge _ _ k2.symm (fun q hq hon=>hask q.1 q.2 hon (.inr ⟨b,hbm,ed,hedm,hq⟩)) y3
           have hln:((f.blocks.getD ed.to.toNat default).params.filter (Ss.on need)).length<=(valsI w2 (Ss.dEdge need f.blocks ed).args).length:=by
            rw [vals_len,Ss.dEdge,Ss.keep_len (Ss.on need) _ _ k2.symm];exact bf _
           subst hneed;exact YK hO hP N d f v2 w2 ed.to.toNat _ _ s2 r hf z3 y3 (YI (t2 ed hedm)) (vals_u64 z3.u _) z1 hag2 hln h
          ·cases h
     ·rw [if_pos he] at h ⊢;exact h
   ·cases h
theorem dce_means {O:Ops} (hO:OpsOk O) {P:Prog} (hP:RightP P) {N:Nat} {n:Int} {args:List Int} {s:State} {t:Ss.Sig} {r:Res} (h0:0<=n) (ht:P.env.sigs[n.toNat]? = some t) (hf:fitsL t.inn args=true) (hu : ∀ x∈args,U64 x) (hs:StT P.env s) (h:callF O P N 0 n args s=some r):callF O (dceP P) N 0 n args s=some r :=
 dce_calls hP (YK hO hP N 1) n args s t r h0 ht hf hu hs h
end Ev
namespace Go.Vw
open Go.Proofs Go.RowKit
attribute [-simp] List.map_set
theorem NSame_v (s:Ev.State) (h2:s.globals.length<2^62) (h3:s.input.length<2^62) (h4:s.log.length<2^62):bS 18 [qf s,qf s] (.bool true):=by
 intro S;obtain ⟨mem,most,glb,fuel,inp,log⟩:=s;simp only at h2 h3 h4;have e1:qf ⟨mem,most,glb,fuel,inp,log⟩ = .agg [vl vby mem,vint most,vl vu glb,vint fuel,vl vu inp,vl vu log]:=rfl;rw [e1];have a1:=Nbytes_v mem;have a2:=ZK glb glb h2;have a3:=ZK inp inp h3;have a4:=ZK log log h4;rw [decide_eq_true rfl] at a2 a3 a4;refine QB (c:=jc Tryz.f18) Tryz.func18 Tryz.ntmps18 fun hwf=>?_
 refine QY ?_;refine QH 2 0 ?_;refine QH 3 1 ?_;refine QP ?_;refine QL (a1) ?_;refine QZ ?_;refine QL (a2) ?_;refine QZ ?_;refine QL (a3) ?_;refine QZ ?_;refine QL (a4) ?_;refine bQ ?_
 exact ja (X := .bool true) hwf (by simp) rfl
theorem NWords_t (a:List Int) (h:a.length<2^62):bS 17 [vl vu a,vl vu a] (.bool true):=by
 have:=ZK a a h
 rwa [decide_eq_true rfl] at this
end Go.Vw
