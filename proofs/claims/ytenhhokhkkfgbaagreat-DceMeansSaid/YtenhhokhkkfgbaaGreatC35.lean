import Derived.Test.YtenhhokhkkfgbaaGreatC34
/- Part of the proof. -/
set_option linter.unusedVariables false
set_option linter.unusedSimpArgs false
set_option maxRecDepth 10000
set_option maxHeartbeats 4000000
namespace Ss
open Classical
noncomputable def jam (M:List (List Nat)) (i:Nat):Nat:=((List.range M.length).filter fun j=>decide (Walk M i j)).length
theorem jaM {p q:Nat->Bool} {k:Nat} : ∀ {l:List Nat},(∀ x∈l,p x=true->q x=true)->k∈l->p k=false->q k=true->(l.filter p).length<(l.filter q).length
 | [],_,h,_,_=>by cases h
 | x::l,h,hk,h1,h2=>by
  have hle:(l.filter p).length<=(l.filter q).length:=by
   clear hk
   induction l with
   | nil=>simp
   | cons y l ih =>
    have h3 : ∀ x∈l,p x=true->q x=true:=fun z hz=>h z (by simp [hz])
    have:=ih fun z hz=>by
     rcases aL.1 hz with rfl | hz
     ·exact h z (by simp)
     ·exact h3 z hz
    have hy:=h y (by simp);simp only [List.filter_cons];split<;>split<;>simp_all<;>omega
  rcases aL.1 hk with rfl | hk
  ·simp only [List.filter_cons,h1,h2,aF,if_false,if_true,aC]; omega
  ·have:=jaM (l:=l) (fun z hz=>h z (by simp [hz])) hk h1 h2;have hy:=h x (by simp);simp only [List.filter_cons];split<;>split<;>simp_all<;>omega
theorem walk_in {M:List (List Nat)} {i j:Nat} (h:Walk M i j):i<M.length:=by
 obtain ⟨b,hb,_⟩:=h.first;refine Nat.lt_of_not_le fun hl => ?_
 simp only [ag,aJ hl,Option.getD_none] at hb
 cases hb
theorem reachN_lt {M:List (List Nat)} (hin : ∀ r∈M, ∀ k∈r,k<M.length) (he : ∀ i<M.length,Ends M i) {i k:Nat} (hk:k∈M.getD i []):jam M k<jam M i:=by
 have hi:i<M.length:=walk_in (.one hk);have hkl:k<M.length:=by
  simp only [ag,ac hi,aS] at hk;exact hin _ (ah hi) k hk
 refine jaM (k:=k) (fun j _ h => ?_) (List.mem_range.2 hkl) (decide_eq_false ((he k hkl).no_ring)) (decide_eq_true (.one hk));exact decide_eq_true ((aQ h).cons hk)
theorem reachN_le {M:List (List Nat)} (he : ∀ i<M.length,Ends M i) {i:Nat} (h0:0<M.length):jam M i<M.length:=by
 by_cases hi:i<M.length
 ·have h1:((List.range M.length).filter fun _=>true).length=M.length:=by rw [List.filter_eq_self.2 (fun _ _=>rfl),List.length_range]
  unfold jam;refine Nat.lt_of_lt_of_eq (jaM (q:=fun _=>true) (k:=i) (fun _ _ _=>rfl) (List.mem_range.2 hi) (decide_eq_false ((he i hi).no_ring)) rfl) h1
 ·have h1:jam M i=0:=by
   unfold jam;rw [List.length_eq_zero_iff,List.filter_eq_nil_iff];intro j _ h;exact hi (walk_in (aQ h))
  omega
theorem rank_ex {e:Env} {f:Fn} (h:check e f=true) : ∃ rk:Nat->Nat,(∀ i,rk i<256) /\ ∀ i b,f.blocks[i]? = some b->tickB b=false -> ∀ x∈b.term.to,rk x.to.toNat<rk i:=by
 obtain ⟨h1,ds,h2,h3,h4⟩:=check_spec h;simp only [shapeOk,af,Bool.not_eq_true'] at h3;obtain ⟨⟨⟨⟨hr,h5⟩,h6⟩,h7⟩,h8⟩:=h3;have hok:=Go.Vw.G.right_ok hr;have hgl:(Go.Vw.G.nats (succs f.blocks)).length=f.blocks.length:=by simp [Go.Vw.G.nats,succs]
 rw [jby (bs:=f.blocks) hgl (fun r hr k hk=>hok.elt r hr k hk)] at h6;have hml:=msk_len (bs:=f.blocks) hgl;have he : ∀ i<(msk f.blocks (Go.Vw.G.nats (succs f.blocks))).length,Ends (msk f.blocks (Go.Vw.G.nats (succs f.blocks))) i:=by
  have:=of_decide_eq_false h6;exact Classical.byContradiction this
 have hin : ∀ r∈msk f.blocks (Go.Vw.G.nats (succs f.blocks)), ∀ k∈r,k<(msk f.blocks (Go.Vw.G.nats (succs f.blocks))).length:=by
  intro r hr k hk;rw [hml, <-hgl];obtain ⟨i,hi,rfl⟩:=a9 hr;simp only [msk,List.getElem_zipWith] at hk;split at hk
  ·cases hk
  ·exact hok.elt _ (ah _) k hk
 have hb:0<f.blocks.length/\f.blocks.length<=256:=by
  simp only [Go.Vw.G.right,af,aj,succs,aI] at hr;omega
 refine ⟨jam (msk f.blocks (Go.Vw.G.nats (succs f.blocks))),fun i => ?_,fun i b hb ht x hx=>reachN_lt hin he ?_⟩
 ·have:=reachN_le he (i:=i) (by omega);omega
 ·have:(msk f.blocks (Go.Vw.G.nats (succs f.blocks)))[i]? = some ((rowOf b).map Int.toNat):=by
   simp [msk,List.getElem?_zipWith,Go.Vw.G.nats,succs,hb,ht]
  rw [ag,this,aS];exact bk.2 ⟨x.to,bk.2 ⟨x,hx,rfl⟩,rfl⟩
end Ss
namespace Ev
def pot (s:State):Nat:=s.log.length+10000000*s.fuel.toNat
structure Good (e:Ss.Env) (s:State):Prop where
 fit:StFits s
 fuel:0<=s.fuel/\s.fuel<=1024
 glob:s.globals.length=e.globals.length
structure EndOk (e:Ss.Env) (s:State) (k add sl:Nat) (r:Res):Prop where
 good:Good e r.2.1
 fuel:r.2.1.fuel<=s.fuel
 out:r.2.2=0->k<=r.1.length/\(∀ x∈r.1,U64 x)/\pot r.2.1<=pot s+add
 any:pot r.2.1<=pot s+sl
def CallEx (e:Ss.Env) (call:Int->List Int->State->Option Res) (sl:Nat):Prop :=
 ∀ (n:Int) (args:List Int) (s:State) (t:Ss.Sig),0<=n->e.sigs[n.toNat]? = some t->args.length=t.inn.length->(∀ x∈args,U64 x)->Good e s->pot s+9+sl<=17592186040000 ->
  ∃ r,call n args s=some r/\EndOk e s t.out.length 9 (9+sl) r
theorem u64_0:U64 0:=⟨by decide,by decide⟩
theorem vals_len (v l:List Int):(valsI v l).length=l.length:=by simp [valsI]
theorem vals_u64 {v:List Int} (h : ∀ x∈v,U64 x) (l:List Int) : ∀ x∈valsI v l,U64 x:=by
 intro x hx;obtain ⟨i,_,rfl⟩:=bk.1 hx
 by_cases h1:i.toNat<v.length
 ·simp only [ag,ac h1,aS];exact h _ (ah h1)
 ·simp only [ag,aJ (Nat.le_of_not_lt h1),Option.getD_none];exact u64_0
theorem KK : ∀ (v is xs:List Int),(setAll v is xs).length=v.length
 | v,[],_=>rfl
 | v,_::_,[]=>rfl
 | v,i::is,x::xs=>by rw [setAll,KK]; simp
theorem setAll_u64 : ∀ (v is xs:List Int),(∀ x∈v,U64 x)->(∀ x∈xs,U64 x) -> ∀ x∈setAll v is xs,U64 x
 | v,[],_,h,_=>h
 | v,_::_,[],h,_=>h
 | v,i::is,x::xs,h,k=>by
  rw [setAll];refine setAll_u64 _ _ _ (fun y hy => ?_) fun y hy=>k y (by simp [hy])
  rcases List.mem_or_eq_of_mem_set hy with h1 | rfl
  ·exact h y h1
  ·exact k y (by simp)
theorem ZG : ∀ (outs inp:List Int),(∀ x∈inp,U64 x)->((hostL outs inp).2.2=0->(hostL outs inp).1.length=outs.length)/\(∀ x∈(hostL outs inp).1,U64 x)/\(hostL outs inp).2.1.length<=inp.length /\ ∀ x∈(hostL outs inp).2.1,U64 x
 | [],inp,h=>⟨fun _=>rfl,by simp [hostL],by simp [hostL],h⟩
 | _::_,[],h=>⟨fun h=>absurd h (show ¬ (39:Int)=0 by decide),by simp [hostL],by simp [hostL],by simp [hostL]⟩
 | t::ts,x::inp,h=>by
  obtain ⟨h1,h2,h3,h4⟩:=ZG ts inp fun y hy=>h y (by simp [hy])
  simp only [hostL];split
  ·rename_i hz;refine ⟨fun _=>by simp [h1 hz],fun y hy => ?_,by simp; omega,h4⟩;rcases aL.1 hy with rfl | hy
   ·split
    ·exact Go.Vw.wrap_u64_in _
    ·exact h x (by simp)
   ·exact h2 y hy
  ·rename_i hz;exact ⟨fun h=>absurd h hz,by simp,by simp; omega,h4⟩
theorem host_ex {e:Ss.Env} {s:State} {n:Int} {outs args:List Int} (hg:Good e s) (hn:0<=n/\n<18446744073709551616) (ha : ∀ x∈args,U64 x) (hl:args.length<=8) (hp:pot s+9<=17592186040000) :
  ∃ r,hostF s n outs args=some r/\EndOk e s outs.length 9 9 r:=by
 obtain ⟨h1,h2,h3,h4⟩:=ZG outs s.input hg.fit.input.2;have hpl:s.log.length<=pot s:=by simp only [pot]; omega
 have hin:=hg.fit.input.1;refine ⟨_,by rw [hostF,if_pos (by omega)],⟨⟨hg.fit.mem,hg.fit.most,hg.fit.globals,hg.fit.fuel,⟨by simp only; omega,h4⟩,⟨?_,fun x hx => ?_⟩⟩,hg.fuel,hg.glob⟩,Int.le_refl _,fun hz=>⟨Nat.le_of_eq (h1 hz).symm,h2, ?_⟩, ?_⟩
 ·simp; omega
 ·rcases aG.1 hx with hx | hx
  ·exact hg.fit.log.2 x hx
  ·rcases aL.1 hx with rfl | hx
   ·exact hn
   ·exact ha x hx
 ·simp [pot]; omega
 ·simp [pot]; omega
theorem Yy {op:Int} (h:(Ss.numSig op).2.2=true):69<=op/\op<=250:=by
 simp only [Ss.numSig] at h;split at h
 ·rename_i g hg;obtain ⟨h1,h2⟩:=Ss.findIn_mem hg;have h3 : ∀ g∈Ss.groups,69<=g.first/\g.first+g.many<=250:=by decide
  have:=h3 g h1;simp only [Ss.Grp.has,af,aj] at h2;omega
 ·cases h
theorem jbO {α:Type} {n:Int} : ∀ {l:List (Int × α)},(∀ p∈l,p.1≠n)->Ss.findK n l=none
 | [],_=>rfl
 | (k,v)::r,h=>by
  rw [Ss.findK,if_neg (fun e=>h (k,v) (by simp) e.symm)];exact jbO fun p hp=>h p (by simp [hp])
theorem zR {op:Int} (h:63<=op):Ss.accOf op=none:=by
 refine jbO fun p hp e => ?_
 have : ∀ p∈Ss.accL,p.1<=62:=by decide
 have:=this p hp;omega
theorem list1 {l:List Int} (h:l.length=1) : ∃ a,l=[a]:=List.length_eq_one_iff.1 h
theorem list2 {l:List Int} (h:l.length=2) : ∃ a b,l=[a,b]:=by
 match l,h with
 | [a,b],_=>exact ⟨a,b,rfl⟩
theorem list3 {l:List Int} (h:l.length=3) : ∃ a b c,l=[a,b,c]:=by
 match l,h with
 | [a,b,c],_=>exact ⟨a,b,c,rfl⟩
theorem Jd {e:Ss.Env} {s:State} {out:List Int} {k sl:Nat} {er:Int} (hg:Good e s) (hu : ∀ x∈out,U64 x) (hk:k<=out.length):EndOk e s k 9 (9+sl) (out,s,er) :=
 ⟨hg,Int.le_refl _,fun _=>⟨hk,hu,by simp only; omega⟩,by simp only; omega⟩
theorem end_mem {e:Ss.Env} {s:State} {out m:List Int} {k sl:Nat} {er:Int} (hg:Good e s) (hm:Go.Vw.byteL m) (hu : ∀ x∈out,U64 x) (hk:k<=out.length):EndOk e s k 9 (9+sl) (out,{ s with mem:=m },er) :=
 ⟨⟨⟨hm,hg.fit.most,hg.fit.globals,hg.fit.fuel,hg.fit.input,hg.fit.log⟩,hg.fuel,hg.glob⟩,Int.le_refl _,fun _=>⟨hk,hu,by simp only [pot]; omega⟩,by simp only [pot]; omega⟩
theorem zm {y:Int} (h:U64 y) : ∀ x∈[y],U64 x:=fun x hx=>by
 rcases aL.1 hx with rfl | hx
 ·exact h
 ·cases hx
theorem YG (e:Ss.Env) (op:Int):Ss.formNum e op=if (Ss.numSig op).2.2=true then ⟨(Ss.numSig op).1,[(Ss.numSig op).2.1],0,true⟩ else if e.mem then Ss.formMem op else ⟨[],[],0,false⟩:=by
 unfold Ss.formNum;rcases hh:Ss.numSig op with ⟨l,t,b⟩
 cases b<;>simp
theorem Yz (op:Int):(Ss.numSig op).1.length<=2:=by
 unfold Ss.numSig;split
 ·simp only [Ss.Grp.ins]; split<;>simp
 ·simp
theorem one_ex {O:Ops} (hO:OpsOk O) {e:Ss.Env} {f:Ss.Fn} {ds:List Ss.Def} {near:List Int} {i k:Int} {x:Ss.Ins} {v:List Int} {s:State} {call:Int->List Int->State->Option Res} {sl:Nat} (hc:CallEx e call sl) (hi:Ss.insOk e f ds near i k x=true) (hx:x.Fits)
  (he:e.right=true) (hg:Good e s) (hv : ∀ y∈v,U64 y) (hp:pot s+9+sl<=17592186040000) :
  ∃ r,oneF O call x (valsI v x.args) s=some r/\EndOk e s x.outs.length 9 (9+sl) r/\(x.op=258->r.2.2=0->pot r.2.1+10000000<=pot s/\r.2.1.fuel<s.fuel):=by
 have hu:=vals_u64 hv x.args;have hl:=vals_len v x.args;have hxn:=hx.2.1;simp only [Ss.insOk,af,aj] at hi;obtain ⟨⟨⟨i1,i2⟩,i3⟩,i4⟩:=hi;have ho:x.outs.length=(Ss.form e x.op x.n (Ss.insOut f.types x)).outs.length:=by rw [<-i3]; simp [Ss.typesOf]
 have ha:(valsI v x.args).length=(Ss.form e x.op x.n (Ss.insOut f.types x)).inn.length:=by
  rw [hl];refine Classical.byContradiction fun hne => ?_
  rw [Ss.asks,Go.Vw.eqF_len hne] at i4
  cases i4
 clear i3 i4 hl;generalize valsI v x.args=a at *
 obtain ⟨op,n,xa,xo⟩:=x;simp only at hxn ho ha i1 i2 hu ⊢;generalize Ss.insOut f.types ⟨op,n,xa,xo⟩=out at *
 by_cases c1:op=256
 ·subst c1;refine ⟨_,by unfold oneF; exact if_pos rfl,Jd hg (zm hxn) ?_,fun h=>by cases h⟩;rw [ho,Ss.form,if_pos rfl]; split<;>exact bf _
 simp only [Ss.form,if_neg c1] at i1 i2 ho ha
 by_cases c2:op=258
 ·subst c2;simp only [if_true] at ho ha i2;rw [ho];obtain ⟨g0,g1⟩:=hg.fuel;simp only [oneF,if_neg c1,if_true]
  by_cases f0:s.fuel=0
  ·rw [if_pos f0];exact ⟨_,rfl,Jd hg (by simp) (Nat.zero_le _),fun _ h=>by cases h⟩
  ·rw [if_neg f0];obtain ⟨w,hw⟩ : ∃ w:Nat,s.fuel=(w:Int)+1:=⟨(s.fuel-1).toNat,by omega⟩
   refine ⟨_,rfl,⟨⟨⟨hg.fit.mem,hg.fit.most,hg.fit.globals, ?_,hg.fit.input,hg.fit.log⟩, ?_,hg.glob⟩, ?_,fun _=>⟨Nat.zero_le _,zm u64_0, ?_⟩, ?_⟩,fun _ _=>⟨?_, ?_⟩⟩
   ·simp only; omega
   ·simp only; omega
   ·simp only; omega
   all_goals simp only [pot,hw]; omega
 simp only [if_neg c2] at i1 i2 ho ha;have e2:op=258 -> ∀ {p:Prop},p:=fun h=>absurd h c2
 by_cases c3:op=27
 ·simp only [if_pos c3] at ho ha;obtain ⟨p,q,r,rfl⟩:=list3 ha;simp only [oneF,if_neg c1,if_neg c2,if_pos c3];refine ⟨_,rfl,Jd hg (zm ?_) (Nat.le_of_eq ho),fun h=>e2 h⟩;split
  ·exact hu _ (by simp)
  ·exact hu _ (by simp)
 simp only [if_neg c3] at i1 i2 ho ha
 by_cases c6:op=16
 ·have c4 : ¬ op=35:=by omega
  have c5 : ¬ op=36:=by omega
  simp only [if_pos c6] at ho ha i1;split at i1
  ·rename_i hn;rw [if_pos hn] at ho ha;simp only at ho ha;have hn2:n.toNat<e.sigs.length:=by omega
   have hd:e.sigs.getD n.toNat default=e.sigs[n.toNat]:=by simp [ag,ac hn2]
   rw [hd] at ho ha;obtain ⟨r,h1,h2⟩:=hc n a s _ hxn.1 (ac hn2) ha hu hg hp;refine ⟨r, ?_,⟨h2.good,h2.fuel,fun hz => ?_,h2.any⟩,fun h=>e2 h⟩
   ·simp only [oneF,if_neg c1,if_neg c2,if_neg c3,if_neg c4,if_neg c5,if_pos c6]; exact h1
   ·rw [ho]; exact h2.out hz
  ·cases i1
 simp only [if_neg c6] at i1 i2 ho ha
 by_cases c4:op=35
 ·simp only [if_pos (Or.inl c4:op=35\/op=36),Ss.formGlob] at i1 i2 ho ha;split at i1
  ·rename_i hn;simp only [if_pos hn,if_pos c4] at ho ha;have hn2:n.toNat<s.globals.length:=by rw [hg.glob]; omega
   simp only [oneF,if_neg c1,if_neg c2,if_neg c3,if_pos c4,ac hn2];exact ⟨_,rfl,Jd hg (zm (hg.fit.globals.2 _ (ah hn2))) (Nat.le_of_eq ho),fun h=>e2 h⟩
  ·cases i1
 by_cases c5:op=36
 ·simp only [if_pos (Or.inr c5:op=35\/op=36),Ss.formGlob,if_neg c4] at i1 i2 ho ha;split at i1
  ·rename_i hn;rw [if_pos hn] at ho ha;have hn2:n.toNat<s.globals.length:=by rw [hg.glob]; omega
   obtain ⟨p,rfl⟩:=list1 ha;simp only [oneF,if_neg c1,if_neg c2,if_neg c3,if_neg c4,if_pos c5,if_pos hn2];refine ⟨_,rfl,⟨⟨⟨hg.fit.mem,hg.fit.most,⟨by simpa using hg.fit.globals.1,fun y hy => ?_⟩,hg.fit.fuel,hg.fit.input,hg.fit.log⟩,hg.fuel,by simpa using hg.glob⟩,Int.le_refl _,fun _=>⟨by rw [ho]; exact Nat.zero_le _,zm u64_0, ?_⟩, ?_⟩,fun h=>e2 h⟩
   ·rcases List.mem_or_eq_of_mem_set hy with h1 | rfl
    ·exact hg.fit.globals.2 _ h1
    ·exact hu _ (by simp)
   all_goals simp only [pot]; omega
  ·cases i1
 have c45 : ¬ (op=35\/op=36):=by omega
 simp only [if_neg c45,YG] at i1 i2 ho ha;simp only [oneF,if_neg c1,if_neg c2,if_neg c3,if_neg c4,if_neg c5,if_neg c6]
 cases hns:(Ss.numSig op).2.2 with
 | true =>
  have hop:=Yy hns;simp only [hns,if_true] at ho ha;have c7 : ¬ op=257:=by omega
  have c8 : ¬ op=63:=by omega
  have c9 : ¬ op=64:=by omega
  simp only [if_neg c7,if_neg c8,if_neg c9,zR (op:=op) (by omega)];have:=Yz op;exact ⟨_,rfl,Jd hg (zm (hO.eval op a hu (by omega))) (Nat.le_of_eq ho),fun h=>e2 h⟩
 | false =>
  simp only [hns,aF,if_false] at i1 i2 ho ha
  cases hm:e.mem with
  | false=>rw [hm] at i1; cases i1
  | true =>
  simp only [hm,if_true,Ss.formMem] at i1 i2 ho ha;have hmB:=hg.fit.mem
  by_cases c7:op=257
  ·simp only [if_pos c7] at ho ha;obtain ⟨p,rfl⟩:=list1 ha;simp only [if_pos c7];exact ⟨_,rfl,Jd hg (zm u64_0) (by rw [ho]; exact Nat.zero_le _),fun h=>e2 h⟩
  simp only [if_neg c7] at i1 i2 ho ha ⊢
  by_cases c8:op=63
  ·simp only [if_pos c8] at ho ha;simp only [zR (op:=op) (by omega),if_pos c8];refine ⟨_,rfl,Jd hg (zm ⟨?_, ?_⟩) (Nat.le_of_eq ho),fun h=>e2 h⟩
   ·exact Int.tdiv_nonneg (by omega) (by omega)
   ·have:=hmB.1;rw [Int.tdiv_eq_ediv_of_nonneg (by omega)];omega
  simp only [if_neg c8] at i1 i2 ho ha ⊢
  by_cases c9:op=64
  ·simp only [if_pos c9] at ho ha;obtain ⟨p,rfl⟩:=list1 ha;simp only [zR (op:=op) (by omega),if_pos c9];obtain ⟨g1,g2,g3,g4⟩:=hO.grow s.mem s.most p hmB hg.fit.most.1 hg.fit.most.2 (hu p (by simp));exact ⟨_,rfl,end_mem hg g1 (zm ⟨g3,by omega⟩) (Nat.le_of_eq ho),fun h=>e2 h⟩
  simp only [if_neg c9] at i1 i2 ho ha
  cases hao:Ss.accOf op with
  | none=>rw [hao] at i1; cases i1
  | some c =>
   simp only [hao] at i1 i2 ho ha ⊢
   by_cases hst:c.store=true
   ·simp only [if_pos hst] at ho ha ⊢;obtain ⟨p,q,rfl⟩:=list2 ha;obtain ⟨g1,g2⟩:=hO.store s.mem op p n q hmB (hu p (by simp)) hxn (hu q (by simp));simp only
    by_cases hz:(O.store s.mem op p n q).2=0
    ·rw [if_pos hz,if_pos hz];exact ⟨_,rfl,end_mem hg g1 (zm u64_0) (by rw [ho]; exact Nat.zero_le _),fun h=>e2 h⟩
    ·rw [if_neg hz,if_neg hz];exact ⟨_,rfl,Jd hg (zm u64_0) (by rw [ho]; exact Nat.zero_le _),fun h=>e2 h⟩
   ·simp only [if_neg hst] at ho ha ⊢;obtain ⟨p,rfl⟩:=list1 ha;exact ⟨_,rfl,Jd hg (zm (hO.load s.mem op p n hmB (hu p (by simp)) hxn).1) (Nat.le_of_eq ho),fun h=>e2 h⟩
theorem jaG {n:Nat} {l:List Int} (h:Ss.InTs n l):inR n l=true:=by
 simp only [inR,aD,af,aj];exact h
theorem asks_in {ts:List Int} {ds:List Ss.Def} {near:List Int} {block pos:Int} {l types:List Int} (h:Ss.asks ts ds near block pos l types=true):Ss.InTs ds.length l:=fun v hv=>by
 obtain ⟨t,ht⟩:=Ss.eqF_fst h v hv;simp only [Ss.askOk,af,aj] at ht;exact ht.1.1.1
theorem asks_len {ts:List Int} {ds:List Ss.Def} {near:List Int} {block pos:Int} {l types:List Int} (h:Ss.asks ts ds near block pos l types=true):l.length=types.length:=by
 refine Classical.byContradiction fun hne => ?_
 rw [Ss.asks,Go.Vw.eqF_len hne] at h
 cases h
def ticks (l:List Ss.Ins):Nat:=if (l.any fun x=>decide (x.op=258))=true then 10000000 else 0
theorem code_ex {O:Ops} (hO:OpsOk O) {e:Ss.Env} {f:Ss.Fn} {ds:List Ss.Def} {near:List Int} {i:Int} {call:Int->List Int->State->Option Res} {sl:Nat} (hc:CallEx e call sl) (he:e.right=true) (hds:ds.length=f.types.length) :
  ∀ (l:List Ss.Ins) (k:Nat) (v:List Int) (s:State),Ss.checkCode e f ds near i k l=true->(∀ x∈l,x.Fits/\Ss.InTs f.types.length x.outs)->v.length=f.types.length->(∀ y∈v,U64 y)->Good e s->pot s+9*l.length+sl<=17592186040000 ->
   ∃ v' s' er,codeF O call l v s=some (v',s',er)/\Good e s'/\s'.fuel<=s.fuel/\pot s'<=pot s+9*l.length+sl/\(er=0->v'.length=f.types.length/\(∀ y∈v',U64 y)/\pot s'+ticks l<=pot s+9*l.length/\((l.any fun x=>decide (x.op=258))=true->s'.fuel<s.fuel))
 | [],k,v,s,_,_,hl,hv,hg,_=>⟨v,s,0,rfl,hg,Int.le_refl _,by omega,fun _=>⟨hl,hv,by simp [ticks],by simp⟩⟩
 | x::r,k,v,s,hk,hf,hl,hv,hg,hp=>by
  simp only [Ss.checkCode,af] at hk;obtain ⟨hk1,hk2⟩:=hk;obtain ⟨x1,x2⟩:=hf x (by simp);simp only [aC] at hp;obtain ⟨r1,h1,h2,h3⟩:=one_ex hO hc hk1 x1 he hg hv (by omega);obtain ⟨out,s',er⟩:=r1;have hin:inR v.length x.args=true:=by
   rw [hl, <-hds];simp only [Ss.insOk,af] at hk1;exact jaG (asks_in hk1.2)
  have hino:inR v.length x.outs=true:=by rw [hl]; exact jaG x2
  have hany:=h2.any;have hfu:=h2.fuel;have hgo:=h2.good;simp only at hany hfu hgo
  by_cases h0:er=0
  ·obtain ⟨o1,o2,o3⟩:=h2.out h0;simp only at o1 o2 o3;obtain ⟨v2,s2,e2,k1,k2,k3,k4,k5⟩:=code_ex hO hc he hds r (k+1) (setAll v x.outs out) s' hk2 (fun y hy=>hf y (by simp [hy])) (by rw [KK,hl]) (setAll_u64 _ _ _ hv o2) hgo (by omega);refine ⟨v2,s2,e2, ?_,k2,by omega, ?_,fun hz => ?_⟩
   ·rw [codeF,if_pos hin,h1];simp only;rw [if_neg (not_not_intro h0),if_pos ⟨hino,o1⟩,k1]
   ·simp only [aC]; omega
   ·obtain ⟨q1,q2,q3,q4⟩:=k5 hz;refine ⟨q1,q2, ?_,fun ht => ?_⟩
    rotate_left
    ·simp only [List.any_cons,bq,aj] at ht;rcases ht with ht | ht
     ·have:=(h3 ht h0).2;simp only at this;omega
     ·have:=q4 ht;omega
    have ht:ticks (x::r)<=(if x.op=258 then 10000000 else 0)+ticks r:=by
     simp only [ticks,List.any_cons,bq,aj];split<;>split<;>split<;>simp_all
    simp only [aC]
    by_cases ho:x.op=258
    ·have:=(h3 ho h0).1;rw [if_pos ho] at ht;simp only at this;omega
    ·rw [if_neg ho] at ht;omega
  ·refine ⟨[],s',er, ?_,hgo,hfu, ?_,fun hz=>absurd hz h0⟩
   ·rw [codeF,if_pos hin,h1];simp only;rw [if_pos h0]
   ·simp only [aC]; omega
structure RightP (P:Prog):Prop where
 env:P.env.right=true
 len:(P.fns.length:Int)=P.env.sigs.length-P.env.imports
 fns : ∀ (i:Nat) (f:Ss.Fn),P.fns[i]? = some f->f.Fits/\Ss.check P.env f=true/\P.env.sigs[(P.env.imports+i).toNat]? = some f.sig
noncomputable def rkOf (e:Ss.Env) (f:Ss.Fn):Nat->Nat:=open Classical in if h:Ss.check e f=true then (Ss.rank_ex h).choose else fun _=>0
theorem rkOf_spec {e:Ss.Env} {f:Ss.Fn} (h:Ss.check e f=true):(∀ i,rkOf e f i<256) /\ ∀ i b,f.blocks[i]? = some b->Ss.tickB b=false -> ∀ x∈b.term.to,rkOf e f x.to.toNat<rkOf e f i:=by
 rw [rkOf,dif_pos h];exact (Ss.rank_ex h).choose_spec
structure BlockOk (e:Ss.Env) (f:Ss.Fn) (ds:List Ss.Def) (near:List Int) (i:Nat) (b:Ss.Block):Prop where
 code:Ss.checkCode e f ds near i 0 b.code=true
 term:Ss.termOk f ds near i b=true
 len:b.code.length<=4096
 pars:Ss.InTs f.types.length b.params
 ins : ∀ x∈b.code,x.Fits/\Ss.InTs f.types.length x.outs
 to : ∀ x∈b.term.to,0<=x.to/\x.to<f.blocks.length
structure FnOk (e:Ss.Env) (f:Ss.Fn) (ds:List Ss.Def) (near:List Int):Prop where
 dsl:ds.length=f.types.length
 blocks : ∀ (i:Nat) (b:Ss.Block),f.blocks[i]? = some b->BlockOk e f ds near i b
 entry : ∃ b,f.blocks[0]? = some b/\b.params.length=f.sig.inn.length/\Ss.tickB b=true
theorem fn_ok {e:Ss.Env} {f:Ss.Fn} (hf:f.Fits) (h:Ss.check e f=true) : ∃ ds,Ss.defsOf f=some ds/\FnOk e f ds (Go.Vw.G.nearI (Ss.succs f.blocks)):=by
 obtain ⟨h1,ds,h2,h3,h4⟩:=Ss.check_spec h;obtain ⟨d1,d2⟩:=Ss.defs_in h2;simp only [Ss.shapeOk,af,Bool.not_eq_true'] at h3;obtain ⟨⟨⟨⟨hr,h5⟩,h6⟩,h7⟩,h8⟩:=h3;have hto:=Ss.right_to hr;have hsm:f.small=true:=by
  simp only [Ss.checkHead,af] at h1;exact h1.1.1.1.1.2
 have hcnt:=((Ss.small_iff f).1 hsm).2.2;refine ⟨ds,h2,d1,fun i b hb => ?_, ?_⟩
 ·have hm:=aA hb;obtain ⟨c1,c2⟩:=Ss.checkBlocks_at h4 hb;rw [bd] at c1 c2;have:=Go.Vw.count_mem hm;exact ⟨c1,c2,by omega,(d2 b hm).1,fun x hx=>⟨(hf.2.2.2 b hm).2.1.2 x hx,(d2 b hm).2 x hx⟩,hto b hm⟩
 ·have hpos:0<f.blocks.length:=by
   simp only [Go.Vw.G.right,af,aj,Ss.succs,aI] at hr;omega
  have e0:f.blocks.getD 0 default=f.blocks[0]:=by simp [ag,ac hpos]
  rw [e0] at h7 h8;refine ⟨_,ac hpos, ?_, ?_⟩
  ·rw [<-aQ h7]; simp [Ss.typesOf]
  ·rw [Ss.tickB];split at h8
   ·rename_i x r hx;rw [hx]; simp [aQ h8]
   ·cases h8
theorem term_kinds {f:Ss.Fn} {ds:List Ss.Def} {near:List Int} {i:Int} {b:Ss.Block} (h:Ss.termOk f ds near i b=true) (hd:ds.length=f.types.length) :
  (b.term.kind=4->Ss.InTs f.types.length b.term.args/\b.term.args.length=f.sig.out.length)/\(b.term.kind≠4->b.term.kind≠5->(b.term.kind=1/\b.term.to.length=1)\/(b.term.kind=2/\b.term.to.length=2/\Ss.InTs f.types.length [b.term.arg])\/(b.term.kind=3/\0<b.term.to.length/\Ss.InTs f.types.length [b.term.arg])) /\
  ∀ x∈b.term.to,Ss.InTs f.types.length x.args/\x.args.length=(f.blocks.getD x.to.toNat default).params.length:=by
 simp only [Ss.termOk] at h;split at h
 ·rename_i le mo rs hh;simp only [Ss.termTail,af,aj] at h;obtain ⟨⟨⟨⟨t1,t2⟩,t3⟩,t4⟩,t5⟩:=h;have hE : ∀ x∈b.term.to,Ss.InTs f.types.length x.args/\x.args.length=(f.blocks.getD x.to.toNat default).params.length:=fun x hx=>by
   have:=aD.1 t5 x hx;simp only [Ss.edgeOk,af] at this;refine ⟨hd▸asks_in this.2, ?_⟩;rw [asks_len this.2]; simp [Ss.typesOf]
  refine ⟨fun hk => ?_,fun k4 k5 => ?_,hE⟩
  ·rw [hk] at hh;have:(0,0,f.sig.out)=(le,mo,rs):=Option.some.inj hh
   cases this
   exact ⟨hd▸asks_in t4,asks_len t4⟩
  ·simp only [Ss.termHead] at hh
   by_cases k1:b.term.kind=1
   ·rw [if_pos k1] at hh
    cases hh
    exact .inl ⟨k1,by omega⟩
   rw [if_neg k1] at hh
   by_cases k2:b.term.kind=2
   ·rw [if_pos k2] at hh
    cases hh
    rw [if_pos (by simp [Ss.branches,k2])] at t1;exact .inr (.inl ⟨k2,by omega,hd▸asks_in t1⟩)
   rw [if_neg k2] at hh
   by_cases k3:b.term.kind=3
   ·rw [if_pos k3] at hh
    cases hh
    rw [if_pos (by simp [Ss.branches,k3])] at t1;exact .inr (.inr ⟨k3,by omega,hd▸asks_in t1⟩)
   rw [if_neg k3,if_neg k4,if_neg k5] at hh
   cases hh
 ·cases h
theorem pick_ok {v:List Int} {f:Ss.Fn} {t:Ss.Term} (hv:v.length=f.types.length) (hu : ∀ y∈v,U64 y) (h:(t.kind=1/\t.to.length=1)\/(t.kind=2/\t.to.length=2/\Ss.InTs f.types.length [t.arg])\/(t.kind=3/\0<t.to.length/\Ss.InTs f.types.length [t.arg])) : ∃ k,pickF v t=some k/\k<t.to.length:=by
 rw [<-hv] at h;rcases h with ⟨h1,h2⟩ | ⟨h1,h2,h3⟩ | ⟨h1,h2,h3⟩
 ·exact ⟨0,by simp [pickF,h1],by omega⟩
 ·refine ⟨_,by rw [pickF,if_pos h1,if_pos (jaG h3)], ?_⟩;split<;>omega
 ·refine ⟨_,by rw [pickF,if_neg (by omega),if_pos h1,if_pos ⟨jaG h3,h2⟩], ?_⟩;split
  ·rename_i hlt;omega
  ·omega
def room (b:Ss.Block) (rk:Nat):Nat:=if Ss.tickB b=true then 36864 else 36864*(rk+2)
def gain (b:Ss.Block) (rk:Nat):Nat:=if Ss.tickB b=true then 0 else 36864*(rk+1)
def BlocksEx (O:Ops) (P:Prog) (N d:Nat):Prop :=
 ∀ (f:Ss.Fn) (v:List Int) (at_:Nat) (b:Ss.Block) (args:List Int) (s:State),f∈P.fns->v.length=f.types.length->(∀ y∈v,U64 y)->f.blocks[at_]? = some b->args.length=b.params.length->(∀ y∈args,U64 y)->Good P.env s ->
  pot s+room b (rkOf P.env f at_)+10000000*(16-d)<=17592186040000->300000*(16-d)+257*s.fuel.toNat+rkOf P.env f at_+1<=N ->
  ∃ r,blocksF O P N d f v at_ args s=some r/\EndOk P.env s f.sig.out.length (gain b (rkOf P.env f at_)) (room b (rkOf P.env f at_)+10000000*(16-d)) r
theorem sig_right {e:Ss.Env} (he:e.right=true) {i:Nat} {t:Ss.Sig} (ht:e.sigs[i]? = some t):t.inn.length<=8/\t.out.length<=8:=by
 simp only [Ss.Env.right,af,aD] at he;have:=he.2 t (aA ht);simp only [Ss.Sig.right,Ss.kinds,af,aj] at this;exact ⟨this.1.1,this.2.1⟩
theorem call_ex {O:Ops} {P:Prog} (hP:RightP P) {N d:Nat} (h:d<16->BlocksEx O P N (d+1)) (hN:300000*(16-d)<=N):CallEx P.env (callG P (blocksF O P N) d) (10000000*(16-d)):=by
 intro n args s t h0 ht hal hau hg hp;obtain ⟨q1,q2⟩:=sig_right hP.env ht;have hen:=hP.env;simp only [Ss.Env.right,af,aj] at hen;have hi0:=hen.1.1.1.1.1;have hi1:=hen.1.1.1.1.2;have hi2:=hen.1.1.1.2;obtain ⟨hlt,hte⟩:=ae.1 ht
 by_cases hn:n<P.env.imports
 ·obtain ⟨r,h1,h2⟩:=host_ex (outs:=t.out) hg (n:=n) (args:=args) ⟨h0,by omega⟩ hau (by omega) (by omega);refine ⟨r,by rw [callG,if_pos hn,ht]; exact h1,h2.good,h2.fuel,h2.out, ?_⟩;have:=h2.any;omega
 ·by_cases hd:16<=d
  ·refine ⟨([],s,37),by rw [callG,if_neg hn,if_pos hd],hg,Int.le_refl _,fun h=>absurd h (show ¬ (37:Int)=0 by decide), ?_⟩;simp only; omega
  ·have hl:=hP.len;have hk:(n-P.env.imports).toNat<P.fns.length:=by omega
   obtain ⟨f1,f2,f3⟩:=hP.fns _ _ (ac hk);have e1:(P.env.imports+((n-P.env.imports).toNat:Int)).toNat=n.toNat:=by omega
   rw [e1,ht] at f3;have e2:t=(P.fns[(n-P.env.imports).toNat]).sig:=Option.some.inj f3;obtain ⟨ds,hds,hok⟩:=fn_ok f1 f2;obtain ⟨b,hb,hbp,hbt⟩:=hok.entry;have hr:=(rkOf_spec f2).1 0;have hfu:=hg.fuel;obtain ⟨r,h1,h2⟩:=h (by omega) (P.fns[(n-P.env.imports).toNat]) (List.replicate (P.fns[(n-P.env.imports).toNat]).types.length 0) 0 b args s (ah hk) (by simp) (fun y hy=>by rw [List.eq_of_mem_replicate hy]; exact u64_0) hb (by rw [hal,hbp,e2]) hau hg
    (by rw [room,if_pos hbt]; clear hN; omega) (by clear hp; omega)
   refine ⟨r,by rw [callG,if_neg hn,if_neg hd,ac hk]; exact h1,h2.good,h2.fuel,fun hz => ?_, ?_⟩
   ·obtain ⟨o1,o2,o3⟩:=h2.out hz;rw [gain,if_pos hbt] at o3;exact ⟨by rw [e2]; exact o1,o2,by omega⟩
   ·have:=h2.any;rw [room,if_pos hbt] at this;omega
theorem jaY {O:Ops} (hO:OpsOk O) {P:Prog} (hP:RightP P) : ∀ N d,d<=16->BlocksEx O P N d
 | 0,d,_=>fun f v at_ b args s _ _ _ _ _ _ _ _ hN=>by omega
 | N+1,d,hd=>fun f v at_ b args s hf hvl hvu hb hal hau hg hp hN=>by
  obtain ⟨i,hi⟩:=aB.1 hf;obtain ⟨f1,f2,f3⟩:=hP.fns i f hi;obtain ⟨ds,hds,hok⟩:=fn_ok f1 f2;obtain ⟨b1,b2,b3,b4,b5,b6⟩:=hok.blocks at_ b hb;obtain ⟨r1,r2⟩:=rkOf_spec f2;have hrk:=r1 at_;have hcall:=call_ex (O:=O) hP (N:=N) (d:=d) (fun h=>jaY hO hP N (d+1) h) (by clear hp; omega);have hroom:36864<=room b (rkOf P.env f at_):=by
   simp only [room]; split<;>omega
  obtain ⟨v2,s2,er,k1,k2,k3,k4,k5⟩:=code_ex hO hcall hP.env hok.dsl b.code 0 (setAll v b.params args) s b1 b5 (by rw [KK,hvl]) (setAll_u64 _ _ _ hvu hau) hg (by omega);have hpar:inR v.length b.params=true/\b.params.length<=args.length:=⟨by rw [hvl]; exact jaG b4,by omega⟩
  simp only [blocksF,hb,if_pos hpar,k1]
  by_cases he:er=0
  ·obtain ⟨q1,q2,q3,q4⟩:=k5 he;rw [if_neg (not_not_intro he)];obtain ⟨t1,t2,t3⟩:=term_kinds b2 hok.dsl;have ht:Ss.tickB b=true->ticks b.code=10000000/\s2.fuel<s.fuel:=fun h=>⟨if_pos h,q4 h⟩
   have hf2:=hg.fuel;have hf3:=k2.fuel;have hga:pot s2<=pot s+gain b (rkOf P.env f at_)/\pot s2<=pot s+36864:=by
    simp only [gain];split
    ·rename_i h;have:=(ht h).1;omega
    ·omega
   by_cases h4:b.term.kind=4
   ·obtain ⟨a1,a2⟩:=t1 h4;rw [if_pos h4,if_pos (by rw [q1]; exact jaG a1)];exact ⟨_,rfl,k2,k3,fun _=>⟨by rw [vals_len,a2]; exact bf _,vals_u64 q2 _,hga.1⟩,by simp only; omega⟩
   rw [if_neg h4]
   by_cases h5:b.term.kind=5
   ·rw [if_pos h5];exact ⟨_,rfl,k2,k3,fun h=>(by cases h),by simp only; omega⟩
   rw [if_neg h5];obtain ⟨k,hk,hkl⟩:=pick_ok q1 q2 (t2 h4 h5);rw [hk];simp only [ac hkl];have hm:=ah hkl;generalize b.term.to[k]=ed at *
   obtain ⟨x1,x2⟩:=t3 ed hm;obtain ⟨y1,y2⟩:=b6 ed hm;rw [if_pos ⟨by rw [q1]; exact jaG x1,y1⟩];have hnb:ed.to.toNat<f.blocks.length:=by omega
   have e0:f.blocks.getD ed.to.toNat default=f.blocks[ed.to.toNat]:=by simp [ag,ac hnb]
   rw [e0] at x2;have hnr:=r1 ed.to.toNat;have hstep:pot s2+room (f.blocks[ed.to.toNat]) (rkOf P.env f ed.to.toNat)<=pot s+room b (rkOf P.env f at_)/\pot s2+gain (f.blocks[ed.to.toNat]) (rkOf P.env f ed.to.toNat)<=pot s+gain b (rkOf P.env f at_)/\257*s2.fuel.toNat+rkOf P.env f ed.to.toNat+1<=257*s.fuel.toNat+rkOf P.env f at_:=by
    cases hbt:Ss.tickB b with
    | true =>
     obtain ⟨z1,z2⟩:=ht hbt;simp only [room,gain,if_pos hbt];split<;>omega
    | false =>
     have:=r2 at_ b hb hbt ed hm;have hbt' : ¬ Ss.tickB b=true:=by rw [hbt]; decide
     simp only [room,gain,if_neg hbt'];split<;>omega
   obtain ⟨z1,z2,z3⟩:=hstep;obtain ⟨r,w1,w2⟩:=jaY hO hP N d hd f v2 ed.to.toNat _ (valsI v2 ed.args) s2 hf q1 q2 (ac hnb) (by rw [vals_len,x2]) (vals_u64 q2 _) k2 (by omega) (by omega);refine ⟨r,w1,w2.good,by have:=w2.fuel; omega,fun hz => ?_, ?_⟩
   ·obtain ⟨o1,o2,o3⟩:=w2.out hz;exact ⟨o1,o2,by omega⟩
   ·have:=w2.any;omega
  ·rw [if_pos he];exact ⟨_,rfl,k2,k3,fun h=>absurd h he,by simp only; omega⟩
theorem call_ends {O:Ops} (hO:OpsOk O) {P:Prog} (hP:RightP P) {n:Int} {args:List Int} {s:State} {t:Ss.Sig} (h0:0<=n) (ht:P.env.sigs[n.toNat]? = some t) (ha:args.length=t.inn.length) (hu : ∀ x∈args,U64 x) (hg:Good P.env s) (hl:s.log.length<=4096) :
  ∃ r,callF O P 4800000 0 n args s=some r/\EndOk P.env s t.out.length 9 (9+160000000) r:=by
 have hf:=hg.fuel;exact call_ex hP (fun h=>jaY hO hP _ _ (by omega)) (by omega) n args s t h0 ht ha hu hg (by simp only [pot]; omega)
end Ev
namespace Go.Vw
open Go.Proofs Go.RowKit
attribute [-simp] List.map_set
def Zm:Store:=⟨fun _=>none,0⟩
theorem Jx {z0 S:Store} {es:List Nat}:(ZZ.mk z0 Zm Zm es).ok S:=⟨fun o c h=>(by cases h),fun o c h=>(by cases h)⟩
def BlocksOk (P:Ev.Prog) (go:Ss.Fn->List Int->Nat->List Int->Ev.State->Option Ev.Res) (d:Int):Prop :=
 ∀ (f:Ss.Fn) (args:List Int) (s:Ev.State) (r:Ev.Res) (S:Store) (o g l:Nat),f∈P.fns->Ok s->(∀ x∈args,Ev.U64 x)->args.length<=4096->RunAt S P s o g l d 0->go f (List.replicate f.types.length 0) 0 args s=some r ->
  bU 114 [.ptr o 0,jI f,vl vu args] S (RunPost P o g l d r S)
theorem post_own1 {S:Store} {P:Ev.Prog} {s':Ev.State} {o g l:Nat} {d e:Int} {c:Option (Nat × List V)} :
  JV (St S [(o,c)] []) P s' o g l d e=St S [(o,some (14,runC P s' g (lid S.nx 0) d e)),(g,some (1,s'.globals.map vu)),(l,none)] [some (1,s'.log.map vu)]:=by
 have hn:(St S [(o,c)] []).nx=S.nx:=by simp [jL,lid]
 refine Store.ext' (funext fun i => ?_) (by simp only [JV,jL,hn]; simp [lid]);rw [JV,qI,hn,qI,qI]
 by_cases h1:i<S.nx
 ·simp only [if_pos h1,uGet]
  by_cases e1:i=o
  ·simp only [if_pos e1]
  ·simp only [if_neg e1]
 ·simp only [if_neg h1]
theorem NCall_v (P:Ev.Prog) (hP:Ev.RightP P) (go:Nat->Ss.Fn->List Int->Nat->List Int->Ev.State->Option Ev.Res) (d:Nat) (hd:d<=16) (hgo:d<16->BlocksOk P (go (d+1)) ((d:Int)+1)):CallOk P (Ev.callG P go d) d:=by
 intro n args s r S o g l hs ha hal hn0 hn1 hr hf;have hR:=hr;obtain ⟨h1,h2,h3,h4,h5,h6⟩:=hr;have hen:=hP.env;simp only [Ss.Env.right,af,aj] at hen;have hi0:=hen.1.1.1.1.1;have hi1:=hen.1.1.1.1.2;have hi2:=hen.1.1.1.2;have hsr := @Ev.sig_right P.env hP.env;have hfl:=hP.len;clear hen;obtain ⟨⟨sg,im,gl,mu,me⟩,fns⟩:=P;obtain ⟨mem,most,glb,fuel,inp,log⟩:=s;simp only [runC] at h1 h2 h3;simp only at hi0 hi1 hi2 hsr hfl;have hw0:IntKind.i64.wrap n=n:=wrap_i64 (by omega) (by omega);refine QB (c:=jc Tryz.f86) Tryz.func86 Tryz.ntmps86 fun hwf=>?_
 have on:=jl hwf h1;have gn:=jl hwf h2;have ln:=jl hwf h3;have oo:=fun u l => @jh S u l o on
 have updo:=fun u l c => @jP S u l c o on
 refine QY ?_
 by_cases hn:n<im
 ·obtain ⟨m,rfl⟩ : ∃ m:Nat,n=(m:Int):=⟨n.toNat,by omega⟩
  have hm:m<sg.length:=by omega
  obtain ⟨t,ht⟩ : ∃ t,sg[m]=t:=⟨_,rfl⟩
  have htl:=(hsr (i:=m) (t:=t) (by rw [<-ht]; exact ac hm)).2;have hf:Ev.hostF ⟨mem,most,glb,fuel,inp,log⟩ m t.out args=some r:=by
   simpa [Ev.callG,hn,ac hm,ht] using hf
  obtain ⟨out,⟨mem',most',glb',fuel',inp',log'⟩,e⟩:=r;have hc:=ZB hR (ids_tuple2 out e) (NHost_v _ _ o g l _ m t args _ S hR ⟨hn0,by omega⟩ (by omega) hf)
  refine bv oo h1 hn ?_
  refine QT ?_;refine QJ (Zm) (Zm) [20,21,24,25,26,27,28,30,31,20033] ?_ (hz:=Jx) (r:=by conv=>lhs; simp [QV,oo,h1,hm,ht]);refine vcall_t rfl (jM hwf▸hc) (by rfl) (by rfl) ?_ ?_;exact Jx;rw [jM hwf];simp only [JV,runC];refine QW ?_
  refine bD oo updo h5 h6 ?_
  exact own_end (P:=⟨⟨sg,im,gl,mu,me⟩,fns⟩) (d:=d) (e:=e) (out:=out) (w:=[some (1,log'.map vu)]) (k:=0) (s:=⟨mem',most',glb',fuel',inp',log'⟩) hwf on gn ln h4 h5 h6 rfl
 ·by_cases hd6:16<=d
  ·have hf:([],(⟨mem,most,glb,fuel,inp,log⟩:Ev.State),37)=r:=by
    simpa [Ev.callG,hn,hd6] using hf
   subst hf;have hd6':(16:Int)<=d:=by omega
   refine bJ oo updo h1 hd6' hn ?_
   exact one_nil hwf hR rfl rfl rfl
  ·have hd6' : ¬ (16:Int)<=d:=by omega
   obtain ⟨k,hkn⟩ : ∃ k:Nat,n-im=(k:Int):=⟨(n-im).toNat,by omega⟩
   simp only [Ev.callG,if_neg hn,if_neg hd6,hkn,Int.toNat_natCast] at hf
   cases hfk0:fns[k]? with
   | none=>rw [hfk0] at hf; cases hf
   | some f =>
   rw [hfk0] at hf;simp only at hf;obtain ⟨hk,hfk⟩:=ae.1 hfk0;have hw1:IntKind.i64.wrap ((d:Int)+1)=(d:Int)+1:=wrap_i64 (by omega) (by omega);have hw2:IntKind.i64.wrap (d:Int)=d:=wrap_i64 (by omega) (by omega);have hw3:IntKind.i64.wrap (n-im)=(k:Int):=by rw [hkn]; exact wrap_i64 (by omega) (by omega)
   obtain ⟨out,⟨mem',most',glb',fuel',inp',log'⟩,e⟩:=r
   refine bz oo updo h1 hd6' hw1 hn ?_
   have hS2:RunAt (St S [(o,some (14,runC ⟨⟨sg,im,gl,mu,me⟩,fns⟩ ⟨mem,most,glb,fuel,inp,log⟩ g l ((d:Int)+1) 0))] []) ⟨⟨sg,im,gl,mu,me⟩,fns⟩ ⟨mem,most,glb,fuel,inp,log⟩ o g l ((d:Int)+1) 0:=by
    refine ⟨?_, ?_, ?_,h4,h5,h6⟩
    ·rw [jh on]; simp [uGet]
    ·rw [jh gn]; simp [uGet,Ne.symm h4,h2]
    ·rw [jh ln]; simp [uGet,Ne.symm h5,h3]
   have hc:=ZB hS2 (ids_vu out) (hgo (by omega) f args _ _ _ o g l (by rw [<-hfk]; exact ah hk) hs ha hal hS2 hf);refine QT ?_;refine QJ (Zm) (Zm) [58,59,60,61,63,64,65,66,67,68,70,71,20073] ?_ (hz:=Jx) (r:=by conv=>lhs; simp [QV,oo,h1,hk,hfk,hw3]);refine vcall_t rfl (hc) (by rfl) (by rfl) ?_ ?_;exact Jx;rw [post_own1];simp only [runC];refine QW ?_
   refine bJ oo updo h5 h6 hw2 ?_
   exact own_end (P:=⟨⟨sg,im,gl,mu,me⟩,fns⟩) (d:=d) (e:=e) (out:=out) (w:=[some (1,log'.map vu)]) (k:=0) (s:=⟨mem',most',glb',fuel',inp',log'⟩) hwf on gn ln h4 h5 h6 rfl
end Go.Vw
