import Derived.Test.YtcpncecdegmliaaGreatC37
/- Part of the proof. -/
set_option linter.unusedVariables false
set_option linter.unusedSimpArgs false
set_option maxRecDepth 10000
set_option maxHeartbeats 4000000

namespace Ev
def pot (s:State):Nat:=s.log.length+10000000*s.fuel.toNat
structure Good (e:Ss.Env) (s:State):Prop where
 fit:StFits s
 fuel:0≤s.fuel∧s.fuel≤1024
 glob:s.globals.length=e.globals.length
structure EndOk (e:Ss.Env) (s:State) (k add sl:Nat) (r:Res):Prop where
 good:Good e r.2.1
 fuel:r.2.1.fuel≤s.fuel
 out:r.2.2=0→k≤r.1.length∧(∀ x∈r.1,U64 x)∧pot r.2.1≤pot s+add
 any:pot r.2.1≤pot s+sl
def CallEx (e:Ss.Env) (call:Int→List Int→State→Option Res) (sl:Nat):Prop :=
 ∀ (n:Int) (args:List Int) (s:State) (t:Ss.Sig),0≤n→e.sigs[n.toNat]? = some t→args.length=t.inn.length→(∀ x∈args,U64 x)→Good e s→pot s+9+sl≤17592186040000 →
  ∃ r,call n args s=some r∧EndOk e s t.out.length 9 (9+sl) r
theorem u64_0:U64 0:=⟨by decide,by decide⟩
theorem vals_len (v l:List Int):(valsI v l).length=l.length:=by simp [valsI]
theorem vals_u64 {v:List Int} (h : ∀ x∈v,U64 x) (l:List Int) : ∀ x∈valsI v l,U64 x:=by
 intro x hx;obtain ⟨i,_,rfl⟩:=List.mem_map.1 hx
 by_cases h1:i.toNat<v.length
 ·simp only [List.getD_eq_getElem?_getD,List.getElem?_eq_getElem h1,Option.getD_some];exact h _ (List.getElem_mem h1)
 ·simp only [List.getD_eq_getElem?_getD,List.getElem?_eq_none (Nat.le_of_not_lt h1),Option.getD_none];exact u64_0
theorem Kq : ∀ (v is xs:List Int),(setAll v is xs).length=v.length
 | v,[],_=>rfl
 | v,_::_,[]=>rfl
 | v,i::is,x::xs=>by rw [setAll,Kq]; simp
theorem setAll_u64 : ∀ (v is xs:List Int),(∀ x∈v,U64 x)→(∀ x∈xs,U64 x) → ∀ x∈setAll v is xs,U64 x
 | v,[],_,h,_=>h
 | v,_::_,[],h,_=>h
 | v,i::is,x::xs,h,k=>by
  rw [setAll];refine setAll_u64 _ _ _ (fun y hy => ?_) fun y hy=>k y (by simp [hy])
  rcases List.mem_or_eq_of_mem_set hy with h1 | rfl
  ·exact h y h1
  ·exact k y (by simp)
theorem jcf : ∀ (outs inp:List Int),(∀ x∈inp,U64 x)→((hostL outs inp).2.2=0→(hostL outs inp).1.length=outs.length)∧(∀ x∈(hostL outs inp).1,U64 x)∧(hostL outs inp).2.1.length≤inp.length ∧ ∀ x∈(hostL outs inp).2.1,U64 x
 | [],inp,h=>⟨fun _=>rfl,by simp [hostL],by simp [hostL],h⟩
 | _::_,[],h=>⟨fun h=>absurd h (show ¬ (39:Int)=0 by decide),by simp [hostL],by simp [hostL],by simp [hostL]⟩
 | t::ts,x::inp,h=>by
  obtain ⟨h1,h2,h3,h4⟩:=jcf ts inp fun y hy=>h y (by simp [hy])
  simp only [hostL];split
  ·rename_i hz;refine ⟨fun _=>by simp [h1 hz],fun y hy => ?_,by simp; omega,h4⟩;rcases List.mem_cons.1 hy with rfl | hy
   ·split
    ·exact Go.Vw.wrap_u64_in _
    ·exact h x (by simp)
   ·exact h2 y hy
  ·rename_i hz;exact ⟨fun h=>absurd h hz,by simp,by simp; omega,h4⟩
theorem host_ex {e:Ss.Env} {s:State} {n:Int} {outs args:List Int} (hg:Good e s) (hn:0≤n∧n<18446744073709551616) (ha : ∀ x∈args,U64 x) (hl:args.length≤8) (hp:pot s+9≤17592186040000) :
  ∃ r,hostF s n outs args=some r∧EndOk e s outs.length 9 9 r:=by
 obtain ⟨h1,h2,h3,h4⟩:=jcf outs s.input hg.fit.input.2;have hpl:s.log.length≤pot s:=by simp only [pot]; omega
 have hin:=hg.fit.input.1;refine ⟨_,by rw [hostF,if_pos (by omega)],⟨⟨hg.fit.mem,hg.fit.most,hg.fit.globals,hg.fit.fuel,⟨by simp only; omega,h4⟩,⟨?_,fun x hx => ?_⟩⟩,hg.fuel,hg.glob⟩,Int.le_refl _,fun hz=>⟨Nat.le_of_eq (h1 hz).symm,h2, ?_⟩, ?_⟩
 ·simp; omega
 ·rcases List.mem_append.1 hx with hx | hx
  ·exact hg.fit.log.2 x hx
  ·rcases List.mem_cons.1 hx with rfl | hx
   ·exact hn
   ·exact ha x hx
 ·simp [pot]; omega
 ·simp [pot]; omega
theorem jbi {op:Int} (h:(Ss.numSig op).2.2=true):69≤op∧op≤250:=by
 simp only [Ss.numSig] at h;split at h
 ·rename_i g hg;obtain ⟨h1,h2⟩:=Ss.findIn_mem hg;have h3 : ∀ g∈Ss.groups,69≤g.first∧g.first+g.many≤250:=by decide
  have:=h3 g h1;simp only [Ss.Grp.has,Bool.and_eq_true,decide_eq_true_eq] at h2;omega
 ·cases h
theorem jbm {α:Type} {n:Int} : ∀ {l:List (Int × α)},(∀ p∈l,p.1≠n)→Ss.findK n l=none
 | [],_=>rfl
 | (k,v)::r,h=>by
  rw [Ss.findK,if_neg (fun e=>h (k,v) (by simp) e.symm)];exact jbm fun p hp=>h p (by simp [hp])
theorem Yo {op:Int} (h:63≤op):Ss.accOf op=none:=by
 refine jbm fun p hp e => ?_
 have : ∀ p∈Ss.accL,p.1≤62:=by decide
 have:=this p hp;omega
theorem list1 {l:List Int} (h:l.length=1) : ∃ a,l=[a]:=List.length_eq_one_iff.1 h
theorem list2 {l:List Int} (h:l.length=2) : ∃ a b,l=[a,b]:=by
 match l,h with
 | [a,b],_=>exact ⟨a,b,rfl⟩
theorem list3 {l:List Int} (h:l.length=3) : ∃ a b c,l=[a,b,c]:=by
 match l,h with
 | [a,b,c],_=>exact ⟨a,b,c,rfl⟩
theorem zR {e:Ss.Env} {s:State} {out:List Int} {k sl:Nat} {er:Int} (hg:Good e s) (hu : ∀ x∈out,U64 x) (hk:k≤out.length):EndOk e s k 9 (9+sl) (out,s,er) :=
 ⟨hg,Int.le_refl _,fun _=>⟨hk,hu,by simp only; omega⟩,by simp only; omega⟩
theorem end_mem {e:Ss.Env} {s:State} {out m:List Int} {k sl:Nat} {er:Int} (hg:Good e s) (hm:Go.Vw.byteL m) (hu : ∀ x∈out,U64 x) (hk:k≤out.length):EndOk e s k 9 (9+sl) (out,{ s with mem:=m },er) :=
 ⟨⟨⟨hm,hg.fit.most,hg.fit.globals,hg.fit.fuel,hg.fit.input,hg.fit.log⟩,hg.fuel,hg.glob⟩,Int.le_refl _,fun _=>⟨hk,hu,by simp only [pot]; omega⟩,by simp only [pot]; omega⟩
theorem zZ {y:Int} (h:U64 y) : ∀ x∈[y],U64 x:=fun x hx=>by
 rcases List.mem_cons.1 hx with rfl | hx
 ·exact h
 ·cases hx
theorem jbl (e:Ss.Env) (op:Int):Ss.formNum e op=if (Ss.numSig op).2.2=true then ⟨(Ss.numSig op).1,[(Ss.numSig op).2.1],0,true⟩ else if e.mem then Ss.formMem op else ⟨[],[],0,false⟩:=by
 unfold Ss.formNum;rcases hh:Ss.numSig op with ⟨l,t,b⟩
 cases b<;>simp
theorem numSig_ins (op:Int):(Ss.numSig op).1.length≤2:=by
 unfold Ss.numSig;split
 ·simp only [Ss.Grp.ins]; split<;>simp
 ·simp
theorem one_ex {O:Ops} (hO:OpsOk O) {e:Ss.Env} {f:Ss.Fn} {ds:List Ss.Def} {near:List Int} {i k:Int} {x:Ss.Ins} {v:List Int} {s:State} {call:Int→List Int→State→Option Res} {sl:Nat} (hc:CallEx e call sl) (hi:Ss.insOk e f ds near i k x=true) (hx:x.Fits)
  (he:e.right=true) (hg:Good e s) (hv : ∀ y∈v,U64 y) (hp:pot s+9+sl≤17592186040000) :
  ∃ r,oneF O call x (valsI v x.args) s=some r∧EndOk e s x.outs.length 9 (9+sl) r∧(x.op=258→r.2.2=0→pot r.2.1+10000000≤pot s∧r.2.1.fuel<s.fuel):=by
 have hu:=vals_u64 hv x.args;have hl:=vals_len v x.args;have hxn:=hx.2.1;simp only [Ss.insOk,Bool.and_eq_true,decide_eq_true_eq] at hi;obtain ⟨⟨⟨i1,i2⟩,i3⟩,i4⟩:=hi;have ho:x.outs.length=(Ss.form e x.op x.n (Ss.insOut f.types x)).outs.length:=by rw [←i3]; simp [Ss.typesOf]
 have ha:(valsI v x.args).length=(Ss.form e x.op x.n (Ss.insOut f.types x)).inn.length:=by
  rw [hl];refine Classical.byContradiction fun hne => ?_
  rw [Ss.asks,Go.Vw.eqF_len hne] at i4
  cases i4
 clear i3 i4 hl;generalize valsI v x.args=a at *
 obtain ⟨op,n,xa,xo⟩:=x;simp only at hxn ho ha i1 i2 hu ⊢;generalize Ss.insOut f.types ⟨op,n,xa,xo⟩=out at *
 by_cases c1:op=256
 ·subst c1;refine ⟨_,by unfold oneF; exact if_pos rfl,zR hg (zZ hxn) ?_,fun h=>by cases h⟩;rw [ho,Ss.form,if_pos rfl]; split<;>exact Nat.le_refl _
 simp only [Ss.form,if_neg c1] at i1 i2 ho ha
 by_cases c2:op=258
 ·subst c2;simp only [if_true] at ho ha i2;rw [ho];obtain ⟨g0,g1⟩:=hg.fuel;simp only [oneF,if_neg c1,if_true]
  by_cases f0:s.fuel=0
  ·rw [if_pos f0];exact ⟨_,rfl,zR hg (by simp) (Nat.zero_le _),fun _ h=>by cases h⟩
  ·rw [if_neg f0];obtain ⟨w,hw⟩ : ∃ w:Nat,s.fuel=(w:Int)+1:=⟨(s.fuel-1).toNat,by omega⟩
   refine ⟨_,rfl,⟨⟨⟨hg.fit.mem,hg.fit.most,hg.fit.globals, ?_,hg.fit.input,hg.fit.log⟩, ?_,hg.glob⟩, ?_,fun _=>⟨Nat.zero_le _,zZ u64_0, ?_⟩, ?_⟩,fun _ _=>⟨?_, ?_⟩⟩
   ·simp only; omega
   ·simp only; omega
   ·simp only; omega
   all_goals simp only [pot,hw]; omega
 simp only [if_neg c2] at i1 i2 ho ha;have e2:op=258 → ∀ {p:Prop},p:=fun h=>absurd h c2
 by_cases c3:op=27
 ·simp only [if_pos c3] at ho ha;obtain ⟨p,q,r,rfl⟩:=list3 ha;simp only [oneF,if_neg c1,if_neg c2,if_pos c3];refine ⟨_,rfl,zR hg (zZ ?_) (Nat.le_of_eq ho),fun h=>e2 h⟩;split
  ·exact hu _ (by simp)
  ·exact hu _ (by simp)
 simp only [if_neg c3] at i1 i2 ho ha
 by_cases c6:op=16
 ·have c4 : ¬ op=35:=by omega
  have c5 : ¬ op=36:=by omega
  simp only [if_pos c6] at ho ha i1;split at i1
  ·rename_i hn;rw [if_pos hn] at ho ha;simp only at ho ha;have hn2:n.toNat<e.sigs.length:=by omega
   have hd:e.sigs.getD n.toNat default=e.sigs[n.toNat]:=by simp [List.getD_eq_getElem?_getD,List.getElem?_eq_getElem hn2]
   rw [hd] at ho ha;obtain ⟨r,h1,h2⟩:=hc n a s _ hxn.1 (List.getElem?_eq_getElem hn2) ha hu hg hp;refine ⟨r, ?_,⟨h2.good,h2.fuel,fun hz => ?_,h2.any⟩,fun h=>e2 h⟩
   ·simp only [oneF,if_neg c1,if_neg c2,if_neg c3,if_neg c4,if_neg c5,if_pos c6]; exact h1
   ·rw [ho]; exact h2.out hz
  ·cases i1
 simp only [if_neg c6] at i1 i2 ho ha
 by_cases c4:op=35
 ·simp only [if_pos (Or.inl c4:op=35∨op=36),Ss.formGlob] at i1 i2 ho ha;split at i1
  ·rename_i hn;simp only [if_pos hn,if_pos c4] at ho ha;have hn2:n.toNat<s.globals.length:=by rw [hg.glob]; omega
   simp only [oneF,if_neg c1,if_neg c2,if_neg c3,if_pos c4,List.getElem?_eq_getElem hn2];exact ⟨_,rfl,zR hg (zZ (hg.fit.globals.2 _ (List.getElem_mem hn2))) (Nat.le_of_eq ho),fun h=>e2 h⟩
  ·cases i1
 by_cases c5:op=36
 ·simp only [if_pos (Or.inr c5:op=35∨op=36),Ss.formGlob,if_neg c4] at i1 i2 ho ha;split at i1
  ·rename_i hn;rw [if_pos hn] at ho ha;have hn2:n.toNat<s.globals.length:=by rw [hg.glob]; omega
   obtain ⟨p,rfl⟩:=list1 ha;simp only [oneF,if_neg c1,if_neg c2,if_neg c3,if_neg c4,if_pos c5,if_pos hn2];refine ⟨_,rfl,⟨⟨⟨hg.fit.mem,hg.fit.most,⟨by simpa using hg.fit.globals.1,fun y hy => ?_⟩,hg.fit.fuel,hg.fit.input,hg.fit.log⟩,hg.fuel,by simpa using hg.glob⟩,Int.le_refl _,fun _=>⟨by rw [ho]; exact Nat.zero_le _,zZ u64_0, ?_⟩, ?_⟩,fun h=>e2 h⟩
   ·rcases List.mem_or_eq_of_mem_set hy with h1 | rfl
    ·exact hg.fit.globals.2 _ h1
    ·exact hu _ (by simp)
   all_goals simp only [pot]; omega
  ·cases i1
 have c45 : ¬ (op=35∨op=36):=by omega
 simp only [if_neg c45,jbl] at i1 i2 ho ha;simp only [oneF,if_neg c1,if_neg c2,if_neg c3,if_neg c4,if_neg c5,if_neg c6]
 cases hns:(Ss.numSig op).2.2 with
 | true =>
  have hop:=jbi hns;simp only [hns,if_true] at ho ha;have c7 : ¬ op=257:=by omega
  have c8 : ¬ op=63:=by omega
  have c9 : ¬ op=64:=by omega
  simp only [if_neg c7,if_neg c8,if_neg c9,Yo (op:=op) (by omega)];have:=numSig_ins op;exact ⟨_,rfl,zR hg (zZ (hO.eval op a hu (by omega))) (Nat.le_of_eq ho),fun h=>e2 h⟩
 | false =>
  simp only [hns,Bool.false_eq_true,if_false] at i1 i2 ho ha
  cases hm:e.mem with
  | false=>rw [hm] at i1; cases i1
  | true =>
  simp only [hm,if_true,Ss.formMem] at i1 i2 ho ha;have hmB:=hg.fit.mem
  by_cases c7:op=257
  ·simp only [if_pos c7] at ho ha;obtain ⟨p,rfl⟩:=list1 ha;simp only [if_pos c7];exact ⟨_,rfl,zR hg (zZ u64_0) (by rw [ho]; exact Nat.zero_le _),fun h=>e2 h⟩
  simp only [if_neg c7] at i1 i2 ho ha ⊢
  by_cases c8:op=63
  ·simp only [if_pos c8] at ho ha;simp only [Yo (op:=op) (by omega),if_pos c8];refine ⟨_,rfl,zR hg (zZ ⟨?_, ?_⟩) (Nat.le_of_eq ho),fun h=>e2 h⟩
   ·exact Int.tdiv_nonneg (by omega) (by omega)
   ·have:=hmB.1;rw [Int.tdiv_eq_ediv_of_nonneg (by omega)];omega
  simp only [if_neg c8] at i1 i2 ho ha ⊢
  by_cases c9:op=64
  ·simp only [if_pos c9] at ho ha;obtain ⟨p,rfl⟩:=list1 ha;simp only [Yo (op:=op) (by omega),if_pos c9];obtain ⟨g1,g2,g3,g4⟩:=hO.grow s.mem s.most p hmB hg.fit.most.1 hg.fit.most.2 (hu p (by simp));exact ⟨_,rfl,end_mem hg g1 (zZ ⟨g3,by omega⟩) (Nat.le_of_eq ho),fun h=>e2 h⟩
  simp only [if_neg c9] at i1 i2 ho ha
  cases hao:Ss.accOf op with
  | none=>rw [hao] at i1; cases i1
  | some c =>
   simp only [hao] at i1 i2 ho ha ⊢
   by_cases hst:c.store=true
   ·simp only [if_pos hst] at ho ha ⊢;obtain ⟨p,q,rfl⟩:=list2 ha;obtain ⟨g1,g2⟩:=hO.store s.mem op p n q hmB (hu p (by simp)) hxn (hu q (by simp));simp only
    by_cases hz:(O.store s.mem op p n q).2=0
    ·rw [if_pos hz,if_pos hz];exact ⟨_,rfl,end_mem hg g1 (zZ u64_0) (by rw [ho]; exact Nat.zero_le _),fun h=>e2 h⟩
    ·rw [if_neg hz,if_neg hz];exact ⟨_,rfl,zR hg (zZ u64_0) (by rw [ho]; exact Nat.zero_le _),fun h=>e2 h⟩
   ·simp only [if_neg hst] at ho ha ⊢;obtain ⟨p,rfl⟩:=list1 ha;exact ⟨_,rfl,zR hg (zZ (hO.load s.mem op p n hmB (hu p (by simp)) hxn).1) (Nat.le_of_eq ho),fun h=>e2 h⟩
theorem jad {n:Nat} {l:List Int} (h:Ss.InTs n l):inR n l=true:=by
 simp only [inR,List.all_eq_true,Bool.and_eq_true,decide_eq_true_eq];exact h
theorem jay {ts:List Int} {ds:List Ss.Def} {near:List Int} {block pos:Int} {l types:List Int} (h:Ss.asks ts ds near block pos l types=true):Ss.InTs ds.length l:=fun v hv=>by
 obtain ⟨t,ht⟩:=Ss.eqF_fst h v hv;simp only [Ss.askOk,Bool.and_eq_true,decide_eq_true_eq] at ht;exact ht.1.1.1
theorem jcs {ts:List Int} {ds:List Ss.Def} {near:List Int} {block pos:Int} {l types:List Int} (h:Ss.asks ts ds near block pos l types=true):l.length=types.length:=by
 refine Classical.byContradiction fun hne => ?_
 rw [Ss.asks,Go.Vw.eqF_len hne] at h
 cases h
def ticks (l:List Ss.Ins):Nat:=if (l.any fun x=>decide (x.op=258))=true then 10000000 else 0
theorem code_ex {O:Ops} (hO:OpsOk O) {e:Ss.Env} {f:Ss.Fn} {ds:List Ss.Def} {near:List Int} {i:Int} {call:Int→List Int→State→Option Res} {sl:Nat} (hc:CallEx e call sl) (he:e.right=true) (hds:ds.length=f.types.length) :
  ∀ (l:List Ss.Ins) (k:Nat) (v:List Int) (s:State),Ss.checkCode e f ds near i k l=true→(∀ x∈l,x.Fits∧Ss.InTs f.types.length x.outs)→v.length=f.types.length→(∀ y∈v,U64 y)→Good e s→pot s+9*l.length+sl≤17592186040000 →
   ∃ v' s' er,codeF O call l v s=some (v',s',er)∧Good e s'∧s'.fuel≤s.fuel∧pot s'≤pot s+9*l.length+sl∧(er=0→v'.length=f.types.length∧(∀ y∈v',U64 y)∧pot s'+ticks l≤pot s+9*l.length∧((l.any fun x=>decide (x.op=258))=true→s'.fuel<s.fuel))
 | [],k,v,s,_,_,hl,hv,hg,_=>⟨v,s,0,rfl,hg,Int.le_refl _,by omega,fun _=>⟨hl,hv,by simp [ticks],by simp⟩⟩
 | x::r,k,v,s,hk,hf,hl,hv,hg,hp=>by
  simp only [Ss.checkCode,Bool.and_eq_true] at hk;obtain ⟨hk1,hk2⟩:=hk;obtain ⟨x1,x2⟩:=hf x (by simp);simp only [List.length_cons] at hp;obtain ⟨r1,h1,h2,h3⟩:=one_ex hO hc hk1 x1 he hg hv (by omega);obtain ⟨out,s',er⟩:=r1;have hin:inR v.length x.args=true:=by
   rw [hl, ←hds];simp only [Ss.insOk,Bool.and_eq_true] at hk1;exact jad (jay hk1.2)
  have hino:inR v.length x.outs=true:=by rw [hl]; exact jad x2
  have hany:=h2.any;have hfu:=h2.fuel;have hgo:=h2.good;simp only at hany hfu hgo
  by_cases h0:er=0
  ·obtain ⟨o1,o2,o3⟩:=h2.out h0;simp only at o1 o2 o3;obtain ⟨v2,s2,e2,k1,k2,k3,k4,k5⟩:=code_ex hO hc he hds r (k+1) (setAll v x.outs out) s' hk2 (fun y hy=>hf y (by simp [hy])) (by rw [Kq,hl]) (setAll_u64 _ _ _ hv o2) hgo (by omega);refine ⟨v2,s2,e2, ?_,k2,by omega, ?_,fun hz => ?_⟩
   ·rw [codeF,if_pos hin,h1];simp only;rw [if_neg (not_not_intro h0),if_pos ⟨hino,o1⟩,k1]
   ·simp only [List.length_cons]; omega
   ·obtain ⟨q1,q2,q3,q4⟩:=k5 hz;refine ⟨q1,q2, ?_,fun ht => ?_⟩
    rotate_left
    ·simp only [List.any_cons,Bool.or_eq_true,decide_eq_true_eq] at ht;rcases ht with ht | ht
     ·have:=(h3 ht h0).2;simp only at this;omega
     ·have:=q4 ht;omega
    have ht:ticks (x::r)≤(if x.op=258 then 10000000 else 0)+ticks r:=by
     simp only [ticks,List.any_cons,Bool.or_eq_true,decide_eq_true_eq];split<;>split<;>split<;>simp_all
    simp only [List.length_cons]
    by_cases ho:x.op=258
    ·have:=(h3 ho h0).1;rw [if_pos ho] at ht;simp only at this;omega
    ·rw [if_neg ho] at ht;omega
  ·refine ⟨[],s',er, ?_,hgo,hfu, ?_,fun hz=>absurd hz h0⟩
   ·rw [codeF,if_pos hin,h1];simp only;rw [if_pos h0]
   ·simp only [List.length_cons]; omega
structure RightP (P:Prog):Prop where
 env:P.env.right=true
 len:(P.fns.length:Int)=P.env.sigs.length-P.env.imports
 fns : ∀ (i:Nat) (f:Ss.Fn),P.fns[i]? = some f→f.Fits∧Ss.check P.env f=true∧P.env.sigs[(P.env.imports+i).toNat]? = some f.sig
noncomputable def rkOf (e:Ss.Env) (f:Ss.Fn):Nat→Nat:=open Classical in if h:Ss.check e f=true then (Ss.rank_ex h).choose else fun _=>0
theorem rkOf_spec {e:Ss.Env} {f:Ss.Fn} (h:Ss.check e f=true):(∀ i,rkOf e f i<256) ∧ ∀ i b,f.blocks[i]? = some b→Ss.tickB b=false → ∀ x∈b.term.to,rkOf e f x.to.toNat<rkOf e f i:=by
 rw [rkOf,dif_pos h];exact (Ss.rank_ex h).choose_spec
structure BlockOk (e:Ss.Env) (f:Ss.Fn) (ds:List Ss.Def) (near:List Int) (i:Nat) (b:Ss.Block):Prop where
 code:Ss.checkCode e f ds near i 0 b.code=true
 term:Ss.termOk f ds near i b=true
 len:b.code.length≤4096
 pars:Ss.InTs f.types.length b.params
 ins : ∀ x∈b.code,x.Fits∧Ss.InTs f.types.length x.outs
 to : ∀ x∈b.term.to,0≤x.to∧x.to<f.blocks.length
structure FnOk (e:Ss.Env) (f:Ss.Fn) (ds:List Ss.Def) (near:List Int):Prop where
 dsl:ds.length=f.types.length
 blocks : ∀ (i:Nat) (b:Ss.Block),f.blocks[i]? = some b→BlockOk e f ds near i b
 entry : ∃ b,f.blocks[0]? = some b∧b.params.length=f.sig.inn.length∧Ss.tickB b=true
theorem fn_ok {e:Ss.Env} {f:Ss.Fn} (hf:f.Fits) (h:Ss.check e f=true) : ∃ ds,Ss.defsOf f=some ds∧FnOk e f ds (Go.Vw.G.nearI (Ss.succs f.blocks)):=by
 obtain ⟨h1,ds,h2,h3,h4⟩:=Ss.check_spec h;obtain ⟨d1,d2⟩:=Ss.defs_in h2;simp only [Ss.shapeOk,Bool.and_eq_true,Bool.not_eq_true'] at h3;obtain ⟨⟨⟨⟨hr,h5⟩,h6⟩,h7⟩,h8⟩:=h3;have hto:=Ss.right_to hr;have hsm:f.small=true:=by
  simp only [Ss.checkHead,Bool.and_eq_true] at h1;exact h1.1.1.1.1.2
 have hcnt:=((Ss.small_iff f).1 hsm).2.2;refine ⟨ds,h2,d1,fun i b hb => ?_, ?_⟩
 ·have hm:=List.mem_of_getElem? hb;obtain ⟨c1,c2⟩:=Ss.checkBlocks_at h4 hb;rw [Nat.zero_add] at c1 c2;have:=Go.Vw.count_mem hm;exact ⟨c1,c2,by omega,(d2 b hm).1,fun x hx=>⟨(hf.2.2.2 b hm).2.1.2 x hx,(d2 b hm).2 x hx⟩,hto b hm⟩
 ·have hpos:0<f.blocks.length:=by
   simp only [Go.Vw.G.right,Bool.and_eq_true,decide_eq_true_eq,Ss.succs,List.length_map] at hr;omega
  have e0:f.blocks.getD 0 default=f.blocks[0]:=by simp [List.getD_eq_getElem?_getD,List.getElem?_eq_getElem hpos]
  rw [e0] at h7 h8;refine ⟨_,List.getElem?_eq_getElem hpos, ?_, ?_⟩
  ·rw [←of_decide_eq_true h7]; simp [Ss.typesOf]
  ·rw [Ss.tickB];split at h8
   ·rename_i x r hx;rw [hx]; simp [of_decide_eq_true h8]
   ·cases h8
theorem term_kinds {f:Ss.Fn} {ds:List Ss.Def} {near:List Int} {i:Int} {b:Ss.Block} (h:Ss.termOk f ds near i b=true) (hd:ds.length=f.types.length) :
  (b.term.kind=4→Ss.InTs f.types.length b.term.args∧b.term.args.length=f.sig.out.length)∧(b.term.kind≠4→b.term.kind≠5→(b.term.kind=1∧b.term.to.length=1)∨(b.term.kind=2∧b.term.to.length=2∧Ss.InTs f.types.length [b.term.arg])∨(b.term.kind=3∧0<b.term.to.length∧Ss.InTs f.types.length [b.term.arg])) ∧
  ∀ x∈b.term.to,Ss.InTs f.types.length x.args∧x.args.length=(f.blocks.getD x.to.toNat default).params.length:=by
 simp only [Ss.termOk] at h;split at h
 ·rename_i le mo rs hh;simp only [Ss.termTail,Bool.and_eq_true,decide_eq_true_eq] at h;obtain ⟨⟨⟨⟨t1,t2⟩,t3⟩,t4⟩,t5⟩:=h;have hE : ∀ x∈b.term.to,Ss.InTs f.types.length x.args∧x.args.length=(f.blocks.getD x.to.toNat default).params.length:=fun x hx=>by
   have:=List.all_eq_true.1 t5 x hx;simp only [Ss.edgeOk,Bool.and_eq_true] at this;refine ⟨hd▸jay this.2, ?_⟩;rw [jcs this.2]; simp [Ss.typesOf]
  refine ⟨fun hk => ?_,fun k4 k5 => ?_,hE⟩
  ·rw [hk] at hh;have:(0,0,f.sig.out)=(le,mo,rs):=Option.some.inj hh
   cases this
   exact ⟨hd▸jay t4,jcs t4⟩
  ·simp only [Ss.termHead] at hh
   by_cases k1:b.term.kind=1
   ·rw [if_pos k1] at hh
    cases hh
    exact .inl ⟨k1,by omega⟩
   rw [if_neg k1] at hh
   by_cases k2:b.term.kind=2
   ·rw [if_pos k2] at hh
    cases hh
    rw [if_pos (by simp [Ss.branches,k2])] at t1;exact .inr (.inl ⟨k2,by omega,hd▸jay t1⟩)
   rw [if_neg k2] at hh
   by_cases k3:b.term.kind=3
   ·rw [if_pos k3] at hh
    cases hh
    rw [if_pos (by simp [Ss.branches,k3])] at t1;exact .inr (.inr ⟨k3,by omega,hd▸jay t1⟩)
   rw [if_neg k3,if_neg k4,if_neg k5] at hh
   cases hh
 ·cases h
theorem pick_ok {v:List Int} {f:Ss.Fn} {t:Ss.Term} (hv:v.length=f.types.length) (hu : ∀ y∈v,U64 y) (h:(t.kind=1∧t.to.length=1)∨(t.kind=2∧t.to.length=2∧Ss.InTs f.types.length [t.arg])∨(t.kind=3∧0<t.to.length∧Ss.InTs f.types.length [t.arg])) : ∃ k,pickF v t=some k∧k<t.to.length:=by
 rw [←hv] at h;rcases h with ⟨h1,h2⟩ | ⟨h1,h2,h3⟩ | ⟨h1,h2,h3⟩
 ·exact ⟨0,by simp [pickF,h1],by omega⟩
 ·refine ⟨_,by rw [pickF,if_pos h1,if_pos (jad h3)], ?_⟩;split<;>omega
 ·refine ⟨_,by rw [pickF,if_neg (by omega),if_pos h1,if_pos ⟨jad h3,h2⟩], ?_⟩;split
  ·rename_i hlt;omega
  ·omega
def room (b:Ss.Block) (rk:Nat):Nat:=if Ss.tickB b=true then 36864 else 36864*(rk+2)
def gain (b:Ss.Block) (rk:Nat):Nat:=if Ss.tickB b=true then 0 else 36864*(rk+1)
def BlocksEx (O:Ops) (P:Prog) (N d:Nat):Prop :=
 ∀ (f:Ss.Fn) (v:List Int) (at_:Nat) (b:Ss.Block) (args:List Int) (s:State),f∈P.fns→v.length=f.types.length→(∀ y∈v,U64 y)→f.blocks[at_]? = some b→args.length=b.params.length→(∀ y∈args,U64 y)→Good P.env s →
  pot s+room b (rkOf P.env f at_)+10000000*(16-d)≤17592186040000→300000*(16-d)+257*s.fuel.toNat+rkOf P.env f at_+1≤N →
  ∃ r,blocksF O P N d f v at_ args s=some r∧EndOk P.env s f.sig.out.length (gain b (rkOf P.env f at_)) (room b (rkOf P.env f at_)+10000000*(16-d)) r
theorem sig_right {e:Ss.Env} (he:e.right=true) {i:Nat} {t:Ss.Sig} (ht:e.sigs[i]? = some t):t.inn.length≤8∧t.out.length≤8:=by
 simp only [Ss.Env.right,Bool.and_eq_true,List.all_eq_true] at he;have:=he.2 t (List.mem_of_getElem? ht);simp only [Ss.Sig.right,Ss.kinds,Bool.and_eq_true,decide_eq_true_eq] at this;exact ⟨this.1.1,this.2.1⟩
theorem call_ex {O:Ops} {P:Prog} (hP:RightP P) {N d:Nat} (h:d<16→BlocksEx O P N (d+1)) (hN:300000*(16-d)≤N):CallEx P.env (callG P (blocksF O P N) d) (10000000*(16-d)):=by
 intro n args s t h0 ht hal hau hg hp;obtain ⟨q1,q2⟩:=sig_right hP.env ht;have hen:=hP.env;simp only [Ss.Env.right,Bool.and_eq_true,decide_eq_true_eq] at hen;have hi0:=hen.1.1.1.1.1;have hi1:=hen.1.1.1.1.2;have hi2:=hen.1.1.1.2;obtain ⟨hlt,hte⟩:=List.getElem?_eq_some_iff.1 ht
 by_cases hn:n<P.env.imports
 ·obtain ⟨r,h1,h2⟩:=host_ex (outs:=t.out) hg (n:=n) (args:=args) ⟨h0,by omega⟩ hau (by omega) (by omega);refine ⟨r,by rw [callG,if_pos hn,ht]; exact h1,h2.good,h2.fuel,h2.out, ?_⟩;have:=h2.any;omega
 ·by_cases hd:16≤d
  ·refine ⟨([],s,37),by rw [callG,if_neg hn,if_pos hd],hg,Int.le_refl _,fun h=>absurd h (show ¬ (37:Int)=0 by decide), ?_⟩;simp only; omega
  ·have hl:=hP.len;have hk:(n-P.env.imports).toNat<P.fns.length:=by omega
   obtain ⟨f1,f2,f3⟩:=hP.fns _ _ (List.getElem?_eq_getElem hk);have e1:(P.env.imports+((n-P.env.imports).toNat:Int)).toNat=n.toNat:=by omega
   rw [e1,ht] at f3;have e2:t=(P.fns[(n-P.env.imports).toNat]).sig:=Option.some.inj f3;obtain ⟨ds,hds,hok⟩:=fn_ok f1 f2;obtain ⟨b,hb,hbp,hbt⟩:=hok.entry;have hr:=(rkOf_spec f2).1 0;have hfu:=hg.fuel;obtain ⟨r,h1,h2⟩:=h (by omega) (P.fns[(n-P.env.imports).toNat]) (List.replicate (P.fns[(n-P.env.imports).toNat]).types.length 0) 0 b args s (List.getElem_mem hk) (by simp) (fun y hy=>by rw [List.eq_of_mem_replicate hy]; exact u64_0) hb (by rw [hal,hbp,e2]) hau hg
    (by rw [room,if_pos hbt]; clear hN; omega) (by clear hp; omega)
   refine ⟨r,by rw [callG,if_neg hn,if_neg hd,List.getElem?_eq_getElem hk]; exact h1,h2.good,h2.fuel,fun hz => ?_, ?_⟩
   ·obtain ⟨o1,o2,o3⟩:=h2.out hz;rw [gain,if_pos hbt] at o3;exact ⟨by rw [e2]; exact o1,o2,by omega⟩
   ·have:=h2.any;rw [room,if_pos hbt] at this;omega
theorem jav {O:Ops} (hO:OpsOk O) {P:Prog} (hP:RightP P) : ∀ N d,d≤16→BlocksEx O P N d
 | 0,d,_=>fun f v at_ b args s _ _ _ _ _ _ _ _ hN=>by omega
 | N+1,d,hd=>fun f v at_ b args s hf hvl hvu hb hal hau hg hp hN=>by
  obtain ⟨i,hi⟩:=List.mem_iff_getElem?.1 hf;obtain ⟨f1,f2,f3⟩:=hP.fns i f hi;obtain ⟨ds,hds,hok⟩:=fn_ok f1 f2;obtain ⟨b1,b2,b3,b4,b5,b6⟩:=hok.blocks at_ b hb;obtain ⟨r1,r2⟩:=rkOf_spec f2;have hrk:=r1 at_;have hcall:=call_ex (O:=O) hP (N:=N) (d:=d) (fun h=>jav hO hP N (d+1) h) (by clear hp; omega);have hroom:36864≤room b (rkOf P.env f at_):=by
   simp only [room]; split<;>omega
  obtain ⟨v2,s2,er,k1,k2,k3,k4,k5⟩:=code_ex hO hcall hP.env hok.dsl b.code 0 (setAll v b.params args) s b1 b5 (by rw [Kq,hvl]) (setAll_u64 _ _ _ hvu hau) hg (by omega);have hpar:inR v.length b.params=true∧b.params.length≤args.length:=⟨by rw [hvl]; exact jad b4,by omega⟩
  simp only [blocksF,hb,if_pos hpar,k1]
  by_cases he:er=0
  ·obtain ⟨q1,q2,q3,q4⟩:=k5 he;rw [if_neg (not_not_intro he)];obtain ⟨t1,t2,t3⟩:=term_kinds b2 hok.dsl;have ht:Ss.tickB b=true→ticks b.code=10000000∧s2.fuel<s.fuel:=fun h=>⟨if_pos h,q4 h⟩
   have hf2:=hg.fuel;have hf3:=k2.fuel;have hga:pot s2≤pot s+gain b (rkOf P.env f at_)∧pot s2≤pot s+36864:=by
    simp only [gain];split
    ·rename_i h;have:=(ht h).1;omega
    ·omega
   by_cases h4:b.term.kind=4
   ·obtain ⟨a1,a2⟩:=t1 h4;rw [if_pos h4,if_pos (by rw [q1]; exact jad a1)];exact ⟨_,rfl,k2,k3,fun _=>⟨by rw [vals_len,a2]; exact Nat.le_refl _,vals_u64 q2 _,hga.1⟩,by simp only; omega⟩
   rw [if_neg h4]
   by_cases h5:b.term.kind=5
   ·rw [if_pos h5];exact ⟨_,rfl,k2,k3,fun h=>(by cases h),by simp only; omega⟩
   rw [if_neg h5];obtain ⟨k,hk,hkl⟩:=pick_ok q1 q2 (t2 h4 h5);rw [hk];simp only [List.getElem?_eq_getElem hkl];have hm:=List.getElem_mem hkl;generalize b.term.to[k]=ed at *
   obtain ⟨x1,x2⟩:=t3 ed hm;obtain ⟨y1,y2⟩:=b6 ed hm;rw [if_pos ⟨by rw [q1]; exact jad x1,y1⟩];have hnb:ed.to.toNat<f.blocks.length:=by omega
   have e0:f.blocks.getD ed.to.toNat default=f.blocks[ed.to.toNat]:=by simp [List.getD_eq_getElem?_getD,List.getElem?_eq_getElem hnb]
   rw [e0] at x2;have hnr:=r1 ed.to.toNat;have hstep:pot s2+room (f.blocks[ed.to.toNat]) (rkOf P.env f ed.to.toNat)≤pot s+room b (rkOf P.env f at_)∧pot s2+gain (f.blocks[ed.to.toNat]) (rkOf P.env f ed.to.toNat)≤pot s+gain b (rkOf P.env f at_)∧257*s2.fuel.toNat+rkOf P.env f ed.to.toNat+1≤257*s.fuel.toNat+rkOf P.env f at_:=by
    cases hbt:Ss.tickB b with
    | true =>
     obtain ⟨z1,z2⟩:=ht hbt;simp only [room,gain,if_pos hbt];split<;>omega
    | false =>
     have:=r2 at_ b hb hbt ed hm;have hbt' : ¬ Ss.tickB b=true:=by rw [hbt]; decide
     simp only [room,gain,if_neg hbt'];split<;>omega
   obtain ⟨z1,z2,z3⟩:=hstep;obtain ⟨r,w1,w2⟩:=jav hO hP N d hd f v2 ed.to.toNat _ (valsI v2 ed.args) s2 hf q1 q2 (List.getElem?_eq_getElem hnb) (by rw [vals_len,x2]) (vals_u64 q2 _) k2 (by omega) (by omega);refine ⟨r,w1,w2.good,by have:=w2.fuel; omega,fun hz => ?_, ?_⟩
   ·obtain ⟨o1,o2,o3⟩:=w2.out hz;exact ⟨o1,o2,by omega⟩
   ·have:=w2.any;omega
  ·rw [if_pos he];exact ⟨_,rfl,k2,k3,fun h=>absurd h he,by simp only; omega⟩
theorem call_ends {O:Ops} (hO:OpsOk O) {P:Prog} (hP:RightP P) {n:Int} {args:List Int} {s:State} {t:Ss.Sig} (h0:0≤n) (ht:P.env.sigs[n.toNat]? = some t) (ha:args.length=t.inn.length) (hu : ∀ x∈args,U64 x) (hg:Good P.env s) (hl:s.log.length≤4096) :
  ∃ r,callF O P 4800000 0 n args s=some r∧EndOk P.env s t.out.length 9 (9+160000000) r:=by
 have hf:=hg.fuel;exact call_ex hP (fun h=>jav hO hP _ _ (by omega)) (by omega) n args s t h0 ht ha hu hg (by simp only [pot]; omega)
end Ev
namespace Go.Vw
open Go.Proofs Go.RowKit
attribute [-simp] List.map_set
def YM:Store:=⟨fun _=>none,0⟩
theorem Jj {z0 S:Store} {es:List Nat}:(ZZ.mk z0 YM YM es).ok S:=⟨fun o c h=>(by cases h),fun o c h=>(by cases h)⟩
def BlocksOk (P:Ev.Prog) (go:Ss.Fn→List Int→Nat→List Int→Ev.State→Option Ev.Res) (d:Int):Prop :=
 ∀ (f:Ss.Fn) (args:List Int) (s:Ev.State) (r:Ev.Res) (S:Store) (o g l:Nat),f∈P.fns→Ok s→(∀ x∈args,Ev.U64 x)→args.length≤4096→RunAt S P s o g l d 0→go f (List.replicate f.types.length 0) 0 args s=some r →
  VCalls Tryz.prog 100 [.ptr o 0,jJ f,vl vu args] S (RunPost P o g l d r S)
theorem post_own1 {S:Store} {P:Ev.Prog} {s':Ev.State} {o g l:Nat} {d e:Int} {c:Option (Nat × List V)} :
  JF (St S [(o,c)] []) P s' o g l d e=St S [(o,some (14,runC P s' g (lid S.nx 0) d e)),(g,some (1,s'.globals.map vu)),(l,none)] [some (1,s'.log.map vu)]:=by
 have hn:(St S [(o,c)] []).nx=S.nx:=by simp [jP,lid]
 refine Store.ext' (funext fun i => ?_) (by simp only [JF,jP,hn]; simp [lid]);rw [JF,qD,hn,qD,qD]
 by_cases h1:i<S.nx
 ·simp only [if_pos h1,uGet]
  by_cases e1:i=o
  ·simp only [if_pos e1]
  ·simp only [if_neg e1]
 ·simp only [if_neg h1]
theorem NCall_v (P:Ev.Prog) (hP:Ev.RightP P) (go:Nat→Ss.Fn→List Int→Nat→List Int→Ev.State→Option Ev.Res) (d:Nat) (hd:d≤16) (hgo:d<16→BlocksOk P (go (d+1)) ((d:Int)+1)):CallOk P (Ev.callG P go d) d:=by
 intro n args s r S o g l hs ha hal hn0 hn1 hr hf;have hR:=hr;obtain ⟨h1,h2,h3,h4,h5,h6⟩:=hr;have hen:=hP.env;simp only [Ss.Env.right,Bool.and_eq_true,decide_eq_true_eq] at hen;have hi0:=hen.1.1.1.1.1;have hi1:=hen.1.1.1.1.2;have hi2:=hen.1.1.1.2;have hsr := @Ev.sig_right P.env hP.env;have hfl:=hP.len;clear hen;obtain ⟨⟨sg,im,gl,mu,me⟩,fns⟩:=P;obtain ⟨mem,most,glb,fuel,inp,log⟩:=s;simp only [runC] at h1 h2 h3;simp only at hi0 hi1 hi2 hsr hfl;have hw0:IntKind.i64.wrap n=n:=wrap_i64 (by omega) (by omega);refine QB (c:=jc Tryz.f75) Tryz.func75 Tryz.ntmps75 fun hwf=>?_
 have on:=jx hwf h1;have gn:=jx hwf h2;have ln:=jx hwf h3;have oo:=fun u l => @jm S u l o on
 have updo:=fun u l c => @qN S u l c o on
 refine QT ?_;refine QY ?_
 by_cases hn:n<im
 ·obtain ⟨m,rfl⟩ : ∃ m:Nat,n=(m:Int):=⟨n.toNat,by omega⟩
  have hm:m<sg.length:=by omega
  obtain ⟨t,ht⟩ : ∃ t,sg[m]=t:=⟨_,rfl⟩
  have htl:=(hsr (i:=m) (t:=t) (by rw [←ht]; exact List.getElem?_eq_getElem hm)).2;have hf:Ev.hostF ⟨mem,most,glb,fuel,inp,log⟩ m t.out args=some r:=by
   simpa [Ev.callG,hn,List.getElem?_eq_getElem hm,ht] using hf
  obtain ⟨out,⟨mem',most',glb',fuel',inp',log'⟩,e⟩:=r;have hc:=Zb hR (ids_tuple2 out e) (NHost_v _ _ o g l _ m t args _ S hR ⟨hn0,by omega⟩ (by omega) hf)
  repeat first|refine QG ?_|refine QY ?_ (r:=by conv=>lhs;simp[QV,oo,h1,hn])
  refine QT ?_;refine QJ (YM) (YM) [20,21,24,25,26,27,28,30,31,20033] ?_ (hz:=Jj) (r:=by conv=>lhs; simp [QV,oo,h1,hm,ht]);refine jbE rfl (qB hwf▸hc) (by rfl) (by rfl) ?_ ?_;exact Jj;rw [qB hwf];simp only [JF,runC];refine QW ?_
  repeat first|refine QG ?_|refine QY ?_ (r:=by conv=>lhs;simp[QV,oo,updo,h5,h6])
  exact own_end (P:=⟨⟨sg,im,gl,mu,me⟩,fns⟩) (d:=d) (e:=e) (out:=out) (w:=[some (1,log'.map vu)]) (k:=0) (s:=⟨mem',most',glb',fuel',inp',log'⟩) hwf on gn ln h4 h5 h6 rfl
 ·by_cases hd6:16≤d
  ·have hf:([],(⟨mem,most,glb,fuel,inp,log⟩:Ev.State),37)=r:=by
    simpa [Ev.callG,hn,hd6] using hf
   subst hf;have hd6':(16:Int)≤d:=by omega
   repeat first|refine QG ?_|refine QY ?_ (r:=by conv=>lhs;simp[QV,oo,updo,h1,hd6',hn])
   exact one_nil hwf hR rfl rfl rfl
  ·have hd6' : ¬ (16:Int)≤d:=by omega
   obtain ⟨k,hkn⟩ : ∃ k:Nat,n-im=(k:Int):=⟨(n-im).toNat,by omega⟩
   simp only [Ev.callG,if_neg hn,if_neg hd6,hkn,Int.toNat_natCast] at hf
   cases hfk0:fns[k]? with
   | none=>rw [hfk0] at hf; cases hf
   | some f =>
   rw [hfk0] at hf;simp only at hf;obtain ⟨hk,hfk⟩:=List.getElem?_eq_some_iff.1 hfk0;have hw1:IntKind.i64.wrap ((d:Int)+1)=(d:Int)+1:=wrap_i64 (by omega) (by omega);have hw2:IntKind.i64.wrap (d:Int)=d:=wrap_i64 (by omega) (by omega);have hw3:IntKind.i64.wrap (n-im)=(k:Int):=by rw [hkn]; exact wrap_i64 (by omega) (by omega)
   obtain ⟨out,⟨mem',most',glb',fuel',inp',log'⟩,e⟩:=r
   repeat first|refine QG ?_|refine QY ?_ (r:=by conv=>lhs;simp[QV,oo,updo,h1,hd6',hw1,hn])
   have hS2:RunAt (St S [(o,some (14,runC ⟨⟨sg,im,gl,mu,me⟩,fns⟩ ⟨mem,most,glb,fuel,inp,log⟩ g l ((d:Int)+1) 0))] []) ⟨⟨sg,im,gl,mu,me⟩,fns⟩ ⟨mem,most,glb,fuel,inp,log⟩ o g l ((d:Int)+1) 0:=by
    refine ⟨?_, ?_, ?_,h4,h5,h6⟩
    ·rw [jm on]; simp [uGet]
    ·rw [jm gn]; simp [uGet,Ne.symm h4,h2]
    ·rw [jm ln]; simp [uGet,Ne.symm h5,h3]
   have hc:=Zb hS2 (ids_vu out) (hgo (by omega) f args _ _ _ o g l (by rw [←hfk]; exact List.getElem_mem hk) hs ha hal hS2 hf);refine QT ?_;refine QJ (YM) (YM) [58,59,60,61,63,64,65,66,67,68,70,71,20073] ?_ (hz:=Jj) (r:=by conv=>lhs; simp [QV,oo,h1,hk,hfk,hw3]);refine jbE rfl (hc) (by rfl) (by rfl) ?_ ?_;exact Jj;rw [post_own1];simp only [runC];refine QW ?_
   repeat first|refine QG ?_|refine QY ?_ (r:=by conv=>lhs;simp[QV,oo,updo,h5,h6,hw2])
   exact own_end (P:=⟨⟨sg,im,gl,mu,me⟩,fns⟩) (d:=d) (e:=e) (out:=out) (w:=[some (1,log'.map vu)]) (k:=0) (s:=⟨mem',most',glb',fuel',inp',log'⟩) hwf on gn ln h4 h5 h6 rfl
end Go.Vw
namespace Ev
open Go.Vw
def WG (call:Int→List Int→State→Option Res):Prop := ∀ n args s r,U64 n→(∀ y∈args,U64 y)→Ok s→call n args s=some r→Ok r.2.1 ∧ ∀ y∈r.1,U64 y
theorem ok_mem {s:State} (h:Ok s) {m:List Int} (hm:byteL m):Ok { s with mem:=m }:=⟨⟨hm,h.fit.most,h.fit.globals,h.fit.fuel,h.fit.input,h.fit.log⟩,h.fuel⟩
theorem one_keep {O:Ops} (hO:OpsOk O) {call:Int→List Int→State→Option Res} (hc:WG call) {x:Ss.Ins} {a:List Int} {s:State} {r:Res} (hx:U64 x.n) (ha : ∀ y∈a,U64 y) (hal:a.length<2^62) (hs:Ok s) (h:oneF O call x a s=some r):Ok r.2.1 ∧ ∀ y∈r.1,U64 y:=by
 unfold oneF at h;split at h
 ·cases h; exact ⟨hs,zZ hx⟩
 split at h
 ·split at h
  ·cases h; exact ⟨hs,by simp⟩
  ·rename_i hz
   cases h
   have h1:=hs.fuel;have h2:=hs.fit.fuel;exact ⟨⟨⟨hs.fit.mem,hs.fit.most,hs.fit.globals,⟨by simp only; omega,by simp only; omega⟩,hs.fit.input,hs.fit.log⟩,by simp only; omega⟩,zZ u64_0⟩
 split at h
 ·split at h
  ·cases h
   refine ⟨hs,zZ ?_⟩;split<;>exact ha _ (by simp)
  ·cases h
 split at h
 ·split at h
  ·rename_i g hg
   cases h
   exact ⟨hs,zZ (hs.fit.globals.2 _ (List.mem_of_getElem? hg))⟩
  ·cases h
 split at h
 ·split at h
  ·split at h
   ·cases h
    refine ⟨⟨⟨hs.fit.mem,hs.fit.most,⟨by simpa using hs.fit.globals.1,fun y hy => ?_⟩,hs.fit.fuel,hs.fit.input,hs.fit.log⟩,hs.fuel⟩,zZ u64_0⟩;rcases List.mem_or_eq_of_mem_set hy with h1 | rfl
    ·exact hs.fit.globals.2 _ h1
    ·exact ha _ (by simp)
   ·cases h
  ·cases h
 split at h
 ·exact hc _ _ _ _ hx ha hs h
 split at h
 ·split at h
  ·cases h; exact ⟨hs,zZ u64_0⟩
  ·cases h
 split at h
 ·split at h
  ·split at h
   ·rename_i p q
    cases h
    refine ⟨?_,zZ u64_0⟩;simp only;split
    ·exact ok_mem hs (hO.store _ _ _ _ _ hs.fit.mem (ha p (by simp)) hx (ha q (by simp))).1
    ·exact hs
   ·cases h
  ·split at h
   ·rename_i p
    cases h
    exact ⟨hs,zZ (hO.load _ _ _ _ hs.fit.mem (ha p (by simp)) hx).1⟩
   ·cases h
 ·split at h
  ·cases h
   refine ⟨hs,zZ ⟨?_, ?_⟩⟩
   ·exact Int.tdiv_nonneg (by omega) (by omega)
   ·have:=hs.fit.mem.1;rw [Int.tdiv_eq_ediv_of_nonneg (by omega)];omega
  split at h
  ·split at h
   ·rename_i p
    cases h
    obtain ⟨g1,g2,g3,g4⟩:=hO.grow s.mem s.most p hs.fit.mem hs.fit.most.1 hs.fit.most.2 (ha p (by simp));exact ⟨ok_mem hs g1,zZ ⟨g3,by omega⟩⟩
   ·cases h
  ·cases h
   exact ⟨hs,zZ (hO.eval _ _ ha hal)⟩
theorem code_keep {O:Ops} (hO:OpsOk O) {call:Int→List Int→State→Option Res} (hc:WG call) : ∀ (l:List Ss.Ins) (v:List Int) (s:State) (r:List Int × State × Int),(∀ x∈l,x.Fits)→(∀ y∈v,U64 y)→Ok s→codeF O call l v s=some r→Ok r.2.1∧(∀ y∈r.1,U64 y)∧(r.2.2=0→r.1.length=v.length)
 | [],v,s,r,_,hv,hs,h=>by cases h; exact ⟨hs,hv,fun _=>rfl⟩
 | x::l,v,s,r,hx,hv,hs,h=>by
  rw [codeF] at h;split at h
  ·cases h1:oneF O call x (valsI v x.args) s with
   | none=>rw [h1] at h; cases h
   | some q =>
    rw [h1] at h;obtain ⟨out,s',er⟩:=q;simp only at h;have hxf:=hx x (by simp);have hal:=hxf.2.2.1.1;obtain ⟨k1,k2⟩:=one_keep hO hc hxf.2.1 (vals_u64 hv _) (by rw [vals_len]; omega) hs h1;split at h
    ·rename_i h0
     cases h
     exact ⟨k1,by simp,fun hz=>absurd hz h0⟩
    ·split at h
     ·obtain ⟨g1,g2,g3⟩:=code_keep hO hc l _ s' r (fun y hy=>hx y (by simp [hy])) (setAll_u64 _ _ _ hv k2) k1 h;exact ⟨g1,g2,fun hz=>by rw [g3 hz,Kq]⟩
     ·cases h
  ·cases h
theorem host_keep {s:State} {n:Int} {outs args:List Int} {r:Res} (hn:U64 n) (ha : ∀ y∈args,U64 y) (hs:Ok s) (h:hostF s n outs args=some r):Ok r.2.1 ∧ ∀ y∈r.1,U64 y:=by
 simp only [hostF] at h;split at h
 ·cases h
  obtain ⟨h1,h2,h3,h4⟩:=jcf outs s.input hs.fit.input.2;have hin:=hs.fit.input.1;refine ⟨⟨⟨hs.fit.mem,hs.fit.most,hs.fit.globals,hs.fit.fuel,⟨by simp only; omega,h4⟩,⟨?_,fun x hx => ?_⟩⟩,hs.fuel⟩,h2⟩
  ·simp; omega
  ·rcases List.mem_append.1 hx with hx | hx
   ·exact hs.fit.log.2 x hx
   ·rcases List.mem_cons.1 hx with rfl | hx
    ·exact hn
    ·exact ha x hx
 ·cases h
theorem call_keep {P:Prog} {go:Nat→Ss.Fn→List Int→Nat→List Int→State→Option Res} {d:Nat} (h : ∀ f∈P.fns, ∀ v args s r,(∀ y∈v,U64 y)→(∀ y∈args,U64 y)→Ok s→go (d+1) f v 0 args s=some r→Ok r.2.1 ∧ ∀ y∈r.1,U64 y):WG (callG P go d):=by
 intro n args s r hn ha hs hr;unfold callG at hr;split at hr
 ·split at hr
  ·exact host_keep hn ha hs hr
  ·cases hr
 ·split at hr
  ·cases hr; exact ⟨hs,by simp⟩
  ·split at hr
   ·rename_i f hf;exact h f (List.mem_of_getElem? hf) _ args s r (fun y hy=>by rw [List.eq_of_mem_replicate hy]; exact u64_0) ha hs hr
   ·cases hr
theorem blocks_keep {O:Ops} (hO:OpsOk O) {P:Prog} (hP : ∀ f∈P.fns,f.Fits) : ∀ (N d:Nat) (f:Ss.Fn) (v:List Int) (at_:Nat) (args:List Int) (s:State) (r:Res),f∈P.fns→(∀ y∈v,U64 y)→(∀ y∈args,U64 y)→Ok s→blocksF O P N d f v at_ args s=some r→Ok r.2.1 ∧ ∀ y∈r.1,U64 y
 | 0,d,f,v,at_,args,s,r,_,_,_,_,h=>by cases h
 | N+1,d,f,v,at_,args,s,r,hf,hv,ha,hs,h=>by
  have hcall:WG (callG P (blocksF O P N) d):=call_keep fun g hg v args s r hv ha hs hr=>blocks_keep hO hP N (d+1) g v 0 args s r hg hv ha hs hr
  rw [blocksF] at h;split at h
  ·cases h
  ·rename_i b hb;split at h
   ·split at h
    ·cases h
    ·rename_i v2 s2 er hcd;obtain ⟨k1,k2,k3⟩:=code_keep hO hcall b.code _ s _ ((hP f hf).2.2.2 b (List.mem_of_getElem? hb)).2.1.2 (setAll_u64 _ _ _ hv ha) hs hcd;simp only at k1 k2;split at h
     ·cases h; exact ⟨k1,by simp⟩
     split at h
     ·split at h
      ·cases h; exact ⟨k1,vals_u64 k2 _⟩
      ·cases h
     split at h
     ·cases h; exact ⟨k1,by simp⟩
     split at h
     ·cases h
     ·split at h
      ·cases h
      ·split at h
       ·exact blocks_keep hO hP N d f v2 _ _ s2 r hf k2 (vals_u64 k2 _) k1 h
       ·cases h
   ·cases h
theorem callF_keep {O:Ops} (hO:OpsOk O) {P:Prog} (hP : ∀ f∈P.fns,f.Fits) (N d:Nat):WG (callG P (blocksF O P N) d) :=
 call_keep fun g hg v args s r hv ha hs hr=>blocks_keep hO hP N (d+1) g v 0 args s r hg hv ha hs hr
end Ev
