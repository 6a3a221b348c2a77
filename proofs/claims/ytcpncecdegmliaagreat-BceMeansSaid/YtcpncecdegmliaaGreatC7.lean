import Derived.Test.YtcpncecdegmliaaGreatC6
/- Part of the proof. -/
set_option linter.unusedVariables false
set_option linter.unusedSimpArgs false
/-
 Calls that leave the store as it was.
-/
namespace Go.Vw
open Go.RowKit
theorem Rep.back {m m':Imm} {β β' β'':Objs} (hb : ∀ o,β o ≠ .fresh→β'' o=β' o) {x:V} {v:Value} (h:Rep m' β' x v) : ∀ v0,Rep m β x v0→Rep m' β'' x v:=by
 induction h with
 | imm h=>exact fun _ _ => .imm h
 | agg xs vs hl hr h1 ih =>
  intro v0 h0;obtain ⟨vs0,_,hl0,hr0,_⟩:=h0.inv_agg;exact .agg xs vs hl (fun i x v hx hv=>ih i x v hx hv vs0[i]! (hr0 i x _ hx (by
   have hi:i<vs0.length:=by rw [←hl0]; exact (List.getElem?_eq_some_iff.1 hx).1
   simp [hi]))) h1
 | tuple xs vs hl hr ih =>
  intro v0 h0;obtain ⟨vs0,_,hl0,hr0⟩:=h0.inv_tuple;exact .tuple xs vs hl (fun i x v hx hv=>ih i x v hx hv vs0[i]! (hr0 i x _ hx (by
   have hi:i<vs0.length:=by rw [←hl0]; exact (List.getElem?_eq_some_iff.1 hx).1
   simp [hi])))
 | func f xs vs hl hr ih =>
  intro v0 h0;obtain ⟨vs0,_,hl0,hr0⟩:=h0.inv_func;exact .func f xs vs hl (fun i x v hx hv=>ih i x v hx hv vs0[i]! (hr0 i x _ hx (by
   have hi:i<vs0.length:=by rw [←hl0]; exact (List.getElem?_eq_some_iff.1 hx).1
   simp [hi])))
 | sliceDead o off len v h h1 =>
  intro v0 h0;have hn:β o ≠ .fresh:=by cases h0 with | imm h=>cases h | sliceDead _ _ _ _ h=>rw [h]; intro h; cases h | sliceVoid _ _ _ h=>rw [h]; intro h; cases h | slice _ _ _ _ _ _ _ _ _ h=>rw [h]; intro h; cases h
  exact .sliceDead o off len v ((hb o hn).trans h) h1
 | sliceVoid o off a h =>
  intro v0 h0;have hn:β o ≠ .fresh:=by cases h0 with | imm h=>cases h | sliceDead _ _ _ _ h=>rw [h]; intro h; cases h | sliceVoid _ _ _ h=>rw [h]; intro h; cases h | slice _ _ _ _ _ _ _ _ _ h=>rw [h]; intro h; cases h
  exact .sliceVoid o off a ((hb o hn).trans h)
 | slice o off len b base s n cap a h hc hcm ha =>
  intro v0 h0;have hn:β o ≠ .fresh:=by cases h0 with | imm h=>cases h | sliceDead _ _ _ _ h=>rw [h]; intro h; cases h | sliceVoid _ _ _ h=>rw [h]; intro h; cases h | slice _ _ _ _ _ _ _ _ _ h=>rw [h]; intro h; cases h
  exact .slice o off len b base s n cap a ((hb o hn).trans h) hc hcm ha
 | ptrDead o off v h h1 =>
  intro v0 h0;have hn:β o ≠ .fresh:=by cases h0 with | imm h=>cases h | ptrDead _ _ _ h=>rw [h]; intro h; cases h | ptr _ _ _ _ _ _ h=>rw [h]; intro h; cases h
  exact .ptrDead o off v ((hb o hn).trans h) h1
 | ptr o off b base s n h =>
  intro v0 h0;have hn:β o ≠ .fresh:=by cases h0 with | imm h=>cases h | ptrDead _ _ _ h=>rw [h]; intro h; cases h | ptr _ _ _ _ _ _ h=>rw [h]; intro h; cases h
  exact .ptr o off b base s n ((hb o hn).trans h)
 | mapDead o v h h1 =>
  intro v0 h0;have hn:β o ≠ .fresh:=by cases h0 with | imm h=>cases h | mapDead _ _ h=>rw [h]; intro h; cases h | map _ _ h=>rw [h]; intro h; cases h
  exact .mapDead o v ((hb o hn).trans h) h1
 | map o b h =>
  intro v0 h0;have hn:β o ≠ .fresh:=by cases h0 with | imm h=>cases h | mapDead _ _ h=>rw [h]; intro h; cases h | map _ _ h=>rw [h]; intro h; cases h
  exact .map o b ((hb o hn).trans h)
 | junk v=>exact fun _ _ => .junk v
def V.plain:V→Bool
 | .tuple xs=>xs.all V.closed
 | x=>x.closed
theorem Rep.plain {m:Imm} {β β':Objs} {x:V} {v:Value} (h:Rep m β x v) (hp:x.plain=true):Rep m β' x v:=by
 by_cases ht : ∃ xs,x = .tuple xs
 ·obtain ⟨xs,rfl⟩:=ht;obtain ⟨vs,rfl,hl,hr⟩:=h.inv_tuple;have hall : ∀ x∈xs,x.closed=true:=by simpa [V.plain] using hp
  exact .tuple xs vs hl fun i x v hx hv => .imm ((hr i x v hx hv).closed (hall x (List.mem_of_getElem? hx)))
 ·have:x.closed=true:=by cases x<;>first | exact hp | exact absurd ⟨_,rfl⟩ ht
  exact .imm (h.closed this)
def Agree (S S':Store):Prop:=S.nx≤S'.nx ∧ ∀ o,o<S.nx→S'.get o=S.get o
theorem Agree.refl (S:Store):Agree S S:=⟨Nat.le_refl _,fun _ _=>rfl⟩
theorem Agree.trans {S S' S'':Store} (h:Agree S S') (k:Agree S' S''):Agree S S'' :=
 ⟨Nat.le_trans h.1 k.1,fun o ho=>(k.2 o (Nat.lt_of_lt_of_le ho h.1)).trans (h.2 o ho)⟩
theorem Agree.add {S S':Store} (h:Agree S S') (c:Nat × List V):Agree S (S'.add c) :=
 ⟨Nat.le_trans h.1 (Nat.le_succ _),fun o ho=>by have:=h.1; simp only [Store.add]; rw [if_neg (by omega)]; exact h.2 o ho⟩
theorem Agree.upd {S S':Store} (h:Agree S S') {o:Nat} (ho:S.nx≤o) (c:Nat × List V):Agree S (S'.upd o c) :=
 ⟨h.1,fun o' ho'=>by simp only [Store.upd]; rw [if_neg (by omega)]; exact h.2 o' ho'⟩
theorem Agree.del {S S':Store} (h:Agree S S') {o:Nat} (ho:S.nx≤o):Agree S (S'.del o) :=
 ⟨h.1,fun o' ho'=>by simp only [Store.del]; rw [if_neg (by omega)]; exact h.2 o' ho'⟩
section
variable {P:Program} {S:Store}
theorem holds_cut {m m':Imm} {β β':Objs} {w w':World} {S':Store} (hS:Holds S m β w) (h2:Holds S' m' β' w') (h3:Ext m β w m' β' w') (hnx:S.nx≤S'.nx) (hag : ∀ o,o<S.nx→S'.get o=S.get o) : ∃ β'',Holds S m' β'' w'∧Ext m β w m' β'' w':=by
 classical
 let β'':Objs:=fun o=>if o<S.nx then β' o else .fresh
 have hlt : ∀ o,o<S.nx→β'' o=β' o:=fun o ho=>by simp only [β'']; rw [if_pos ho]
 have hge : ∀ o,S.nx≤o→β'' o = .fresh:=fun o ho=>by simp only [β'']; rw [if_neg (by omega)]
 have hback : ∀ o,β o ≠ .fresh→β'' o=β' o:=fun o ho=>hlt o (by
  rcases Nat.lt_or_ge o S.nx with h | h
  ·exact h
  ·exact absurd ((hS.fresh o).2 h) ho)
 have hblk : ∀ o b,(β'' o).block? = some b→(β' o).block? = some b:=by
  intro o b hb;rcases Nat.lt_or_ge o S.nx with h | h
  ·rwa [hlt o h] at hb
  ·rw [hge o h] at hb; cases hb
 have hown : ∀ o,o<S.nx→β o ≠ .fresh:=fun o ho h=>by have:=(hS.fresh o).1 h; omega
 refine ⟨β'',⟨h2.imm,fun o b hb=>h2.apart o b (hblk o b hb),fun o o' b k1 k2=>h2.inj o o' b (hblk o b k1) (hblk o' b k2),fun o => ?_,hS.gone,fun o ho hn => ?_,fun o c hc => ?_⟩,
  ⟨h3.imm,fun o ho=>by rw [hback o ho]; exact h3.step o ho,h3.size,fun b hb k1 k2 => ?_,h3.os,h3.tape,h3.output⟩⟩
 ·rcases Nat.lt_or_ge o S.nx with h | h
  ·rw [hlt o h,h2.fresh o]; exact ⟨fun h'=>by omega,fun h'=>by omega⟩
  ·rw [hge o h]; exact ⟨fun _=>h,fun _=>rfl⟩
 ·rw [hlt o ho];exact h2.dead o (by omega) (by rw [hag o ho]; exact hn)
 ·have ho:=hS.lt hc;rw [hlt o ho];have hl:=h2.live o c (by rw [hag o ho]; exact hc);have hl0:=hS.live o c hc
  -- each cell was there before
  have hc0 : ∀ (i:Nat) y,c.2[i]? = some y → ∃ v0,Rep m β y v0 ∨ ∃ k e,y = .tuple [k,e]∧Rep m β e v0:=by
   intro i y hy
   cases hb:β o with
   | fresh=>rw [hb] at hl0; exact hl0.elim
   | dead=>rw [hb] at hl0; exact hl0.elim
   | void=>rw [hb] at hl0; simp only [Live] at hl0; rw [hl0] at hy; simp at hy
   | lies b base s n =>
    rw [hb] at hl0;obtain ⟨_,arr,T,_,_,_,h4⟩:=hl0;obtain ⟨v0,_,hr0,_⟩:=h4 i y hy;exact ⟨v0, .inl hr0⟩
   | mp b =>
    rw [hb] at hl0;obtain ⟨es,clock,_,hle,h4⟩:=hl0;have hi:i<es.size:=by rw [←hle]; exact (List.getElem?_eq_some_iff.1 hy).1
    obtain ⟨k,e,rfl,_,hr0⟩:=h4 i y es[i] hy (Array.getElem?_eq_getElem hi);exact ⟨es[i].val, .inr ⟨k,e,rfl,hr0⟩⟩
  cases hb:β' o with
  | fresh=>rw [hb] at hl; exact hl.elim
  | dead=>rw [hb] at hl; exact hl.elim
  | void=>rw [hb] at hl; exact hl
  | lies b base s n =>
   rw [hb] at hl;obtain ⟨k0,arr,T,k1,k2,k3,k4⟩:=hl;refine ⟨k0,arr,T,k1,k2,k3,fun i y hy => ?_⟩;obtain ⟨u,e1,e2,e3⟩:=k4 i y hy;obtain ⟨v0,hv0 | ⟨k,e,rfl,_⟩⟩:=hc0 i y hy
   ·exact ⟨u,e1,e2.back hback v0 hv0,e3⟩
   ·obtain ⟨vs0,rfl,_⟩:=e2.inv_tuple;simp [Value.oneCell'] at e3
  | mp b =>
   rw [hb] at hl;obtain ⟨es,clock,k1,k2,k3⟩:=hl;refine ⟨es,clock,k1,k2,fun i y en hy hen => ?_⟩;obtain ⟨k,e,rfl,e1,e2⟩:=k3 i y en hy hen;obtain ⟨v0,hv0 | ⟨k',e',heq,hv0⟩⟩:=hc0 i _ hy
   ·obtain ⟨vs0,_,hl0',hr0'⟩:=hv0.inv_tuple;refine ⟨k,e,rfl,e1,e2.back hback vs0[1]! (hr0' 1 e _ rfl ?_)⟩;have:1<vs0.length:=by rw [←hl0']; simp
    simp [this]
   ·cases heq
    exact ⟨k,e,rfl,e1,e2.back hback v0 hv0⟩
 ·obtain ⟨e1,e2,e3⟩:=h3.keep b hb k1 k2;exact ⟨e1,e2,fun o ho=>e3 o (hblk o b ho)⟩
theorem vcalls_pure {f:FuncId} {args:List V} {R:V→Prop} (h:VCalls P f args S fun r S'=>r.plain=true∧Agree S S'∧R r):VCalls P f args S fun r S'=>R r∧S'=S:=by
 intro m β w vs hS hr;refine (h m β w vs hS hr).mono ?_;rintro e w' ⟨v,x,S',m',β',he,⟨hp,⟨hnx,hag⟩,hR⟩,h1,h2,h3⟩;obtain ⟨β'',k1,k2⟩:=holds_cut hS h2 h3 hnx hag;exact ⟨v,x,S,m',β'',he,⟨hR,rfl⟩,h1.plain hp,k1,k2⟩
def VPure (P:Program) (f:FuncId) (args:List V) (X:V):Prop := ∀ S,VCalls P f args S fun r S'=>r=X∧S'=S
theorem VPure.use {f:FuncId} {args:List V} {X:V} (h:VPure P f args X) {k:V→Store→Prop} (hk:k X S):VCalls P f args S k:=(h S).mono fun r S' ⟨h1,h2⟩=>by subst h1; subst h2; exact hk
def Gives (S:Store) (X:V) (r:V) (S':Store):Prop := ∃ S'',Ghost r S' X S''∧Agree S S''
theorem Gives.same {S S':Store} {X:V} (h:Agree S S'):Gives S X X S':=⟨S',Ghost.refl _ _,h⟩
theorem qE {f:FuncId} {args:List V} {X:V} (hX:X.plain=true) (h:VCalls P f args S (Gives S X)):VCalls P f args S fun r S'=>r=X∧S'=S:=by
 refine vcalls_pure (vcalls_ghost (h.mono ?_));rintro r S' ⟨S'',h1,h2⟩;exact ⟨X,S'',h1,hX,h2,rfl⟩
theorem Ghost.tuple {S S':Store} {x x':V} (pre post:List V) (h:Ghost x S x' S'):Ghost (.tuple (pre++x::post)) S (.tuple (pre++x'::post)) S':=by
 intro m β w v hS hr;obtain ⟨vs,rfl,hl,hrr⟩:=hr.inv_tuple;have hi:pre.length<vs.length:=by rw [←hl]; simp
 obtain ⟨m',β',h1,h2,h3⟩:=h m β w vs[pre.length] hS (hrr pre.length x _ (by simp) (List.getElem?_eq_getElem hi));refine ⟨m',β',h1,h2, .tuple _ vs (by rw [←hl]; simp) fun i y u hy hu => ?_⟩
 by_cases e:i=pre.length
 ·subst e;simp at hy; subst hy;rw [List.getElem?_eq_getElem hi] at hu; cases hu;exact h3
 ·refine h2.rep (hrr i y u ?_ hu);rw [←hy];simp only [List.getElem?_append];split
  ·rfl
  ·rename_i hlt;have:i-pre.length=(i-pre.length-1)+1:=by omega
   rw [this]; rfl
end
end Go.Vw
