import Derived.Test.YtjkfgakbijjegaaGreatC4
/- Part of the proof. -/
set_option linter.unusedVariables false
set_option linter.unusedSimpArgs false
namespace Go.Vw
open Go.RowKit
mutual
def V.ren (f:Nat->Nat):V->V
 | .agg xs => .agg (V.renL f xs)
 | .tuple xs => .tuple (V.renL f xs)
 | .func g xs => .func g (V.renL f xs)
 | .meth g x => .meth g (V.ren f x)
 | .slice o off len => .slice (f o) off len
 | .ptr o off => .ptr (f o) off
 | .map o => .map (f o)
 | .bool b => .bool b
 | .int k n => .int k n
 | .str s => .str s
 | .nils => .nils
 | .nilp => .nilp
 | .nilf => .nilf
 | .nilm => .nilm
 | .list xs => .list xs
 | .ref x => .ref x
 | .raw v => .raw v
 | .junk => .junk
def V.renL (f:Nat->Nat):List V->List V
 | []=>[]
 | x::xs=>V.ren f x::V.renL f xs
end
mutual
def V.ids (p:Nat->Bool):V->Bool
 | .agg xs=>V.idsL p xs
 | .tuple xs=>V.idsL p xs
 | .func _ xs=>V.idsL p xs
 | .meth _ x=>V.ids p x
 | .slice o _ _=>p o
 | .ptr o _=>p o
 | .map o=>p o
 | _=>true
def V.idsL (p:Nat->Bool):List V->Bool
 | []=>true
 | x::xs=>V.ids p x&&V.idsL p xs
end
theorem zy (f:Nat->Nat) : ∀ xs,V.renL f xs=xs.map (V.ren f)
 | []=>by simp [V.renL]
 | x::xs=>by simp [V.renL,zy f xs]
theorem Jc (p:Nat->Bool) : ∀ xs,V.idsL p xs=xs.all (V.ids p)
 | []=>by simp [V.idsL]
 | x::xs=>by simp [V.idsL,Jc p xs]
theorem Wz {f g:Nat->Nat} {p:Nat->Bool} (h : ∀ o,p o=true->g (f o)=o) : ∀ x:V,x.ids p=true->(x.ren f).ren g=x
 | .agg xs,hx=>by
  simp only [V.ids,Jc,ax] at hx;simp only [V.ren,zy,List.map_map,V.agg.injEq];exact (aP fun x hm=>Wz h x (hx x hm)).trans (List.map_id _)
 | .tuple xs,hx=>by
  simp only [V.ids,Jc,ax] at hx;simp only [V.ren,zy,List.map_map,V.tuple.injEq];exact (aP fun x hm=>Wz h x (hx x hm)).trans (List.map_id _)
 | .func k xs,hx=>by
  simp only [V.ids,Jc,ax] at hx;simp only [V.ren,zy,List.map_map,V.func.injEq,true_and];exact (aP fun x hm=>Wz h x (hx x hm)).trans (List.map_id _)
 | .meth k x,hx=>by
  simp only [V.ids] at hx;simp only [V.ren,V.meth.injEq,true_and];exact Wz h x hx
 | .slice o off len,hx=>by simp only [V.ids] at hx; simp [V.ren,h o hx]
 | .ptr o off,hx=>by simp only [V.ids] at hx; simp [V.ren,h o hx]
 | .map o,hx=>by simp only [V.ids] at hx; simp [V.ren,h o hx]
 | .bool _,_ | .int _ _,_ | .str _,_ | .nils,_ | .nilp,_ | .nilf,_ | .nilm,_ | .list _,_ | .ref _,_ | .raw _,_ | .junk,_=>by simp [V.ren]
theorem am9 {f g:Nat->Nat} {p:Nat->Bool} (h : ∀ o,p o=true->g (f o)=o) (xs:List V) (hx:V.idsL p xs=true):V.renL g (V.renL f xs)=xs:=by
 simp only [Jc,ax] at hx;simp only [zy,List.map_map];exact (aP fun x hm=>Wz h x (hx x hm)).trans (List.map_id _)
theorem adf {m:Imm} {f:Nat->Nat} : ∀ (x:V) (v:Value),RepI m (x.ren f) v->RepI m x v
 | .agg xs,v,h=>by
  simp only [V.ren,zy] at h;generalize hy:V.agg (xs.map (V.ren f))=y at h;cases h with
  | agg ys vs hl hr h1 =>
   cases hy
   refine .agg xs vs (by simpa using hl) (fun i x u hx hu => ?_) h1;have:=hr i (x.ren f) u (by simp [hx]) hu;have hsz:SizeOf.sizeOf x<SizeOf.sizeOf xs:=List.sizeOf_lt_of_mem (au hx);exact adf x u (by assumption)
  | _=>cases hy
 | .tuple xs,v,h=>by simp only [V.ren] at h; cases h
 | .func k xs,v,h=>by simp only [V.ren] at h; cases h
 | .meth k x,v,h=>by simp only [V.ren] at h; cases h
 | .slice o off len,v,h=>by simp only [V.ren] at h; cases h
 | .ptr o off,v,h=>by simp only [V.ren] at h; cases h
 | .map o,v,h=>by simp only [V.ren] at h; cases h
 | .junk,v,h=>by simp only [V.ren] at h; cases h
 | .raw _,v,h=>by simp only [V.ren] at h; cases h
 | .bool _,v,h | .int _ _,v,h | .str _,v,h | .nils,v,h | .nilp,v,h | .nilf,v,h | .nilm,v,h | .list _,v,h | .ref _,v,h=>by simpa only [V.ren] using h
theorem YY {m:Imm} {β β':Objs} {f:Nat->Nat} (hf : ∀ o,β (f o) ≠ .fresh->β' o=β (f o)\/β' o = .dead) : ∀ (x:V) (v:Value),Rep m β (x.ren f) v->Rep m β' x v
 | .agg xs,v,h=>by
  simp only [V.ren,zy] at h;obtain ⟨vs,rfl,hl,hr,h1⟩:=h.inv_agg;refine .agg xs vs (by simpa using hl) (fun i x u hx hu => ?_) h1;have:=hr i (x.ren f) u (by simp [hx]) hu;have hsz:SizeOf.sizeOf x<SizeOf.sizeOf xs:=List.sizeOf_lt_of_mem (au hx);exact YY hf x u (by assumption)
 | .tuple xs,v,h=>by
  simp only [V.ren,zy] at h;obtain ⟨vs,rfl,hl,hr⟩:=h.inv_tuple;refine .tuple xs vs (by simpa using hl) (fun i x u hx hu => ?_);have:=hr i (x.ren f) u (by simp [hx]) hu;have hsz:SizeOf.sizeOf x<SizeOf.sizeOf xs:=List.sizeOf_lt_of_mem (au hx);exact YY hf x u (by assumption)
 | .func k xs,v,h=>by
  simp only [V.ren,zy] at h;obtain ⟨vs,rfl,hr⟩:=h.inv_func;refine .func k xs vs (by simpa using hr.1) (fun i x u hx hu => ?_);have:=hr.2 i (x.ren f) u (by simp [hx]) hu;have hsz:SizeOf.sizeOf x<SizeOf.sizeOf xs:=List.sizeOf_lt_of_mem (au hx);exact YY hf x u (by assumption)
 | .meth k x,v,h=>by
  simp only [V.ren] at h;obtain ⟨u,rfl,hr⟩:=h.inv_meth;exact .meth k x u (YY hf x u hr)
 | .slice o off len,v,h=>by
  simp only [V.ren] at h;cases h with
  | imm h=>cases h
  | sliceDead _ _ _ _ h1 h2 =>
   rcases hf o (by rw [h1]; exact Loc.noConfusion) with e | e
   .exact .sliceDead o off len v (e.trans h1) h2
   .exact .sliceDead o off len v e h2
  | sliceVoid _ _ a h1 =>
   rcases hf o (by rw [h1]; exact Loc.noConfusion) with e | e
   .exact .sliceVoid o off a (e.trans h1)
   .exact .sliceDead o off 0 _ e rfl
  | slice _ _ _ b base s n cap a h1 hc hcm ha =>
   rcases hf o (by rw [h1]; exact Loc.noConfusion) with e | e
   .exact .slice o off len b base s n cap a (e.trans h1) hc hcm ha
   .exact .sliceDead o off len _ e rfl
 | .ptr o off,v,h=>by
  simp only [V.ren] at h;cases h with
  | imm h=>cases h
  | ptrDead _ _ _ h1 h2 =>
   rcases hf o (by rw [h1]; exact Loc.noConfusion) with e | e
   .exact .ptrDead o off v (e.trans h1) h2
   .exact .ptrDead o off v e h2
  | ptr _ _ b base s n h1 =>
   rcases hf o (by rw [h1]; exact Loc.noConfusion) with e | e
   .exact .ptr o off b base s n (e.trans h1)
   .exact .ptrDead o off _ e rfl
 | .map o,v,h=>by
  simp only [V.ren] at h;cases h with
  | imm h=>cases h
  | mapDead _ _ h1 h2 =>
   rcases hf o (by rw [h1]; exact Loc.noConfusion) with e | e
   .exact .mapDead o v (e.trans h1) h2
   .exact .mapDead o v e h2
  | map _ b h1 =>
   rcases hf o (by rw [h1]; exact Loc.noConfusion) with e | e
   .exact .map o b (e.trans h1)
   .exact .mapDead o _ e rfl
 | .junk,v,_ => .junk v
 | .raw u,v,h=>by
  simp only [V.ren] at h;cases h with
  | imm h=>cases h
  | raw=>exact .raw u
 | .bool _,v,h | .int _ _,v,h | .str _,v,h | .nils,v,h | .nilp,v,h | .nilf,v,h | .nilm,v,h | .list _,v,h | .ref _,v,h=>by
  simp only [V.ren] at h;cases h with
  | imm h=>exact .imm h
open Classical in
/-- Where objects lie, by the new names. -/
noncomputable def We (f:Nat->Nat) (S':Store) (β:Objs):Objs:=fun o=>if S'.nx<=o then .fresh else if (S'.get o).isSome=true then β (f o) else .dead
structure RenS (f:Nat->Nat) (b:Nat) (S S':Store):Prop where
 get : ∀ o c,S'.get o=some c->o<S'.nx/\S.get (f o)=some (c.1,V.renL f c.2)
 inj : ∀ o o',(S'.get o).isSome=true->(S'.get o').isSome=true->f o=f o'->o=o'
 ge : ∀ o,S'.nx<=o->S.nx<=f o
 fix : ∀ o,o<b->f o=o
 base:b<=S'.nx
section
variable {f:Nat->Nat} {b:Nat} {S S':Store} {m:Imm} {β:Objs} {w:World}
theorem jad (h:RenS f b S S') (hS:Holds S m β w) : ∀ o,β (f o) ≠ .fresh->We f S' β o=β (f o)\/We f S' β o = .dead:=by
 intro o ho;have hlt : ¬ S'.nx<=o:=fun hle=>ho ((hS.fresh _).2 (h.ge o hle));simp only [We,if_neg hlt];split
 .exact .inl rfl
 .exact .inr rfl
theorem KK {o b':Nat} (hb:(We f S' β o).block? = some b'):(S'.get o).isSome=true/\(β (f o)).block? = some b':=by
 simp only [We] at hb;split at hb
 .cases hb
 .split at hb
  .rename_i h; exact ⟨h,hb⟩
  .cases hb
theorem Holds.ren (h:RenS f b S S') (hS:Holds S m β w):Holds S' m (We f S' β) w/\ExtB b m β w m (We f S' β) w:=by
 have hrep:=jad h hS;refine ⟨⟨hS.imm,fun o b' hb=>hS.apart _ b' (KK hb).2,fun o o' b' h1 h2 => ?_,fun o => ?_,fun o ho => ?_,fun o ho hn => ?_,fun o c hc => ?_⟩,
  ⟨fun _ _ h=>h,fun o ho hf => ?_,aT _,fun b' hb h1 h2=>⟨rfl,h1,fun o ho=>h2 _ (KK ho).2⟩,rfl,rfl,rfl⟩⟩
 .obtain ⟨a1,a2⟩:=KK h1;obtain ⟨c1,c2⟩:=KK h2;exact h.inj o o' a1 c1 (hS.inj _ _ b' a2 c2)
 .simp only [We];split
  .rename_i hle; exact ⟨fun _=>hle,fun _=>rfl⟩
  .rename_i hle;refine ⟨fun hf => ?_,fun h'=>absurd h' hle⟩;split at hf
   .rename_i hs;obtain ⟨c,hc⟩:=Option.isSome_iff_exists.1 hs;have:=hS.lt (h.get o c hc).2;have:=(hS.fresh _).1 hf;omega
   .cases hf
 .cases hc:S'.get o with
  | none=>rfl
  | some c=>have:=(h.get o c hc).1; omega
 .simp only [We];rw [if_neg (by omega),if_neg (by rw [hn]; simp)]
 .obtain ⟨hlt,hg⟩:=h.get o c hc;have hl:=hS.live _ _ hg;have e:We f S' β o=β (f o):=by simp only [We]; rw [if_neg (by omega),if_pos (by rw [hc]; rfl)]
  rw [e];cases hβ:β (f o) with
  | fresh=>rw [hβ] at hl; exact hl.elim
  | dead=>rw [hβ] at hl; exact hl.elim
  | void=>rw [hβ] at hl; simp only [Live,zy,List.map_eq_nil_iff] at hl; exact hl
  | lies b' base s n =>
   rw [hβ] at hl;obtain ⟨h0,arr,T,h1,h2,h3,h4⟩:=hl;simp only [zy,aB] at h3;refine ⟨h0,arr,T,h1,h2,h3,fun i x hx => ?_⟩;obtain ⟨v,e1,e2,e3⟩:=h4 i (x.ren f) (by simp [zy,hx]);exact ⟨v,e1,YY hrep x v e2,e3⟩
  | mp b' =>
   rw [hβ] at hl;obtain ⟨es,clock,h1,h2,h3⟩:=hl;simp only [zy,aB] at h2;refine ⟨es,clock,h1,h2,fun i x e hx he => ?_⟩;obtain ⟨k,v,e1,e2,e3⟩:=h3 i (x.ren f) e (by simp [zy,hx]) he;cases x<;>simp only [V.ren] at e1<;>first | (cases e1; done) | skip
   rename_i xs
   match xs with
   | []=>simp [V.renL] at e1
   | [x]=>simp [V.renL] at e1
   | x::y::z::r=>simp [V.renL] at e1
   | [x,y] =>
    simp only [V.renL,V.tuple.injEq,List.cons.injEq,and_true] at e1;obtain ⟨rfl,rfl⟩:=e1;exact ⟨x,y,rfl,adf x _ e2,YY hrep y _ e3⟩
 .rw [<-h.fix o ho] at hf;have:=hrep o hf;rw [h.fix o ho] at this;exact this
theorem Reach.ren {N:Nat} {σ σ':Fr} (h:RenS f b S S') (hσ : ∀ t,σ.lk t=(σ'.lk t).ren f):Reach N b σ S σ' S':=by
 intro m β w a hS hF;obtain ⟨h1,h2⟩:=hS.ren h;exact ⟨m,_,h1,⟨hF.size,hF.defers,fun t=>YY (jad h hS) _ _ (by rw [<-hσ]; exact hF.rep t)⟩,h2⟩
end
def GhostB (b:Nat) (x:V) (S:Store) (x':V) (S':Store):Prop :=
 ∀ m β w v,Holds S m β w->Rep m β x v -> ∃ m' β',Holds S' m' β' w/\ExtB b m β w m' β' w/\Rep m' β' x' v
theorem Ghost.toB {x x':V} {S S':Store} (h:Ghost x S x' S') (b:Nat):GhostB b x S x' S':=by
 intro m β w v hS hr;obtain ⟨m',β',h1,h2,h3⟩:=h m β w v hS hr;exact ⟨m',β',h1,h2.toB b,h3⟩
theorem GhostB.refl (b:Nat) (x:V) (S:Store):GhostB b x S x S:=(Ghost.refl x S).toB b
theorem GhostB.trans {b:Nat} {x y z:V} {S S' S'':Store} (h:GhostB b x S y S') (k:GhostB b y S' z S''):GhostB b x S z S'':=by
 intro m β w v hS hr;obtain ⟨m',β',h1,h2,h3⟩:=h m β w v hS hr;obtain ⟨m'',β'',k1,k2,k3⟩:=k m' β' w v h1 h3;exact ⟨m'',β'',k1,h2.trans k2,k3⟩
theorem GhostB.ren {f:Nat->Nat} {b:Nat} {S S':Store} {x x':V} (h:RenS f b S S') (hx:x=x'.ren f):GhostB b x S x' S':=by
 intro m β w v hS hr;obtain ⟨h1,h2⟩:=hS.ren h;subst hx;exact ⟨m,_,h1,h2,YY (jad h hS) _ _ hr⟩
theorem jac {m:Imm} {β:Objs} {p:Nat->Bool} (hp : ∀ o,β o ≠ .fresh->p o=true) : ∀ (x:V) (v:Value),Rep m β x v->x.ids p=true
 | .agg xs,v,h=>by
  obtain ⟨vs,rfl,hl,hr,h1⟩:=h.inv_agg;simp only [V.ids,Jc,ax];intro x hx;obtain ⟨i,hi,rfl⟩:=aR hx;have hsz:SizeOf.sizeOf xs[i]<SizeOf.sizeOf xs:=List.sizeOf_lt_of_mem hx;exact jac hp xs[i] vs[i] (hr i _ _ (aa hi) (aa (by omega)))
 | .tuple xs,v,h=>by
  obtain ⟨vs,rfl,hl,hr⟩:=h.inv_tuple;simp only [V.ids,Jc,ax];intro x hx;obtain ⟨i,hi,rfl⟩:=aR hx;have hsz:SizeOf.sizeOf xs[i]<SizeOf.sizeOf xs:=List.sizeOf_lt_of_mem hx;exact jac hp xs[i] vs[i] (hr i _ _ (aa hi) (aa (by omega)))
 | .func k xs,v,h=>by
  obtain ⟨vs,rfl,hl,hr⟩:=h.inv_func;simp only [V.ids,Jc,ax];intro x hx;obtain ⟨i,hi,rfl⟩:=aR hx;have hsz:SizeOf.sizeOf xs[i]<SizeOf.sizeOf xs:=List.sizeOf_lt_of_mem hx;exact jac hp xs[i] vs[i] (hr i _ _ (aa hi) (aa (by omega)))
 | .meth k x,v,h=>by
  obtain ⟨u,rfl,hr⟩:=h.inv_meth;simp only [V.ids];exact jac hp x u hr
 | .slice o off len,v,h=>by
  simp only [V.ids];cases h with
  | imm h=>cases h
  | sliceDead _ _ _ _ h1 h2=>exact hp o (by rw [h1]; exact Loc.noConfusion)
  | sliceVoid _ _ a h1=>exact hp o (by rw [h1]; exact Loc.noConfusion)
  | slice _ _ _ b base s n cap a h1 hc hcm ha=>exact hp o (by rw [h1]; exact Loc.noConfusion)
 | .ptr o off,v,h=>by
  simp only [V.ids];cases h with
  | imm h=>cases h
  | ptrDead _ _ _ h1 h2=>exact hp o (by rw [h1]; exact Loc.noConfusion)
  | ptr _ _ b base s n h1=>exact hp o (by rw [h1]; exact Loc.noConfusion)
 | .map o,v,h=>by
  simp only [V.ids];cases h with
  | imm h=>cases h
  | mapDead _ _ h1 h2=>exact hp o (by rw [h1]; exact Loc.noConfusion)
  | map _ b h1=>exact hp o (by rw [h1]; exact Loc.noConfusion)
 | .junk,v,_=>by simp [V.ids]
 | .raw _,v,_=>by simp [V.ids]
 | .bool _,v,h | .int _ _,v,h | .str _,v,h | .nils,v,h | .nilp,v,h | .nilf,v,h | .nilm,v,h | .list _,v,h | .ref _,v,h=>by simp [V.ids]
structure Store.Wf (S:Store):Prop where
 gone : ∀ o,S.nx<=o->S.get o=none
 ids : ∀ o c,S.get o=some c->V.idsL (fun o=>decide (o<S.nx)) c.2=true
theorem Holds.wf {S:Store} {m:Imm} {β:Objs} {w:World} (h:Holds S m β w):S.Wf:=by
 refine ⟨h.gone,fun o c hc => ?_⟩;have hp : ∀ o,β o ≠ .fresh->(fun o=>decide (o<S.nx)) o=true:=by
  intro o ho;simp only [ai];rcases bc o S.nx with hl | hl
  .exact hl
  .exact absurd ((h.fresh o).2 hl) ho
 have hl:=h.live o c hc;simp only [Jc,ax];intro x hx;obtain ⟨i,hi,rfl⟩:=aR hx;cases hβ:β o with
 | fresh=>rw [hβ] at hl; exact hl.elim
 | dead=>rw [hβ] at hl; exact hl.elim
 | void=>rw [hβ] at hl; simp only [Live] at hl; rw [hl] at hi; simp at hi
 | lies b' base s n =>
  rw [hβ] at hl;obtain ⟨h0,arr,T,h1,h2,h3,h4⟩:=hl;obtain ⟨v,_,hr,_⟩:=h4 i _ (aa hi);exact jac hp _ v hr
 | mp b' =>
  rw [hβ] at hl;obtain ⟨es,clock,h1,h2,h3⟩:=hl;have hi2:i<es.size:=by omega
  obtain ⟨k,v,e1,e2,e3⟩:=h3 i _ es[i] (aa hi) (Array.getElem?_eq_getElem hi2);rw [e1];simp only [V.ids,V.idsL,Bool.and_true,ae];exact ⟨jac hp k _ (.imm e2),jac hp v _ e3⟩
section
variable {P:Program} {S:Store}
theorem jcR {f:FuncId} {args:List V} {R:V->Store->Prop} (h:S.Wf->VCalls P f args S R):VCalls P f args S R :=
 fun m β w vs hS hr=>h hS.wf m β w vs hS hr
theorem Km {f:FuncId} {args:List V} {R:V->Store->Prop} (h:VCalls P f args S fun r S1 => ∃ x' S',GhostB S.nx r S1 x' S'/\R x' S'):VCalls P f args S R:=by
 intro m β w vs hS hr;refine (h m β w vs hS hr).mono ?_;rintro e w' ⟨v,x,S1,m1,β1,he,⟨x',S',hg,hR⟩,h1,h2,h3⟩;obtain ⟨m2,β2,g1,g2,g3⟩:=hg m1 β1 w' v h2 h1;have k:=(h3.toB S.nx).trans g2;exact ⟨v,x',S',m2,β2,he,hR,g3,g1,⟨k.imm,fun o ho=>k.step o (by
  rcases bc o S.nx with hl | hl
  .exact hl
  .exact absurd ((hS.fresh o).2 hl) ho) ho,k.size,k.keep,k.os,k.tape,k.output⟩⟩
end
def lid (n k:Nat):Nat:=n+k
abbrev Upds:=List (Nat × Option (Nat × List V))
def uGet:Upds->Nat->Option (Nat × List V)->Option (Nat × List V)
 | [],_,d=>d
 | (k,c)::r,o,d=>if o=k then c else uGet r o d
def uSet:Upds->Nat->Option (Nat × List V)->Upds
 | [],o,c=>[(o,c)]
 | (k,c')::r,o,c=>if o=k then (k,c)::r else (k,c')::uSet r o c
theorem ad6 (u:Upds) (o:Nat) (c:Option (Nat × List V)) (o':Nat) (d:Option (Nat × List V)):uGet (uSet u o c) o' d=if o'=o then c else uGet u o' d:=by
 induction u with
 | nil=>simp [uSet,uGet]
 | cons p r ih =>
  obtain ⟨k,c'⟩:=p;simp only [uSet];split
  .rename_i h; subst h; simp only [uGet]; split<;>simp_all
  .simp only [uGet,ih]; split
   .rename_i h1 h2; subst h2; rw [if_neg (fun e=>h1 e.symm)]
   .rfl
def St (B:Store) (u:Upds) (l:OL):Store:=⟨fun o=>if o<B.nx then uGet u o (B.get o) else (l[o-B.nx]?).join,lid B.nx l.length⟩
theorem jh {B:Store} (h:B.Wf):St B [] []=B:=by
 refine Store.ext' (funext fun o => ?_) rfl;simp only [St,uGet];split
 .rfl
 .rw [h.gone o (by omega)]; rfl
section
variable {B:Store} {u:Upds} {l:OL} {n k:Nat} {c:Nat × List V}
theorem jH:(St B u l).nx=lid B.nx l.length:=by simp [St]
theorem zj (o:Nat):(St B u l).get o=if o<B.nx then uGet u o (B.get o) else (l[o-B.nx]?).join:=rfl
theorem jdY (S:Store) (c:Nat × List V) (o:Nat):(S.add c).get o=if o=S.nx then some c else S.get o:=rfl
theorem jQ (S:Store) (o':Nat) (c:Nat × List V) (o:Nat):(S.upd o' c).get o=if o=o' then some c else S.get o:=rfl
theorem ZU (S:Store) (o':Nat) (o:Nat):(S.del o').get o=if o=o' then none else S.get o:=rfl
theorem Yo:(St B u l).get (lid B.nx k)=(l[k]?).join:=by
 rw [zj,if_neg (by simp [lid])]; simp [lid]
theorem jk {o:Nat} (h:o<B.nx):(St B u l).get o=uGet u o (B.get o):=by rw [zj,if_pos h]
theorem qT:(St B u l).add c=St B u (l++[some c]):=by
 refine Store.ext' (funext fun o => ?_) (by simp [Store.add,St,lid]; omega);rw [jdY,zj,zj,jH,lid];by_cases h1:o<B.nx
 .rw [if_neg (by omega),if_pos h1,if_pos h1]
 .rw [if_neg h1,if_neg h1];by_cases h2:o=B.nx+l.length
  .rw [if_pos h2]; subst h2; simp
  .rw [if_neg h2];by_cases h3:o-B.nx<l.length
   .rw [aL h3]
   .rw [aC (by omega),aC (by simp; omega)]
theorem Yn (hk:k<l.length):(St B u l).upd (lid B.nx k) c=St B u (l.set k (some c)):=by
 refine Store.ext' (funext fun o => ?_) (by simp [Store.upd,St]);rw [jQ,zj,zj,lid];by_cases h1:o<B.nx
 .rw [if_neg (by omega),if_pos h1,if_pos h1]
 .rw [if_neg h1,if_neg h1];by_cases h2:o=B.nx+k
  .rw [if_pos h2]; subst h2; simp [hk]
  .rw [if_neg h2,List.getElem?_set_ne (by omega)]
theorem YQ (hk:k<l.length):(St B u l).del (lid B.nx k)=St B u (l.set k none):=by
 refine Store.ext' (funext fun o => ?_) (by simp [Store.del,St]);rw [ZU,zj,zj,lid];by_cases h1:o<B.nx
 .rw [if_neg (by omega),if_pos h1,if_pos h1]
 .rw [if_neg h1,if_neg h1];by_cases h2:o=B.nx+k
  .rw [if_pos h2]; subst h2; simp [hk]
  .rw [if_neg h2,List.getElem?_set_ne (by omega)]
theorem jT {o:Nat} (h:o<B.nx):(St B u l).upd o c=St B (uSet u o (some c)) l:=by
 refine Store.ext' (funext fun o' => ?_) rfl;rw [jQ,zj,zj,ad6];by_cases h1:o'=o
 .subst h1; simp [h]
 .simp [h1]
theorem Jv {o:Nat} (h:o<B.nx):(St B u l).del o=St B (uSet u o none) l:=by
 refine Store.ext' (funext fun o' => ?_) rfl;rw [ZU,zj,zj,ad6];by_cases h1:o'=o
 .subst h1; simp [h]
 .simp [h1]
end
def gcTo (n:Nat) (ks:List Nat) (o:Nat):Nat:=if o<n then o else lid n (ks.idxOf (o-n))
def gcOf (n L:Nat) (ks:List Nat) (o:Nat):Nat:=if o<n then o else lid n ((ks[o-n]?).getD (L+o))
def gcP (n:Nat) (ks:List Nat) (o:Nat):Bool:=decide (o<n)||ks.contains (o-n)
theorem ZA (n k:Nat) : ¬ n+k<n:=by omega
theorem aoj (n k:Nat) (ks:List Nat):gcTo n ks (lid n k)=lid n (ks.idxOf k):=by simp [gcTo,lid,ZA]
theorem jcG {n o:Nat} (ks:List Nat) (h:o<n):gcTo n ks o=o:=by simp [gcTo,h]
theorem at3 (n k:Nat) (ks:List Nat):gcP n ks (lid n k)=ks.contains k:=by simp [gcP,lid,ZA]
theorem jfW {n o:Nat} (ks:List Nat) (h:o<n):gcP n ks o=true:=by simp [gcP,h]
theorem aax {n L:Nat} {ks:List Nat} (o:Nat) (h:gcP n ks o=true):gcOf n L ks (gcTo n ks o)=o:=by
 simp only [gcP,aX,ai,List.contains_iff_mem] at h;by_cases h1:o<n
 .simp [gcTo,gcOf,h1]
 .have hm:=h.resolve_left h1;have hi:ks.idxOf (o-n)<ks.length:=List.idxOf_lt_length_iff.2 hm;simp [gcTo,gcOf,h1,lid,hi,ZA];omega
def gcE (n:Nat) (ks:List Nat) (c:Option (Nat × List V)):Option (Nat × List V):=c.map fun c=>(c.1,V.renL (gcTo n ks) c.2)
def gcOkE (n:Nat) (ks:List Nat):Option (Nat × List V)->Bool
 | some c=>V.idsL (gcP n ks) c.2
 | none=>true
def gcL (n:Nat) (ks:List Nat) (l:OL):List Nat->OL
 | []=>[]
 | k::r=>gcE n ks ((l[k]?).join)::gcL n ks l r
def jco (n:Nat) (ks:List Nat) (l:OL):List Nat->Bool
 | []=>true
 | k::r=>decide (k<l.length)&&gcOkE n ks ((l[k]?).join)&&jco n ks l r
def gcU (n:Nat) (ks:List Nat):Upds->Upds
 | []=>[]
 | (k,c)::r=>(k,gcE n ks c)::gcU n ks r
def ZO (n:Nat) (ks:List Nat):Upds->Bool
 | []=>true
 | (k,c)::r=>gcOkE n ks c&&ZO n ks r
theorem ags (n:Nat) (ks:List Nat) (l:OL) : ∀ r,gcL n ks l r=r.map fun k=>gcE n ks ((l[k]?).join)
 | []=>rfl
 | k::r=>by simp [gcL,ags n ks l r]
theorem jeO {n:Nat} {ks:List Nat} {l:OL} : ∀ {r},jco n ks l r=true -> ∀ k∈r,k<l.length/\gcOkE n ks ((l[k]?).join)=true
 | [],_=>by simp
 | k::r,h=>by
  simp only [jco,ae,ai] at h;intro k' hk';rcases aE.1 hk' with rfl | hm
  .exact h.1
  .exact jeO h.2 k' hm
def renF (f:Nat->Nat):Fr->Fr
 | []=>[]
 | (t,x)::r=>(t,x.ren f)::renF f r
def idsF (p:Nat->Bool):Fr->Bool
 | []=>true
 | (t,x)::r=>x.ids p&&idsF p r
theorem aa6 {f g:Nat->Nat} {p:Nat->Bool} (h : ∀ o,p o=true->g (f o)=o) : ∀ (σ:Fr),idsF p σ=true -> ∀ t,σ.lk t=((renF f σ).lk t).ren g
 | [],_,t=>by simp [renF,Fr.lk,V.ren]
 | (k,x)::r,hx,t=>by
  simp only [idsF,ae] at hx;simp only [renF,Fr.lk];split
  .rw [Wz h x hx.1]
  .exact aa6 h r hx.2 t
mutual
theorem ajf : ∀ x:V,x.ren (fun o=>o)=x
 | .agg xs=>by simp only [V.ren,aaj xs]
 | .tuple xs=>by simp only [V.ren,aaj xs]
 | .func k xs=>by simp only [V.ren,aaj xs]
 | .meth k x=>by simp only [V.ren,ajf x]
 | .slice o off len=>by simp only [V.ren]
 | .ptr o off=>by simp only [V.ren]
 | .map o=>by simp only [V.ren]
 | .bool _ | .int _ _ | .str _ | .nils | .nilp | .nilf | .nilm | .list _ | .ref _ | .raw _ | .junk=>by simp only [V.ren]
theorem aaj : ∀ xs:List V,V.renL (fun o=>o) xs=xs
 | []=>by simp only [V.renL]
 | x::xs=>by simp only [V.renL,ajf x,aaj xs]
end
theorem aao {f:Nat->Nat} {p:Nat->Bool} (h : ∀ o,p o=true->f o=o) (x:V) (hx:x.ids p=true):x.ren f=x:=by
 have k:=Wz (f:=fun o=>o) (g:=f) (p:=p) h x hx;rw [ajf] at k;exact k
theorem adg {B:Store} {ks:List Nat} {L:Nat} {c d:Option (Nat × List V)} (h:gcOkE B.nx ks c=true) {e:Nat × List V} (he:gcE B.nx ks c=some e):c=some (e.1,V.renL (gcOf B.nx L ks) e.2):=by
 cases c with
 | none=>simp [gcE] at he
 | some c =>
  simp only [gcE,aW,ar] at he;subst he;simp only;rw [am9 (p:=gcP B.nx ks) (fun o ho=>aax o ho) c.2 h]
theorem agy (n:Nat) (ks:List Nat) (o:Nat) (d d':Option (Nat × List V)) : ∀ u:Upds,ZO n ks u=true->(uGet (gcU n ks u) o d'=d'/\uGet u o d=d) \/ ∃ c,gcOkE n ks c=true/\uGet u o d=c/\uGet (gcU n ks u) o d'=gcE n ks c
 | [],_ => .inl ⟨rfl,rfl⟩
 | (k,c)::r,h=>by
  simp only [ZO,ae] at h;simp only [gcU,uGet];by_cases e:o=k
  .rw [if_pos e,if_pos e]; exact .inr ⟨c,h.1,rfl,rfl⟩
  .rw [if_neg e,if_neg e]; exact agy n ks o d d' r h.2
theorem afg {B:Store} {ks:List Nat} {u:Upds} {l:OL} (hw:B.Wf) (h1:ks.Nodup) (h2:ZO B.nx ks u=true) (h3:jco B.nx ks l ks=true) :
  RenS (gcOf B.nx l.length ks) B.nx (St B u l) (St B (gcU B.nx ks u) (gcL B.nx ks l ks)):=by
 have h3:=jeO h3;rw [ags];have hf : ∀ j (hj:j<ks.length),gcOf B.nx l.length ks (lid B.nx j)=lid B.nx ks[j]:=fun j hj=>by simp [gcOf,lid,hj,ZA]
 have ho : ∀ o,o<B.nx->gcOf B.nx l.length ks o=o:=fun o h=>by simp [gcOf,h]
 refine ⟨fun o c hc => ?_,fun o o' hs hs' he => ?_,fun o hle => ?_,ho,by simp [St,lid]⟩
 .by_cases h:o<B.nx
  .rw [jk h] at hc;rw [ho o h,jk h];refine ⟨by simp [St,lid]; omega, ?_⟩;rcases agy B.nx ks o (B.get o) (B.get o) u h2 with ⟨e1,e2⟩ | ⟨d,e1,e2,e3⟩
   .rw [e1] at hc;rw [e2,hc];have:=hw.ids o c hc;simp only [Jc,ax] at this;rw [zy,(aP fun x hm=>aao (fun o h=>ho o (by simpa using h)) x (this x hm)).trans (List.map_id _)]
   .rw [e3] at hc;rw [e2];exact adg (d:=none) e1 hc
  .have hk:o=lid B.nx (o-B.nx):=by simp [lid]; omega
   generalize o-B.nx=j at hk;subst hk;rw [Yo] at hc;simp only [aQ] at hc;cases hj:ks[j]? with
   | none=>simp [hj] at hc
   | some k =>
    obtain ⟨hlt,hke⟩:=ab.1 hj;subst hke;simp only [hj,aW,Option.join_some] at hc;refine ⟨by simp [St,lid,hlt], ?_⟩;rw [hf j hlt,Yo];exact adg (d:=none) (h3 _ (ah hlt)).2 hc
 .have cs : ∀ o,((St B (gcU B.nx ks u) (ks.map fun k=>gcE B.nx ks ((l[k]?).join))).get o).isSome=true->o<B.nx \/ ∃ j, ∃ hj:j<ks.length,o=lid B.nx j:=by
   intro o hs;by_cases h:o<B.nx
   .exact .inl h
   .have hk:o=lid B.nx (o-B.nx):=by simp [lid]; omega
    refine .inr ⟨o-B.nx, ?_,hk⟩;rw [hk,Yo,aQ] at hs;cases hj:ks[o-B.nx]? with
    | none=>simp [hj] at hs
    | some k=>exact (ab.1 hj).1
  rcases cs o hs with c1 | ⟨j,hj,rfl⟩
  .rcases cs o' hs' with d1 | ⟨j',hj',rfl⟩
   .rw [ho o c1,ho o' d1] at he; exact he
   .rw [ho o c1,hf j' hj'] at he; simp [lid] at he; omega
  .rcases cs o' hs' with d1 | ⟨j',hj',rfl⟩
   .rw [ho o' d1,hf j hj] at he; simp [lid] at he; omega
   .rw [hf j hj,hf j' hj'] at he;have:ks[j]=ks[j']:=by simpa [lid] using he
    rw [(List.getElem_inj h1).1 this]
 .simp only [St,lid,aB] at hle ⊢;have : ¬ o<B.nx:=by omega
  simp [gcOf,this,lid,aC (show ks.length<=o-B.nx by omega)]
  try omega
theorem Reach.gc {N:Nat} {B:Store} {u u':Upds} {l l':OL} {σ σ':Fr} (ks:List Nat) (hw:B.Wf) (h1:ks.Nodup) (h2:(ZO B.nx ks u&&jco B.nx ks l ks&&idsF (gcP B.nx ks) σ)=true)
  (hu:gcU B.nx ks u=u') (hl:gcL B.nx ks l ks=l') (hσ:renF (gcTo B.nx ks) σ=σ'):Reach N B.nx σ (St B u l) σ' (St B u' l'):=by
 simp only [ae] at h2;subst hu; subst hl; subst hσ;exact Reach.ren (afg hw h1 h2.1.1 h2.1.2) (aa6 (fun o ho=>aax o ho) σ h2.2)
theorem GhostB.done {B S':Store} {u:Upds} {l:OL} {x:V} (hw:B.Wf) (hx:x.ids (fun o=>decide (o<B.nx))=true) (hu:ZO B.nx [] u=true) (hS:St B (gcU B.nx [] u) []=S'):GhostB B.nx x (St B u l) x S':=by
 subst hS;have h:=afg (ks:=[]) (l:=l) hw List.nodup_nil hu rfl;exact GhostB.ren h (aao (fun o ho=>h.fix o (by simpa using ho)) x hx).symm
end Go.Vw
namespace Go.Vw
open Go.RowKit
def jf (f:Func):Code:=f.body.getD .skip
def Code.fst:Code->Code | .seq a _=>a | c=>c
def Code.snd:Code->Code | .seq _ b=>b | c=>c
def Code.inner:Code->Code | .block _ c=>c | .loop c=>c | .scope c=>c | c=>c
def Code.thn:Code->Code | .cond _ a _=>a | c=>c
def Code.els:Code->Code | .cond _ _ b=>b | c=>c
def Code.test:Code->Operand | .cond c _ _=>c | _ => .func 0
def Code.ops:Code->Array Oper | .region _ ops _=>ops | _ => #[]
def Code.kind:Code->Nat
 | .skip=>0 | .region _ _ false=>1 | .region _ _ true=>2 | .seq _ _=>3 | .cond _ _ _=>4 | .block _ _=>5 | .loop _=>6 | .exit _=>7 | .ret=>8 | .scope _=>9 | .label _=>10 | _=>11
def Code.id:Code->Nat | .block i _=>i | .exit i=>i | _=>0
def vsegO (P:Program) (z:Option ZZ) (o:Option (List CO)) (K:Fr->Store->Prop) (σ:Fr) (S:Store):Prop :=
 match o with
 | some cs=>qy P z cs K σ S
 | none=>False
section
variable {P:Program} {N b:Nat} {Q:Exit->Fr->Store->Prop} {σ:Fr} {S:Store} {c:Code}
theorem jfj (h:Code.kind c=3) (H:VWp P N b (Code.fst c) (jaa (VWp P N b (Code.snd c) Q) Q) σ S):VWp P N b c Q σ S:=by
 cases c<;>first | exact au8 H | (simp [Code.kind] at h; done) | (rename_i d; cases d<;>simp [Code.kind] at h)
theorem aie (id:Nat) (h:Code.kind c=5) (hi:Code.id c=id) (H:VWp P N b (Code.inner c) (YB id Q) σ S):VWp P N b c Q σ S:=by
 cases c<;>first | (simp only [Code.id] at hi; subst hi; exact ap7 H) | (simp [Code.kind] at h; done) | (rename_i d; cases d<;>simp [Code.kind] at h)
theorem aba (id:Nat) (h:Code.kind c=7) (hi:Code.id c=id) (H:Q (.exit id) σ S):VWp P N b c Q σ S:=by
 cases c<;>first | (simp only [Code.id] at hi; subst hi; exact aug H) | (simp [Code.kind] at h; done) | (rename_i d; cases d<;>simp [Code.kind] at h)
theorem ada (h:Code.kind c=8) (H:Q .ret σ S):VWp P N b c Q σ S:=by
 cases c<;>first | exact avj H | (simp [Code.kind] at h; done) | (rename_i d; cases d<;>simp [Code.kind] at h)
theorem Kl (h:Code.kind c=0) (H:Q .normal σ S):VWp P N b c Q σ S:=by
 cases c<;>first | exact atv H | (simp [Code.kind] at h; done) | (rename_i d; cases d<;>simp [Code.kind] at h)
theorem af1 (h:Code.kind c=1) (H:vsegO P none (qj P N (Code.ops c)) (Q .normal) σ S):VWp P N b c Q σ S:=by
 cases c with
 | region id ops d =>
  cases d
  .simp only [Code.ops] at H;cases hc:qj P N ops with
   | none=>rw [hc] at H; exact H.elim
   | some cs=>rw [hc] at H; exact alb hc (WV cs σ S H)
  .simp [Code.kind] at h
 | _=>simp [Code.kind] at h
theorem ajx (Z:ZZ) (h:Code.kind c=2) (hm:P.follows .mixedOrders=true) (hB:lexW Z.es (zX (Code.ops c)) (Code.ops c) ((qj P N (Code.ops c)).getD []) ((qj P N (Code.ops c)).getD []).length 0 (Array.replicate (Code.ops c).size false)=true)
  (hE:JW (zX (Code.ops c)) ((qj P N (Code.ops c)).getD []) Z.es=true) (hz:Z.ok S) (h0:Z.z0.Sub S) (H:vsegO P (some Z) (qj P N (Code.ops c)) (Q .normal) σ S):VWp P N b c Q σ S:=by
 cases c with
 | region id ops d =>
  cases d
  .simp [Code.kind] at h
  .simp only [Code.ops] at H hB hE;cases hc:qj P N ops with
   | none=>rw [hc] at H; exact H.elim
   | some cs =>
    rw [hc] at H hB hE;exact jeb hm hc hB hE hz h0 (KT cs σ S H)
 | _=>simp [Code.kind] at h
theorem Store.sub_refl (S:Store):S.Sub S:=fun _ _ h=>h
theorem ZZ.plain_ok (S:Store):(ZZ.plain S).ok S:=⟨S.sub_refl,S.sub_refl.shp⟩
theorem nr {α:Sort _} {a b:α} (h:a=b):a=b:=by cases h; rfl
def vcond (v:V) (A B:Prop):Prop :=
 match v with
 | .bool t=>(t=true->A)/\(t=false->B)
 | _=>False
theorem abe (h:Code.kind c=4) {z:Arg} (hz:jC (Code.test c)=some z) (H:vcond (ev σ z) (VWp P N b (Code.thn c) Q σ S) (VWp P N b (Code.els c) Q σ S)):VWp P N b c Q σ S:=by
 cases c with
 | cond t x y =>
  simp only [vcond] at H;split at H
  .rename_i b hb; exact auv hz hb H.1 H.2
  .exact H.elim
 | region id ops d=>cases d<;>simp [Code.kind] at h
 | _=>simp [Code.kind] at h
def zI (N b:Nat) (I:Nat->Fr->Store->Prop) (ks:List Nat) (n:Nat) (σ:Fr) (S:Store):Prop := ∃ n',n'<n /\ ∃ σc Sc,Reach N b (σ.oy ks) S σc Sc/\I n' σc Sc
theorem again {N b:Nat} {I:Nat->Fr->Store->Prop} {ks:List Nat} {n n':Nat} {σ:Fr} {S:Store} (h:n'<n/\I n' (σ.oy ks) S):zI N b I ks n σ S:=⟨n',h.1,_,_,Reach.refl _ _,h.2⟩
theorem js (ks:List Nat) (h:Code.kind c=6) (I:Nat->Fr->Store->Prop) (n0:Nat) (h0:I n0 (σ.oy ks) S)
  (round : ∀ n σ S,I n σ S->VWp P N b (Code.inner c) (jaa (zI N b I ks n) Q) σ S):VWp P N b c Q σ S:=by
 cases c with
 | loop x=>exact as0 ks I n0 h0 round
 | region id ops d=>cases d<;>simp [Code.kind] at h
 | _=>simp [Code.kind] at h
end
section
variable (K:Fr->Store->Prop) (Q:Exit->Fr->Store->Prop) (i j:Nat) (σ:Fr) (S:Store)
end
def opPick:V->V->V->Option V
 | .bool t,x,y=>some (if t then x else y)
 | _,_,_=>none
def opBox (S:Store) (x:V):Option (V × Store):=if x.cells.all V.one then some (.ptr S.nx 0,S.add (x.ncells,x.cells)) else none
def opNil (S:Store):V->Option V
 | .ptr o p=>if (S.get o).isSome=true then some (.ptr o p) else none
 | .ref y=>some (.ref y)
 | _=>none
def opConv (k:IntKind):V->Option V
 | .int _ n=>some (.int k (k.wrap n))
 | _=>none
def opLenS:V->Option V
 | .str s=>some (.int .i64 s.size)
 | _=>none
def jaJ (i:Nat):V->Option V
 | .tuple xs=>xs[i]?
 | _=>none
section
variable (P:Program) (z:Option ZZ) (r:List CO) (K:Fr->Store->Prop) (σ:Fr) (S:Store) (d:Option Nat)
def vcall (P:Program) (z:Option ZZ) (f:FuncId) (args:List V) (S:Store) (r:List CO) (K:Fr->Store->Prop) (σ:Fr) (d:Option Nat):Prop:=jcS P z d f args S fun v S'=>qy P z r K (σ.put d v) S'
theorem agq (f:FuncId) (args:List Arg):qy P z (⟨d,none, .call f args⟩::r) K σ S=vcall P z f (args.map (ev σ)) S r K σ d:=nr rfl
def vcallv (P:Program) (z:Option ZZ) (f:V) (args:List V) (S:Store) (r:List CO) (K:Fr->Store->Prop) (σ:Fr) (d:Option Nat):Prop :=
 match f with
 | .func g caps=>jE P g=true/\vcall P z g (args++caps) S r K σ d
 | _=>False
theorem arc (f:Arg) (args:List Arg):qy P z (⟨d,none, .callv f args⟩::r) K σ S=vcallv P z (ev σ f) (args.map (ev σ)) S r K σ d:=by
 simp only [qy,vopG,vcallv];cases ev σ f<;>rfl
def vguard (v:V) (want:Bool) (A B:Prop):Prop :=
 match v with
 | .bool b=>if b=want then A else B
 | .tuple []=>B
 | _=>False
variable {P} {z} {r} {K} {σ} {S} {d}
def noW:Option ZZ->Option Nat->Bool
 | none,_=>true
 | some z,d => !wrcL z.es d
theorem VPure.call {f:FuncId} {args:List V} {X:V} (h:VPure P f args X) (hk:qy P z r K (σ.put d X) S) (hz:noW z d=true):vcall P z f args S r K σ d:=by
 cases z with
 | none=>exact h.use hk
 | some Z =>
  have hw : ¬ wrcL Z.es d=true:=by simpa [noW] using hz
  show jcS P (some Z) d f args S _;simp only [jcS];rw [if_neg hw];exact ⟨X,h.toZ _,hk⟩
end
def COp.isCall:COp->Bool
 | .call _ _ | .callv _ _ | .panic _=>true
 | _=>false
def runV (z:Option ZZ):List CO->Fr->Store->Option (List CO × Fr × Store)
 | [],σ,S=>some ([],σ,S)
 | o::r,σ,S=>match o.guard with
  | some (t,want)=>match σ.lk t with
   | .bool b=>if b=want then
     (if o.op.isCall=true\/(o.op.reader=false/\z.isSome=true) then some (⟨o.dst,none,o.op⟩::r,σ,S) else match jg (ev σ) (if o.op.reader=true then rd z o.dst o.op S else S) o.op with
      | some (v,S')=>runV z r (σ.put o.dst v) (if o.op.reader=true then S else S')
      | none=>none)
    else runV z r (σ.put o.dst (.tuple [])) S
   | .tuple []=>runV z r (σ.put o.dst (.tuple [])) S
   | _=>none
  | none=>if o.op.isCall=true\/(o.op.reader=false/\z.isSome=true) then some (⟨o.dst,none,o.op⟩::r,σ,S) else match jg (ev σ) (if o.op.reader=true then rd z o.dst o.op S else S) o.op with
   | some (v,S')=>runV z r (σ.put o.dst v) (if o.op.reader=true then S else S')
   | none=>none
theorem anm {P:Program} {z:Option ZZ} {σ:Fr} {S:Store} {d:Option Nat} {op:COp} {k:V->Store->Prop} {v:V} {S':Store} (hc : ¬ (op.isCall=true\/(op.reader=false/\z.isSome=true)))
  (he:jg (ev σ) (if op.reader=true then rd z d op S else S) op=some (v,S')) (hk:k v (if op.reader=true then S else S')):vopG P z σ S d op k:=by
 have h1:op.isCall=false:=by cases h:op.isCall<;>simp_all
 by_cases hr:op.reader=true
 .rw [if_pos hr] at he hk;cases op<;>first | (simp [COp.isCall] at h1; done) | (simp [COp.reader] at hr; done) | (simp only [vopG,COp.reader,if_true,he]; exact hk)
 .have hz:z=none:=by
   cases z with
   | none=>rfl
   | some Z=>exact absurd (.inr ⟨by simpa using hr,rfl⟩) hc
  subst hz;rw [if_neg hr] at he hk;cases op<;>first | (simp [COp.isCall] at h1; done) | (simp [COp.reader] at hr; done) | (simp only [vopG,COp.reader,ay,if_false,he]; exact ⟨trivial,hk⟩)
theorem KW {P:Program} {z:Option ZZ} {K:Fr->Store->Prop} {rest:List CO} {σ':Fr} {S':Store} : ∀ (cs:List CO) (σ:Fr) (S:Store),runV z cs σ S=some (rest,σ',S')->qy P z rest K σ' S'->qy P z cs K σ S
 | [],σ,S,h,hk=>by simp only [runV,ar,Prod.mk.injEq] at h; obtain ⟨rfl,rfl,rfl⟩:=h; exact hk
 | o::r,σ,S,h,hk=>by
  have go:(if o.op.isCall=true\/(o.op.reader=false/\z.isSome=true) then some (⟨o.dst,none,o.op⟩::r,σ,S) else match jg (ev σ) (if o.op.reader=true then rd z o.dst o.op S else S) o.op with
      | some (v,S')=>runV z r (σ.put o.dst v) (if o.op.reader=true then S else S')
      | none=>none)=some (rest,σ',S')->vopG P z σ S o.dst o.op fun v S'=>qy P z r K (σ.put o.dst v) S':=by
   intro h;split at h
   .simp only [ar,Prod.mk.injEq] at h;obtain ⟨rfl,rfl,rfl⟩:=h;simpa only [qy] using hk
   .rename_i hc;split at h
    .rename_i v S1 hv;exact anm hc hv (KW r _ _ h hk)
    .cases h
  simp only [runV] at h;simp only [qy];cases hg:o.guard with
  | none=>simp only [hg] at h; exact go h
  | some tw =>
   obtain ⟨t,want⟩:=tw;simp only [hg] at h;simp only;cases hv:σ.lk t with
   | bool b =>
    simp only [hv] at h;simp only;split at h
    .rename_i hb; rw [if_pos hb]; exact go h
    .rename_i hb; rw [if_neg hb]; exact KW r _ _ h hk
   | tuple xs =>
    cases xs with
    | nil=>simp only [hv] at h; exact KW r _ _ h hk
    | cons=>simp [hv] at h
   | _=>simp [hv] at h
section
variable {P:Program} {N b:Nat} {Q:Exit->Fr->Store->Prop} {σ σ':Fr} {S S':Store} {c:Code} {cs rest:List CO}
theorem jbW (h:Code.kind c=1) (hc:qj P N (Code.ops c)=some cs) (hr:runV none cs σ S=some (rest,σ',S')) (H:qy P none rest (Q .normal) σ' S'):VWp P N b c Q σ S :=
 af1 h (by rw [hc]; exact KW cs σ S hr H)
theorem jer (Z:ZZ) (h:Code.kind c=2) (hm:P.follows .mixedOrders=true) {ms:List Nat} (hM:zX (Code.ops c)=ms) (hc:qj P N (Code.ops c)=some cs) (hB:lexW Z.es ms (Code.ops c) cs cs.length 0 (Array.replicate (Code.ops c).size false)=true)
  (hE:JW ms cs Z.es=true) (hz:Z.ok S) (h0:Z.z0.Sub S) (hr:runV (some Z) cs σ S=some (rest,σ',S')) (H:qy P (some Z) rest (Q .normal) σ' S'):VWp P N b c Q σ S :=
 ajx Z h hm (by rw [hc,hM]; exact hB) (by rw [hc,hM]; exact hE) hz h0 (by rw [hc]; exact KW cs σ S hr H)
theorem afj (ms:List Nat) (cs:List CO):JW ms cs []=true:=by
 simp only [JW,ax];intro i _;split
 .rename_i oi _; cases oi.dst<;>simp
 .rfl
theorem jbX (h:Code.kind c=2) (hm:P.follows .mixedOrders=true) {ms:List Nat} (hM:zX (Code.ops c)=ms) (hc:qj P N (Code.ops c)=some cs) (hB:lexZ ms (Code.ops c) cs cs.length 0 (Array.replicate (Code.ops c).size false)=true)
  (hr:runV (some (ZZ.plain S)) cs σ S=some (rest,σ',S')) (H:qy P (some (ZZ.plain S)) rest (Q .normal) σ' S'):VWp P N b c Q σ S :=
 jer _ h hm hM hc hB (afj _ _) (ZZ.plain_ok S) S.sub_refl hr H
theorem jes {Z:ZZ} {K:Fr->Store->Prop} {d:Option Nat} {op:COp} (hk:(op.isCall||op.reader)=false) (hr:runV none [⟨d,none,op⟩] σ S=some ([],σ',S')) (hz:Z.ok S') (H:qy P (some Z) rest K σ' S'):qy P (some Z) (⟨d,none,op⟩::rest) K σ S:=by
 have h1:op.isCall=false:=by cases h:op.isCall<;>simp_all
 have h2:op.reader=false:=by cases h:op.reader<;>simp_all
 simp only [runV,h1,h2,ay,Option.isSome_none,and_false,or_false,if_false] at hr;split at hr
 .rename_i v S1 hv;simp only [ar,Prod.mk.injEq,true_and] at hr;obtain ⟨rfl,rfl⟩:=hr;simp only [qy];cases op<;>first | (simp [COp.isCall] at h1; done) | (simp [COp.reader] at h2; done) | (simp only [vopG,COp.reader,ay,if_false,hv]; exact ⟨hz,H⟩)
 .cases hr
theorem ab3 {z:Option ZZ} {K:Fr->Store->Prop} (h:K σ S):qy P z [] K σ S:=h
theorem jcP {z:Option ZZ} {K:Fr->Store->Prop} (hr:runV z cs σ S=some (rest,σ',S')) (H:qy P z rest K σ' S'):qy P z cs K σ S:=KW cs σ S hr H
theorem jct (h:Code.kind c=4) {z:Arg} (hz:jC (Code.test c)=some z) (hv:ev σ z = .bool true) (hx:VWp P N b (Code.thn c) Q σ S):VWp P N b c Q σ S :=
 abe h hz (by rw [hv]; exact ⟨fun _=>hx,(fun ht=>by cases ht)⟩)
theorem Zn (h:Code.kind c=4) {z:Arg} (hz:jC (Code.test c)=some z) (hv:ev σ z = .bool false) (hx:VWp P N b (Code.els c) Q σ S):VWp P N b c Q σ S :=
 abe h hz (by rw [hv]; exact ⟨(fun ht=>by cases ht),fun _=>hx⟩)
theorem aot (ks:List Nat) (hk:σ.oy ks=σ') (H:VWp P N b c Q σ' S):VWp P N b c Q σ S:=au1 ks (by rw [hk]; exact H)
theorem jA {z:Option ZZ} {K:Fr->Store->Prop} {d:Option Nat} {f:FuncId} {args:List Arg} {xs:List V} {r:List CO} {X:V} (ha:args.map (ev σ)=xs) (h:VPure P f xs X) (H:qy P z r K (σ.put d X) S) (hz:noW z d=true:=by rfl):qy P z (⟨d,none, .call f args⟩::r) K σ S:=by
 rw [agq,ha]; exact h.call H hz
theorem zh {z:Option ZZ} {K:Fr->Store->Prop} {d:Option Nat} {g:FuncId} {caps:List V} {fz:Arg} {args:List Arg} {xs:List V} {r:List CO} {X:V} (hf:ev σ fz = .func g caps) (hc:jE P g=true) (ha:args.map (ev σ)++caps=xs) (h:VPure P g xs X) (H:qy P z r K (σ.put d X) S) (hz:noW z d=true:=by rfl):qy P z (⟨d,none, .callv fz args⟩::r) K σ S:=by
 rw [arc,hf]; simp only [vcallv]; rw [ha]; exact ⟨hc,h.call H hz⟩
end
section
variable (z:Option ZZ) (r:List CO) (σ:Fr) (S:Store) (d:Option Nat)
def rval (z:Option ZZ) (v:Option V) (r:List CO) (σ:Fr) (S:Store) (d:Option Nat):Option (List CO × Fr × Store) :=
 match v with
 | some v=>runV z r (σ.put d v) S
 | none=>none
def rnew (v:Option (V × Store)) (r:List CO) (σ:Fr) (d:Option Nat):Option (List CO × Fr × Store) :=
 match v with
 | some (v,S')=>runV none r (σ.put d v) S'
 | none=>none
theorem alp (v:V):rval z (some v) r σ S d=runV z r (σ.put d v) S:=nr rfl
theorem aj4 (v:V) (S':Store):rnew (some (v,S')) r σ d=runV none r (σ.put d v) S':=nr rfl
theorem asp (op:COp) (S':Store):rd none d op S'=S':=nr rfl
theorem apq (op:COp) (Z S':Store):rd (some (ZZ.plain Z)) d op S'=Z:=nr (by
 simp only [rd,ZZ.rd,ZZ.plain];cases d<;>simp [ZZ.early])
theorem auk (op:COp) (z0 zc zs S':Store) (es:List Nat) (t:Nat):rd (some ⟨z0,zc,zs,es⟩) (some t) op S'=if es.contains t=true then z0 else if op.shape=true then zs else zc:=nr rfl
theorem acj (s:Nat) (x i:Arg):(COp.indexAddr s x i).shape=true:=nr rfl
theorem adz (o:Nat) (s:Option Nat) (x:Arg):(COp.fieldAddr o s x).shape=true:=nr rfl
theorem afq (x:Arg):(COp.nilCheck x).shape=true:=nr rfl
theorem au6 (x:Arg):(COp.len x).shape=true:=nr rfl
theorem ann (s:Nat) (x:Arg) (lo hi mx:Option Arg):(COp.slice s x lo hi mx).shape=true:=nr rfl
theorem asa (s:Option Nat) (x:Arg):(COp.load s x).shape=false:=nr rfl
theorem avt (op:BinOp) (x y:Arg):(COp.bin op x y).shape=false:=nr rfl
theorem ati:runV z [] σ S=some ([],σ,S):=nr rfl
theorem zk (Z:Store) (v:Option V):(match v.map fun v=>(v,Z) with | some (v,_)=>runV z r (σ.put d v) S | none=>none)=rval z v r σ S d:=by cases v<;>rfl
theorem arz (f:FuncId) (args:List Arg):runV z (⟨d,none, .call f args⟩::r) σ S=some (⟨d,none, .call f args⟩::r,σ,S):=nr rfl
theorem ap2 (f:Arg) (args:List Arg):runV z (⟨d,none, .callv f args⟩::r) σ S=some (⟨d,none, .callv f args⟩::r,σ,S):=nr rfl
theorem ak9 (t:Nat) (want:Bool) (op:COp) (h:σ.lk t = .bool want):runV z (⟨d,some (t,want),op⟩::r) σ S=runV z (⟨d,none,op⟩::r) σ S:=by simp [runV,h]
theorem amt (t:Nat) (want b:Bool) (op:COp) (h:σ.lk t = .bool b) (hb:b≠want):runV z (⟨d,some (t,want),op⟩::r) σ S=runV z r (σ.put d (.tuple [])) S:=by simp [runV,h,hb]
theorem al4 (t:Nat) (want:Bool) (op:COp) (h:σ.lk t = .tuple []):runV z (⟨d,some (t,want),op⟩::r) σ S=runV z r (σ.put d (.tuple [])) S:=by simp [runV,h]
theorem ank (x:Arg):runV z (⟨d,none, .panic x⟩::r) σ S=some (⟨d,none, .panic x⟩::r,σ,S):=nr rfl
theorem asj (x:Arg):runV z (⟨d,none, .move x⟩::r) σ S=runV z r (σ.put d (ev σ x)) S:=nr rfl
theorem asl (c x y:Arg):runV z (⟨d,none, .pick c x y⟩::r) σ S=rval z (opPick (ev σ c) (ev σ x) (ev σ y)) r σ S d:=by
 simp only [runV,COp.isCall,COp.reader,jg,ay,bh,false_and,or_false,if_false,if_true];cases ev σ c<;>rfl
theorem aol (zs:List V):runV none (⟨d,none, .alloc zs⟩::r) σ S=runV none r (σ.put d (.ptr S.nx 0)) (S.add (zs.length,zs)):=nr rfl
theorem aww (x:Arg):runV none (⟨d,none, .box x⟩::r) σ S=rnew (opBox S (ev σ x)) r σ d:=nr rfl
theorem an0 (zs:List V) (ps:List (Nat × Nat × Arg)):runV z (⟨d,none, .build zs ps⟩::r) σ S=rval z ((qP (ev σ) zs ps).map .agg) r σ S d:=by
 simp only [runV,COp.isCall,COp.reader,jg,ay,bh,false_and,or_false,if_false,if_true];cases qP (ev σ) zs ps<;>rfl
theorem jfw (s len:Nat) (zs:List V) (ps:List (Nat × Nat × Arg)):runV none (⟨d,none, .buildSlice s len zs ps⟩::r) σ S=rnew ((qP (ev σ) (rep0 zs len) ps).map fun cs=>(.slice S.nx 0 len,S.add (s,cs))) r σ d:=nr rfl
theorem asq (sz:Option Nat) (x:Arg):runV z (⟨d,none, .load sz x⟩::r) σ S=rval z (Jk sz (rd z d (.load sz x) S) (ev σ x)) r σ S d:=by
 simp only [runV,COp.isCall,COp.reader,jg,ay,bh,false_and,or_false,if_false,if_true];exact zk z r σ S d (rd z d (.load sz x) S) _
theorem apr (sz:Option Nat) (p v:Arg):runV none (⟨d,none, .store sz p v⟩::r) σ S=rnew ((jbr sz S (ev σ p) (ev σ v)).map fun S'=>(.tuple [],S')) r σ d:=nr rfl
theorem agj (x:Arg):runV z (⟨d,none, .nilCheck x⟩::r) σ S=rval z (opNil (rd z d (.nilCheck x) S) (ev σ x)) r σ S d:=by
 simp only [runV,COp.isCall,COp.reader,jg,opNil,ay,bh,false_and,or_false,if_false,if_true];cases ev σ x with
 | ptr o p=>cases hs:((rd z d (.nilCheck x) S).get o).isSome<;>simp [hs,rval]
 | _=>rfl
theorem avy (op:BinOp) (x y:Arg):runV z (⟨d,none, .bin op x y⟩::r) σ S=rval z (opBin op (ev σ x) (ev σ y)) r σ S d:=by
 simp only [runV,COp.isCall,COp.reader,jg,ay,bh,false_and,or_false,if_false,if_true];exact zk z r σ S d (rd z d (.bin op x y) S) _
theorem awq (neg:Bool) (x y:Arg):runV z (⟨d,none, .beq neg x y⟩::r) σ S=rval z (opBeq neg (ev σ x) (ev σ y)) r σ S d:=by
 simp only [runV,COp.isCall,COp.reader,jg,ay,bh,false_and,or_false,if_false,if_true];exact zk z r σ S d (rd z d (.beq neg x y) S) _
theorem awy (op:UnOp) (x:Arg):runV z (⟨d,none, .un op x⟩::r) σ S=rval z (opUn op (ev σ x)) r σ S d:=by
 simp only [runV,COp.isCall,COp.reader,jg,ay,bh,false_and,or_false,if_false,if_true];exact zk z r σ S d (rd z d (.un op x) S) _
theorem ar9 (k:IntKind) (x:Arg):runV z (⟨d,none, .conv k x⟩::r) σ S=rval z (opConv k (ev σ x)) r σ S d:=by
 simp only [runV,COp.isCall,COp.reader,jg,ay,bh,false_and,or_false,if_false,if_true];cases ev σ x<;>rfl
theorem age (f:FuncId) (cs:List Arg):runV z (⟨d,none, .makeFunc f cs⟩::r) σ S=runV z r (σ.put d (.func f (cs.map (ev σ)))) S:=nr rfl
theorem aev (s b:Nat) (zs:List V) (l c:Arg):runV none (⟨d,none, .makeSlice s b zs l c⟩::r) σ S=rnew (YN s b zs S (ev σ l) (ev σ c)) r σ d:=nr rfl
theorem ao9 (s:Nat) (x:Arg) (lo hi mx:Option Arg):runV z (⟨d,none, .slice s x lo hi mx⟩::r) σ S=rval z (qN s (rd z d (.slice s x lo hi mx) S) (ev σ x) (lo.map (ev σ)) (hi.map (ev σ)) (mx.map (ev σ))) r σ S d:=by
 simp only [runV,COp.isCall,COp.reader,jg,ay,bh,false_and,or_false,if_false,if_true];exact zk z r σ S d (rd z d (.slice s x lo hi mx) S) _
theorem adv (off:Nat) (sz:Option Nat) (x:Arg):runV z (⟨d,none, .fieldAddr off sz x⟩::r) σ S=rval z (qO off sz (rd z d (.fieldAddr off sz x) S) (ev σ x)) r σ S d:=by
 simp only [runV,COp.isCall,COp.reader,jg,ay,bh,false_and,or_false,if_false,if_true];exact zk z r σ S d (rd z d (.fieldAddr off sz x) S) _
theorem ads (s:Nat) (x i:Arg):runV z (⟨d,none, .indexAddr s x i⟩::r) σ S=rval z (jz s (rd z d (.indexAddr s x i) S) (ev σ x) (ev σ i)) r σ S d:=by
 simp only [runV,COp.isCall,COp.reader,jg,ay,bh,false_and,or_false,if_false,if_true];exact zk z r σ S d (rd z d (.indexAddr s x i) S) _
theorem avb (x:Arg):runV z (⟨d,none, .len x⟩::r) σ S=rval z (Yf (rd z d (.len x) S) (ev σ x)) r σ S d:=by
 simp only [runV,COp.isCall,COp.reader,jg,ay,bh,false_and,or_false,if_false,if_true];exact zk z r σ S d (rd z d (.len x) S) _
theorem as2 (x:Arg):runV z (⟨d,none, .lenS x⟩::r) σ S=rval z (opLenS (ev σ x)) r σ S d:=by
 simp only [runV,COp.isCall,COp.reader,jg,ay,bh,false_and,or_false,if_false,if_true];cases ev σ x<;>rfl
theorem ao2 (x:Arg):runV z (⟨d,none, .toStr x⟩::r) σ S=rval z (Zd (ev σ x)) r σ S d:=by
 simp only [runV,COp.isCall,COp.reader,jg,ay,bh,false_and,or_false,if_false,if_true];exact zk z r σ S d (rd z d (.toStr x) S) _
theorem avm (neg:Bool) (x y:Arg):runV z (⟨d,none, .seq neg x y⟩::r) σ S=rval z (opSeq neg (ev σ x) (ev σ y)) r σ S d:=by
 simp only [runV,COp.isCall,COp.reader,jg,ay,bh,false_and,or_false,if_false,if_true];exact zk z r σ S d (rd z d (.seq neg x y) S) _
theorem ame (s b:Nat) (x y:Arg):runV none (⟨d,none, .append s b x y⟩::r) σ S=rnew (jB s b S (ev σ x) (ev σ y)) r σ d:=nr rfl
theorem auf (s:Nat) (x y:Arg):runV none (⟨d,none, .copy s x y⟩::r) σ S=rnew (jcc s S (ev σ x) (ev σ y)) r σ d:=nr rfl
theorem ajb (x:Arg) (i:Nat):runV z (⟨d,none, .extract x i⟩::r) σ S=rval z (jaJ i (ev σ x)) r σ S d:=by
 simp only [runV,COp.isCall,COp.reader,jg,ay,bh,false_and,or_false,if_false,if_true];cases ev σ x<;>first | rfl | exact zk z r σ S d (rd z d (.extract x i) S) _
theorem an9 (Z:ZZ) (zs:List V):runV (some Z) (⟨d,none, .alloc zs⟩::r) σ S=some (⟨d,none, .alloc zs⟩::r,σ,S):=nr rfl
theorem avp (Z:ZZ) (x:Arg):runV (some Z) (⟨d,none, .box x⟩::r) σ S=some (⟨d,none, .box x⟩::r,σ,S):=nr rfl
theorem jfz (Z:ZZ) (s len:Nat) (zs:List V) (ps:List (Nat × Nat × Arg)):runV (some Z) (⟨d,none, .buildSlice s len zs ps⟩::r) σ S=some (⟨d,none, .buildSlice s len zs ps⟩::r,σ,S):=nr rfl
theorem an3 (Z:ZZ) (sz:Option Nat) (p v:Arg):runV (some Z) (⟨d,none, .store sz p v⟩::r) σ S=some (⟨d,none, .store sz p v⟩::r,σ,S):=nr rfl
theorem ae8 (Z:ZZ) (s b:Nat) (zs:List V) (l c:Arg):runV (some Z) (⟨d,none, .makeSlice s b zs l c⟩::r) σ S=some (⟨d,none, .makeSlice s b zs l c⟩::r,σ,S):=nr rfl
theorem ala (Z:ZZ) (s b:Nat) (x y:Arg):runV (some Z) (⟨d,none, .append s b x y⟩::r) σ S=some (⟨d,none, .append s b x y⟩::r,σ,S):=nr rfl
theorem asw (Z:ZZ) (s:Nat) (x y:Arg):runV (some Z) (⟨d,none, .copy s x y⟩::r) σ S=some (⟨d,none, .copy s x y⟩::r,σ,S):=nr rfl
theorem aio:runV none (⟨d,none, .makeMap⟩::r) σ S=runV none r (σ.put d (.map S.nx)) (S.add (0,[])):=nr rfl
theorem ajo (zero:V) (ok:Bool) (x k:Arg):runV z (⟨d,none, .lookup zero ok x k⟩::r) σ S=rval z (qQ zero ok (rd z d (.lookup zero ok x k) S) (ev σ x) (ev σ k)) r σ S d:=by
 simp only [runV,COp.isCall,COp.reader,jg,ay,bh,false_and,or_false,if_false,if_true];exact zk z r σ S d (rd z d (.lookup zero ok x k) S) _
theorem adk (x k v:Arg):runV none (⟨d,none, .mapUpdate x k v⟩::r) σ S=rnew ((qt S (ev σ x) (ev σ k) (ev σ v)).map fun S'=>(.tuple [],S')) r σ d:=nr rfl
theorem ac5 (s len:Nat) (zero:List V) (ps:List (Nat × Nat × Arg)):runV z (⟨d,none, .buildList s len zero ps⟩::r) σ S=rval z (opList s len (qP (ev σ) (rep0 zero len) ps)) r σ S d:=by
 simp only [runV,COp.isCall,COp.reader,jg,ay,bh,false_and,or_false,if_false,if_true];exact zk z r σ S d (rd z d (.buildList s len zero ps) S) _
theorem ait (g:Bool) (zero:V) (ok:Bool) (x k:Arg):runV z (⟨d,none, .lookup2 g zero ok x k⟩::r) σ S=rval z (zZ g zero ok (rd z d (.lookup2 g zero ok x k) S) (ev σ x) (ev σ k)) r σ S d:=by
 simp only [runV,COp.isCall,COp.reader,jg,ay,bh,false_and,or_false,if_false,if_true];exact zk z r σ S d (rd z d (.lookup2 g zero ok x k) S) _
theorem jfv (g:Bool) (x k v:Arg):runV none (⟨d,none, .mapUpdate2 g x k v⟩::r) σ S=rnew ((zJ g S (ev σ x) (ev σ k) (ev σ v)).map fun S'=>(.tuple [],S')) r σ d:=nr rfl
theorem jfy (Z:ZZ) (g:Bool) (x k v:Arg):runV (some Z) (⟨d,none, .mapUpdate2 g x k v⟩::r) σ S=some (⟨d,none, .mapUpdate2 g x k v⟩::r,σ,S):=nr rfl
theorem af4 (f:FuncId) (x:Arg):runV z (⟨d,none, .makeMeth f x⟩::r) σ S=runV z r (σ.put d (.meth f (ev σ x))) S:=nr rfl
theorem anr (t:TypeId) (x:Arg):runV z (⟨d,none, .iface t x⟩::r) σ S=rval z ((valV (ev σ x)).map fun v => .raw (.iface t v)) r σ S d:=by
 simp only [runV,COp.isCall,COp.reader,jg,ay,bh,false_and,or_false,if_false,if_true];cases valV (ev σ x)<;>rfl
theorem aur (x:Arg) (xs:List Arg):runV z (⟨d,none, .bmax x xs⟩::r) σ S=rval z (Ye (ev σ x) (xs.map (ev σ))) r σ S d:=by
 simp only [runV,COp.isCall,COp.reader,jg,ay,bh,false_and,or_false,if_false,if_true];exact zk z r σ S d (rd z d (.bmax x xs) S) _
theorem ak1 (n:Nat) (x i:Arg):runV z (⟨d,none, .indexV n x i⟩::r) σ S=rval z (WC n (ev σ x) (ev σ i)) r σ S d:=by
 simp only [runV,COp.isCall,COp.reader,jg,ay,bh,false_and,or_false,if_false,if_true];exact zk z r σ S d (rd z d (.indexV n x i) S) _
theorem akj (n s:Nat) (x i:Arg):runV z (⟨d,none, .indexP n s x i⟩::r) σ S=rval z (zN n s (rd z d (.indexP n s x i) S) (ev σ x) (ev σ i)) r σ S d:=by
 simp only [runV,COp.isCall,COp.reader,jg,ay,bh,false_and,or_false,if_false,if_true];exact zk z r σ S d (rd z d (.indexP n s x i) S) _
theorem alm (x i:Arg):runV z (⟨d,none, .indexS x i⟩::r) σ S=rval z (WD (ev σ x) (ev σ i)) r σ S d:=by
 simp only [runV,COp.isCall,COp.reader,jg,ay,bh,false_and,or_false,if_false,if_true];exact zk z r σ S d (rd z d (.indexS x i) S) _
theorem apu (g neg:Bool) (ks:List Nat) (x y:Arg):runV z (⟨d,none, .aggEq g neg ks x y⟩::r) σ S=rval z (qn g neg ks (ev σ x) (ev σ y)) r σ S d:=by
 simp only [runV,COp.isCall,COp.reader,jg,ay,bh,false_and,or_false,if_false,if_true];exact zk z r σ S d (rd z d (.aggEq g neg ks x y) S) _
theorem aq0 (x:Arg):runV z (⟨d,none, .markS x⟩::r) σ S=rval z (jcb (rd z d (.markS x) S) (ev σ x)) r σ S d:=by
 simp only [runV,COp.isCall,COp.reader,jg,ay,bh,false_and,or_false,if_false,if_true];exact zk z r σ S d (rd z d (.markS x) S) _
theorem aqq (sz:Option Nat) (x:Arg):runV z (⟨d,none, .loadJ sz x⟩::r) σ S=rval z (jl sz (rd z d (.loadJ sz x) S) (ev σ x)) r σ S d:=by
 simp only [runV,COp.isCall,COp.reader,jg,ay,bh,false_and,or_false,if_false,if_true];exact zk z r σ S d (rd z d (.loadJ sz x) S) _
theorem ahk (x y:Arg):runV none (⟨d,none, .appendS x y⟩::r) σ S=rnew (Yg S (ev σ x) (ev σ y)) r σ d:=nr rfl
theorem aiw (Z:ZZ) (x y:Arg):runV (some Z) (⟨d,none, .appendS x y⟩::r) σ S=some (⟨d,none, .appendS x y⟩::r,σ,S):=nr rfl
theorem aht (Z:ZZ)  : runV (some Z) (⟨d,none, .makeMap⟩::r) σ S=some (⟨d,none, .makeMap⟩::r,σ,S):=nr rfl
theorem ad7 (Z:ZZ) (x k v:Arg):runV (some Z) (⟨d,none, .mapUpdate x k v⟩::r) σ S=some (⟨d,none, .mapUpdate x k v⟩::r,σ,S):=nr rfl
end
def vl {α:Type} (enc:α->V) (l:List α):V := .list (l.map enc)
def bH (n:Int):V := .int .i64 n
def bI (n:Nat):V := .int .i64 (n:Int)
section
variable {α:Type} {enc:α->V} {l:List α} {S:Store}
theorem an7:Yf S (vl enc l)=some (.int .i64 (l.length:Int)):=by simp [Yf,vl]
theorem jG {s:Nat} {k:IntKind} {i:Nat} (hs : ∀ x,(enc x).ncells=s) (h:i<l.length):jz s S (vl enc l) (.int k (i:Int))=some (.ref (enc l[i])):=by
 simp [jz,vl,h,hs]
end
theorem ag2 (n:Int):(bH n).ncells=1:=by unfold bH; simp [V.ncells]
theorem atu (n:Nat):(bI n).ncells=1:=by unfold bI; simp [V.ncells]
theorem axc {α:Type} (enc:α->V) (l:List α):(vl enc l).ncells=1:=by unfold vl; simp [V.ncells]
theorem aor (b:Bool):(V.bool b).ncells=1:=by simp [V.ncells]
theorem adi (b:Bool):(V.bool b).one=true:=by simp [V.one]
theorem aa0 (k:IntKind) (n:Int):(V.int k n).one=true:=by simp [V.one]
theorem aua (s:ByteArray):(V.str s).one=true:=by simp [V.one]
theorem Zx:(V.nils).one=true:=by simp [V.one]
theorem arn:(V.nilp).one=true:=by simp [V.one]
theorem ap9:(V.nilm).one=true:=by simp [V.one]
theorem ap5:(V.nilf).one=true:=by simp [V.one]
theorem apf (l:List V):(V.list l).one=true:=by simp [V.one]
theorem aut (x:V):(V.ref x).one=true:=by simp [V.one]
theorem Kr (o f l:Nat):(V.slice o f l).one=true:=by simp [V.one]
theorem aty (o f:Nat):(V.ptr o f).one=true:=by simp [V.one]
theorem arl (f:FuncId) (x:V):(V.meth f x).one=true:=by simp [V.one]
theorem ap3 (f:FuncId) (l:List V):(V.func f l).one=true:=by simp [V.one]
theorem ats (o:Nat):(V.map o).one=true:=by simp [V.one]
theorem aka (k:IntKind) (n:Int):(V.int k n).cells=[V.int k n]:=by simp [V.cells]
theorem avo (k:IntKind) (n:Int):(V.int k n).ncells=1:=by simp [V.ncells]
theorem al0 (s:ByteArray):(V.str s).cells=[V.str s]:=by simp [V.cells]
theorem awt (s:ByteArray):(V.str s).ncells=1:=by simp [V.ncells]
theorem aip:(V.nils).cells=[V.nils]:=by simp [V.cells]
theorem aru:(V.nils).ncells=1:=by simp [V.ncells]
theorem ai4:(V.nilp).cells=[V.nilp]:=by simp [V.cells]
theorem ask:(V.nilp).ncells=1:=by simp [V.ncells]
theorem aig:(V.nilm).cells=[V.nilm]:=by simp [V.cells]
theorem auq:(V.nilm).ncells=1:=by simp [V.ncells]
theorem ai1:(V.nilf).cells=[V.nilf]:=by simp [V.cells]
theorem asm:(V.nilf).ncells=1:=by simp [V.ncells]
theorem ah2 (l:List V):(V.list l).cells=[V.list l]:=by simp [V.cells]
theorem as8 (l:List V):(V.list l).ncells=1:=by simp [V.ncells]
theorem ams (x:V):(V.ref x).cells=[V.ref x]:=by simp [V.cells]
theorem av5 (x:V):(V.ref x).ncells=1:=by simp [V.ncells]
theorem af5 (o f l:Nat):(V.slice o f l).cells=[V.slice o f l]:=by simp [V.cells]
theorem ard (o f l:Nat):(V.slice o f l).ncells=1:=by simp [V.ncells]
theorem akz (o f:Nat):(V.ptr o f).cells=[V.ptr o f]:=by simp [V.cells]
theorem awf (o f:Nat):(V.ptr o f).ncells=1:=by simp [V.ncells]
theorem ais (f:FuncId) (l:List V):(V.func f l).cells=[V.func f l]:=by simp [V.cells]
theorem as4 (f:FuncId) (l:List V):(V.func f l).ncells=1:=by simp [V.ncells]
theorem ahu (f:FuncId) (x:V):(V.meth f x).cells=[V.meth f x]:=by simp [V.cells]
theorem asz (f:FuncId) (x:V):(V.meth f x).ncells=1:=by simp [V.ncells]
theorem al7 (v:Value):(V.raw v).cells=[V.raw v]:=by simp [V.cells]
theorem awg (v:Value):(V.raw v).ncells=1:=by simp [V.ncells]
theorem akd (o:Nat):(V.map o).cells=[V.map o]:=by simp [V.cells]
theorem awi (o:Nat):(V.map o).ncells=1:=by simp [V.ncells]
theorem ahr (b:Bool):(V.bool b).cells=[V.bool b]:=by simp [V.cells]
theorem aj2 (l:List V):(V.agg l).cells=l:=by simp [V.cells]
theorem avr (l:List V):(V.agg l).ncells=l.length:=by simp [V.ncells]
theorem ao6 {α:Type} (enc:α->V) (l:List α):(vl enc l).cells=[vl enc l]:=by unfold vl; simp [V.cells]
theorem afb (n:Int):(bH n).one=true:=by unfold bH; simp [V.one]
theorem apd (n:Nat):(bI n).one=true:=by unfold bI; simp [V.one]
theorem jeF {α:Type} (enc:α->V) (l:List α):(vl enc l).one=true:=by unfold vl; simp [V.one]
theorem wrap_i64 {n:Int} (h1 : -9223372036854775808<=n) (h2:n<=9223372036854775807):IntKind.i64.wrap n=n:=by
 rw [IntKind.wrap_i64]; omega
theorem qi {P:Program} {N b:Nat} {Q:Exit->Fr->Store->Prop} {σ σ':Fr} {S S':Store} {c:Code} (t:Nat) {x x':V} (hx:σ.lk t=x) (hg:Ghost x S x' S') (hs:σ.set t x'=σ') (h:VWp P N b c Q σ' S'):VWp P N b c Q σ S :=
 ao0 t hx hg (by rw [hs]; exact h)
end Go.Vw
