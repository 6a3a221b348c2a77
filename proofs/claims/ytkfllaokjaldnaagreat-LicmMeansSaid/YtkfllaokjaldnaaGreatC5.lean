import Derived.Test.YtkfllaokjaldnaaGreatC4
/- Part of the proof. -/
set_option linter.unusedVariables false
set_option linter.unusedSimpArgs false
/-
 Objects named anew, and stores told one object after the other.
-/
namespace Go.Vw
open Go.RowKit
mutual
def V.ren (f:Nat->Nat):V->V
 | .agg xs => .agg (V.renL f xs)
 | .tuple xs => .tuple (V.renL f xs)
 | .func g xs => .func g (V.renL f xs)
 | .slice o off len => .slice (f o) off len
 | .ptr o off => .ptr (f o) off
 | .map o => .map (f o)
 | .bool b => .bool b
 | .int k n => .int k n
 | .str s => .str s
 | .nils => .nils
 | .nilp => .nilp
 | .nilf => .nilf
 | .nilm => .nilm
 | .list xs => .list xs
 | .ref x => .ref x
 | .junk => .junk
def V.renL (f:Nat->Nat):List V->List V
 | []=>[]
 | x::xs=>V.ren f x::V.renL f xs
end
mutual
def V.ids (p:Nat->Bool):V->Bool
 | .agg xs=>V.idsL p xs
 | .tuple xs=>V.idsL p xs
 | .func _ xs=>V.idsL p xs
 | .slice o _ _=>p o
 | .ptr o _=>p o
 | .map o=>p o
 | _=>true
def V.idsL (p:Nat->Bool):List V->Bool
 | []=>true
 | x::xs=>V.ids p x&&V.idsL p xs
end
theorem qi (f:Nat->Nat) : ∀ xs,V.renL f xs=xs.map (V.ren f)
 | []=>by simp [V.renL]
 | x::xs=>by simp [V.renL,qi f xs]
theorem qF (p:Nat->Bool) : ∀ xs,V.idsL p xs=xs.all (V.ids p)
 | []=>by simp [V.idsL]
 | x::xs=>by simp [V.idsL,qF p xs]
theorem JV {f g:Nat->Nat} {p:Nat->Bool} (h : ∀ o,p o=true->g (f o)=o) : ∀ x:V,x.ids p=true->(x.ren f).ren g=x
 | .agg xs,hx=>by
  simp only [V.ids,qF,aD] at hx;simp only [V.ren,qi,List.map_map,V.agg.injEq];exact (aZ fun x hm=>JV h x (hx x hm)).trans (List.map_id _)
 | .tuple xs,hx=>by
  simp only [V.ids,qF,aD] at hx;simp only [V.ren,qi,List.map_map,V.tuple.injEq];exact (aZ fun x hm=>JV h x (hx x hm)).trans (List.map_id _)
 | .func k xs,hx=>by
  simp only [V.ids,qF,aD] at hx;simp only [V.ren,qi,List.map_map,V.func.injEq,true_and];exact (aZ fun x hm=>JV h x (hx x hm)).trans (List.map_id _)
 | .slice o off len,hx=>by simp only [V.ids] at hx; simp [V.ren,h o hx]
 | .ptr o off,hx=>by simp only [V.ids] at hx; simp [V.ren,h o hx]
 | .map o,hx=>by simp only [V.ids] at hx; simp [V.ren,h o hx]
 | .bool _,_ | .int _ _,_ | .str _,_ | .nils,_ | .nilp,_ | .nilf,_ | .nilm,_ | .list _,_ | .ref _,_ | .junk,_=>by simp [V.ren]
theorem am2 {f g:Nat->Nat} {p:Nat->Bool} (h : ∀ o,p o=true->g (f o)=o) (xs:List V) (hx:V.idsL p xs=true):V.renL g (V.renL f xs)=xs:=by
 simp only [qF,aD] at hx;simp only [qi,List.map_map];exact (aZ fun x hm=>JV h x (hx x hm)).trans (List.map_id _)
theorem ahh {m:Imm} {f:Nat->Nat} : ∀ (x:V) (v:Value),RepI m (x.ren f) v->RepI m x v
 | .agg xs,v,h=>by
  simp only [V.ren,qi] at h;generalize hy:V.agg (xs.map (V.ren f))=y at h
  cases h with
  | agg ys vs hl hr h1 =>
   cases hy
   refine .agg xs vs (by simpa using hl) (fun i x u hx hu => ?_) h1;have:=hr i (x.ren f) u (by simp [hx]) hu;have hsz:SizeOf.sizeOf x<SizeOf.sizeOf xs:=List.sizeOf_lt_of_mem (aA hx);exact ahh x u (by assumption)
  | _=>cases hy
 | .tuple xs,v,h=>by simp only [V.ren] at h; cases h
 | .func k xs,v,h=>by simp only [V.ren] at h; cases h
 | .slice o off len,v,h=>by simp only [V.ren] at h; cases h
 | .ptr o off,v,h=>by simp only [V.ren] at h; cases h
 | .map o,v,h=>by simp only [V.ren] at h; cases h
 | .junk,v,h=>by simp only [V.ren] at h; cases h
 | .bool _,v,h | .int _ _,v,h | .str _,v,h | .nils,v,h | .nilp,v,h | .nilf,v,h | .nilm,v,h | .list _,v,h | .ref _,v,h=>by simpa only [V.ren] using h
theorem Wn {m:Imm} {β β':Objs} {f:Nat->Nat} (hf : ∀ o,β (f o) ≠ .fresh->β' o=β (f o)\/β' o = .dead) : ∀ (x:V) (v:Value),Rep m β (x.ren f) v->Rep m β' x v
 | .agg xs,v,h=>by
  simp only [V.ren,qi] at h;obtain ⟨vs,rfl,hl,hr,h1⟩:=h.inv_agg;refine .agg xs vs (by simpa using hl) (fun i x u hx hu => ?_) h1;have:=hr i (x.ren f) u (by simp [hx]) hu;have hsz:SizeOf.sizeOf x<SizeOf.sizeOf xs:=List.sizeOf_lt_of_mem (aA hx);exact Wn hf x u (by assumption)
 | .tuple xs,v,h=>by
  simp only [V.ren,qi] at h;obtain ⟨vs,rfl,hl,hr⟩:=h.inv_tuple;refine .tuple xs vs (by simpa using hl) (fun i x u hx hu => ?_);have:=hr i (x.ren f) u (by simp [hx]) hu;have hsz:SizeOf.sizeOf x<SizeOf.sizeOf xs:=List.sizeOf_lt_of_mem (aA hx);exact Wn hf x u (by assumption)
 | .func k xs,v,h=>by
  simp only [V.ren,qi] at h;obtain ⟨vs,rfl,hr⟩:=h.inv_func;refine .func k xs vs (by simpa using hr.1) (fun i x u hx hu => ?_);have:=hr.2 i (x.ren f) u (by simp [hx]) hu;have hsz:SizeOf.sizeOf x<SizeOf.sizeOf xs:=List.sizeOf_lt_of_mem (aA hx);exact Wn hf x u (by assumption)
 | .slice o off len,v,h=>by
  simp only [V.ren] at h
  cases h with
  | imm h=>cases h
  | sliceDead _ _ _ _ h1 h2 =>
   rcases hf o (by rw [h1]; exact Loc.noConfusion) with e | e
   .exact .sliceDead o off len v (e.trans h1) h2
   .exact .sliceDead o off len v e h2
  | sliceVoid _ _ a h1 =>
   rcases hf o (by rw [h1]; exact Loc.noConfusion) with e | e
   .exact .sliceVoid o off a (e.trans h1)
   .exact .sliceDead o off 0 _ e rfl
  | slice _ _ _ b base s n cap a h1 hc hcm ha =>
   rcases hf o (by rw [h1]; exact Loc.noConfusion) with e | e
   .exact .slice o off len b base s n cap a (e.trans h1) hc hcm ha
   .exact .sliceDead o off len _ e rfl
 | .ptr o off,v,h=>by
  simp only [V.ren] at h
  cases h with
  | imm h=>cases h
  | ptrDead _ _ _ h1 h2 =>
   rcases hf o (by rw [h1]; exact Loc.noConfusion) with e | e
   .exact .ptrDead o off v (e.trans h1) h2
   .exact .ptrDead o off v e h2
  | ptr _ _ b base s n h1 =>
   rcases hf o (by rw [h1]; exact Loc.noConfusion) with e | e
   .exact .ptr o off b base s n (e.trans h1)
   .exact .ptrDead o off _ e rfl
 | .map o,v,h=>by
  simp only [V.ren] at h
  cases h with
  | imm h=>cases h
  | mapDead _ _ h1 h2 =>
   rcases hf o (by rw [h1]; exact Loc.noConfusion) with e | e
   .exact .mapDead o v (e.trans h1) h2
   .exact .mapDead o v e h2
  | map _ b h1 =>
   rcases hf o (by rw [h1]; exact Loc.noConfusion) with e | e
   .exact .map o b (e.trans h1)
   .exact .mapDead o _ e rfl
 | .junk,v,_ => .junk v
 | .bool _,v,h | .int _ _,v,h | .str _,v,h | .nils,v,h | .nilp,v,h | .nilf,v,h | .nilm,v,h | .list _,v,h | .ref _,v,h=>by
  simp only [V.ren] at h
  cases h with
  | imm h=>exact .imm h
open Classical in
/-- Where objects lie, by the new names. -/
noncomputable def Jp (f:Nat->Nat) (S':Store) (β:Objs):Objs:=fun o=>if S'.nx<=o then .fresh else if (S'.get o).isSome=true then β (f o) else .dead
structure RenS (f:Nat->Nat) (b:Nat) (S S':Store):Prop where
 get : ∀ o c,S'.get o=some c->o<S'.nx/\S.get (f o)=some (c.1,V.renL f c.2)
 inj : ∀ o o',(S'.get o).isSome=true->(S'.get o').isSome=true->f o=f o'->o=o'
 ge : ∀ o,S'.nx<=o->S.nx<=f o
 fix : ∀ o,o<b->f o=o
 base:b<=S'.nx
section
variable {f:Nat->Nat} {b:Nat} {S S':Store} {m:Imm} {β:Objs} {w:World}
theorem Wo (h:RenS f b S S') (hS:Holds S m β w) : ∀ o,β (f o) ≠ .fresh->Jp f S' β o=β (f o)\/Jp f S' β o = .dead:=by
 intro o ho;have hlt : ¬ S'.nx<=o:=fun hle=>ho ((hS.fresh _).2 (h.ge o hle))
 simp only [Jp,if_neg hlt];split
 .exact .inl rfl
 .exact .inr rfl
theorem Jd {o b':Nat} (hb:(Jp f S' β o).block? = some b'):(S'.get o).isSome=true/\(β (f o)).block? = some b':=by
 simp only [Jp] at hb;split at hb
 .cases hb
 .split at hb
  .rename_i h; exact ⟨h,hb⟩
  .cases hb
theorem Holds.ren (h:RenS f b S S') (hS:Holds S m β w):Holds S' m (Jp f S' β) w/\ExtB b m β w m (Jp f S' β) w:=by
 have hrep:=Wo h hS;refine ⟨⟨hS.imm,fun o b' hb=>hS.apart _ b' (Jd hb).2,fun o o' b' h1 h2 => ?_,fun o => ?_,fun o ho => ?_,fun o ho hn => ?_,fun o c hc => ?_⟩,
  ⟨fun _ _ h=>h,fun o ho hf => ?_,a9 _,fun b' hb h1 h2=>⟨rfl,h1,fun o ho=>h2 _ (Jd ho).2⟩,rfl,rfl,rfl⟩⟩
 .obtain ⟨a1,a2⟩:=Jd h1;obtain ⟨c1,c2⟩:=Jd h2;exact h.inj o o' a1 c1 (hS.inj _ _ b' a2 c2)
 .simp only [Jp];split
  .rename_i hle; exact ⟨fun _=>hle,fun _=>rfl⟩
  .rename_i hle;refine ⟨fun hf => ?_,fun h'=>absurd h' hle⟩;split at hf
   .rename_i hs;obtain ⟨c,hc⟩:=Option.isSome_iff_exists.1 hs;have:=hS.lt (h.get o c hc).2;have:=(hS.fresh _).1 hf;omega
   .cases hf
 .cases hc:S'.get o with
  | none=>rfl
  | some c=>have:=(h.get o c hc).1; omega
 .simp only [Jp];rw [if_neg (by omega),if_neg (by rw [hn]; simp)]
 .obtain ⟨hlt,hg⟩:=h.get o c hc;have hl:=hS.live _ _ hg;have e:Jp f S' β o=β (f o):=by simp only [Jp]; rw [if_neg (by omega),if_pos (by rw [hc]; rfl)]
  rw [e]
  cases hβ:β (f o) with
  | fresh=>rw [hβ] at hl; exact hl.elim
  | dead=>rw [hβ] at hl; exact hl.elim
  | void=>rw [hβ] at hl; simp only [Live,qi,List.map_eq_nil_iff] at hl; exact hl
  | lies b' base s n =>
   rw [hβ] at hl;obtain ⟨h0,arr,T,h1,h2,h3,h4⟩:=hl;simp only [qi,aI] at h3;refine ⟨h0,arr,T,h1,h2,h3,fun i x hx => ?_⟩;obtain ⟨v,e1,e2,e3⟩:=h4 i (x.ren f) (by simp [qi,hx]);exact ⟨v,e1,Wn hrep x v e2,e3⟩
  | mp b' =>
   rw [hβ] at hl;obtain ⟨es,clock,h1,h2,h3⟩:=hl;simp only [qi,aI] at h2;refine ⟨es,clock,h1,h2,fun i x e hx he => ?_⟩;obtain ⟨k,v,e1,e2,e3⟩:=h3 i (x.ren f) e (by simp [qi,hx]) he
   cases x<;>simp only [V.ren] at e1<;>first | (cases e1; done) | skip
   rename_i xs
   match xs with
   | []=>simp [V.renL] at e1
   | [x]=>simp [V.renL] at e1
   | x::y::z::r=>simp [V.renL] at e1
   | [x,y] =>
    simp only [V.renL,V.tuple.injEq,List.cons.injEq,and_true] at e1;obtain ⟨rfl,rfl⟩:=e1;exact ⟨x,y,rfl,ahh x _ e2,Wn hrep y _ e3⟩
 .rw [<-h.fix o ho] at hf;have:=hrep o hf;rw [h.fix o ho] at this;exact this
theorem Reach.ren {N:Nat} {σ σ':Fr} (h:RenS f b S S') (hσ : ∀ t,σ.lk t=(σ'.lk t).ren f):Reach N b σ S σ' S':=by
 intro m β w a hS hF;obtain ⟨h1,h2⟩:=hS.ren h;exact ⟨m,_,h1,⟨hF.size,hF.defers,fun t=>Wn (Wo h hS) _ _ (by rw [<-hσ]; exact hF.rep t)⟩,h2⟩
end
/-! ### What a call leaves, seen otherwise -/
def GhostB (b:Nat) (x:V) (S:Store) (x':V) (S':Store):Prop :=
 ∀ m β w v,Holds S m β w->Rep m β x v -> ∃ m' β',Holds S' m' β' w/\ExtB b m β w m' β' w/\Rep m' β' x' v
theorem Ghost.toB {x x':V} {S S':Store} (h:Ghost x S x' S') (b:Nat):GhostB b x S x' S':=by
 intro m β w v hS hr;obtain ⟨m',β',h1,h2,h3⟩:=h m β w v hS hr;exact ⟨m',β',h1,h2.toB b,h3⟩
theorem GhostB.refl (b:Nat) (x:V) (S:Store):GhostB b x S x S:=(Ghost.refl x S).toB b
theorem GhostB.trans {b:Nat} {x y z:V} {S S' S'':Store} (h:GhostB b x S y S') (k:GhostB b y S' z S''):GhostB b x S z S'':=by
 intro m β w v hS hr;obtain ⟨m',β',h1,h2,h3⟩:=h m β w v hS hr;obtain ⟨m'',β'',k1,k2,k3⟩:=k m' β' w v h1 h3;exact ⟨m'',β'',k1,h2.trans k2,k3⟩
theorem GhostB.ren {f:Nat->Nat} {b:Nat} {S S':Store} {x x':V} (h:RenS f b S S') (hx:x=x'.ren f):GhostB b x S x' S':=by
 intro m β w v hS hr;obtain ⟨h1,h2⟩:=hS.ren h;subst hx;exact ⟨m,_,h1,h2,Wn (Wo h hS) _ _ hr⟩
theorem YB {m:Imm} {β:Objs} {p:Nat->Bool} (hp : ∀ o,β o ≠ .fresh->p o=true) : ∀ (x:V) (v:Value),Rep m β x v->x.ids p=true
 | .agg xs,v,h=>by
  obtain ⟨vs,rfl,hl,hr,h1⟩:=h.inv_agg;simp only [V.ids,qF,aD];intro x hx;obtain ⟨i,hi,rfl⟩:=a7 hx;have hsz:SizeOf.sizeOf xs[i]<SizeOf.sizeOf xs:=List.sizeOf_lt_of_mem hx;exact YB hp xs[i] vs[i] (hr i _ _ (ac hi) (ac (by omega)))
 | .tuple xs,v,h=>by
  obtain ⟨vs,rfl,hl,hr⟩:=h.inv_tuple;simp only [V.ids,qF,aD];intro x hx;obtain ⟨i,hi,rfl⟩:=a7 hx;have hsz:SizeOf.sizeOf xs[i]<SizeOf.sizeOf xs:=List.sizeOf_lt_of_mem hx;exact YB hp xs[i] vs[i] (hr i _ _ (ac hi) (ac (by omega)))
 | .func k xs,v,h=>by
  obtain ⟨vs,rfl,hl,hr⟩:=h.inv_func;simp only [V.ids,qF,aD];intro x hx;obtain ⟨i,hi,rfl⟩:=a7 hx;have hsz:SizeOf.sizeOf xs[i]<SizeOf.sizeOf xs:=List.sizeOf_lt_of_mem hx;exact YB hp xs[i] vs[i] (hr i _ _ (ac hi) (ac (by omega)))
 | .slice o off len,v,h=>by
  simp only [V.ids]
  cases h with
  | imm h=>cases h
  | sliceDead _ _ _ _ h1 h2=>exact hp o (by rw [h1]; exact Loc.noConfusion)
  | sliceVoid _ _ a h1=>exact hp o (by rw [h1]; exact Loc.noConfusion)
  | slice _ _ _ b base s n cap a h1 hc hcm ha=>exact hp o (by rw [h1]; exact Loc.noConfusion)
 | .ptr o off,v,h=>by
  simp only [V.ids]
  cases h with
  | imm h=>cases h
  | ptrDead _ _ _ h1 h2=>exact hp o (by rw [h1]; exact Loc.noConfusion)
  | ptr _ _ b base s n h1=>exact hp o (by rw [h1]; exact Loc.noConfusion)
 | .map o,v,h=>by
  simp only [V.ids]
  cases h with
  | imm h=>cases h
  | mapDead _ _ h1 h2=>exact hp o (by rw [h1]; exact Loc.noConfusion)
  | map _ b h1=>exact hp o (by rw [h1]; exact Loc.noConfusion)
 | .junk,v,_=>by simp [V.ids]
 | .bool _,v,h | .int _ _,v,h | .str _,v,h | .nils,v,h | .nilp,v,h | .nilf,v,h | .nilm,v,h | .list _,v,h | .ref _,v,h=>by simp [V.ids]
structure Store.Wf (S:Store):Prop where
 gone : ∀ o,S.nx<=o->S.get o=none
 ids : ∀ o c,S.get o=some c->V.idsL (fun o=>decide (o<S.nx)) c.2=true
theorem Holds.wf {S:Store} {m:Imm} {β:Objs} {w:World} (h:Holds S m β w):S.Wf:=by
 refine ⟨h.gone,fun o c hc => ?_⟩;have hp : ∀ o,β o ≠ .fresh->(fun o=>decide (o<S.nx)) o=true:=by
  intro o ho;simp only [aj];rcases bt o S.nx with hl | hl
  .exact hl
  .exact absurd ((h.fresh o).2 hl) ho
 have hl:=h.live o c hc;simp only [qF,aD];intro x hx;obtain ⟨i,hi,rfl⟩:=a7 hx
 cases hβ:β o with
 | fresh=>rw [hβ] at hl; exact hl.elim
 | dead=>rw [hβ] at hl; exact hl.elim
 | void=>rw [hβ] at hl; simp only [Live] at hl; rw [hl] at hi; simp at hi
 | lies b' base s n =>
  rw [hβ] at hl;obtain ⟨h0,arr,T,h1,h2,h3,h4⟩:=hl;obtain ⟨v,_,hr,_⟩:=h4 i _ (ac hi);exact YB hp _ v hr
 | mp b' =>
  rw [hβ] at hl;obtain ⟨es,clock,h1,h2,h3⟩:=hl;have hi2:i<es.size:=by omega
  obtain ⟨k,v,e1,e2,e3⟩:=h3 i _ es[i] (ac hi) (Array.getElem?_eq_getElem hi2);rw [e1];simp only [V.ids,V.idsL,Bool.and_true,af];exact ⟨YB hp k _ (.imm e2),YB hp v _ e3⟩
section
variable {P:Program} {S:Store}
theorem Jm {f:FuncId} {args:List V} {R:V->Store->Prop} (h:S.Wf->VCalls P f args S R):VCalls P f args S R :=
 fun m β w vs hS hr=>h hS.wf m β w vs hS hr
theorem zq {f:FuncId} {args:List V} {R:V->Store->Prop} (h:VCalls P f args S fun r S1 => ∃ x' S',GhostB S.nx r S1 x' S'/\R x' S'):VCalls P f args S R:=by
 intro m β w vs hS hr;refine (h m β w vs hS hr).mono ?_;rintro e w' ⟨v,x,S1,m1,β1,he,⟨x',S',hg,hR⟩,h1,h2,h3⟩;obtain ⟨m2,β2,g1,g2,g3⟩:=hg m1 β1 w' v h2 h1;have k:=(h3.toB S.nx).trans g2;exact ⟨v,x',S',m2,β2,he,hR,g3,g1,⟨k.imm,fun o ho=>k.step o (by
  rcases bt o S.nx with hl | hl
  .exact hl
  .exact absurd ((hS.fresh o).2 hl) ho) ho,k.size,k.keep,k.os,k.tape,k.output⟩⟩
end
/-! ### Stores told one object after the other -/
def lid (n k:Nat):Nat:=n+k
abbrev Upds:=List (Nat × Option (Nat × List V))
def uGet:Upds->Nat->Option (Nat × List V)->Option (Nat × List V)
 | [],_,d=>d
 | (k,c)::r,o,d=>if o=k then c else uGet r o d
def uSet:Upds->Nat->Option (Nat × List V)->Upds
 | [],o,c=>[(o,c)]
 | (k,c')::r,o,c=>if o=k then (k,c)::r else (k,c')::uSet r o c
theorem afv (u:Upds) (o:Nat) (c:Option (Nat × List V)) (o':Nat) (d:Option (Nat × List V)):uGet (uSet u o c) o' d=if o'=o then c else uGet u o' d:=by
 induction u with
 | nil=>simp [uSet,uGet]
 | cons p r ih =>
  obtain ⟨k,c'⟩:=p;simp only [uSet];split
  .rename_i h; subst h; simp only [uGet]; split<;>simp_all
  .simp only [uGet,ih]; split
   .rename_i h1 h2; subst h2; rw [if_neg (fun e=>h1 e.symm)]
   .rfl
def St (B:Store) (u:Upds) (l:List (Option (Nat × List V))):Store:=⟨fun o=>if o<B.nx then uGet u o (B.get o) else (l[o-B.nx]?).join,lid B.nx l.length⟩
theorem qv {B:Store} (h:B.Wf):St B [] []=B:=by
 refine Store.ext' (funext fun o => ?_) rfl;simp only [St,uGet];split
 .rfl
 .rw [h.gone o (by omega)]; rfl
section
variable {B:Store} {u:Upds} {l:List (Option (Nat × List V))} {n k:Nat} {c:Nat × List V}
theorem jR:(St B u l).nx=lid B.nx l.length:=by simp [St]
theorem qJ (o:Nat):(St B u l).get o=if o<B.nx then uGet u o (B.get o) else (l[o-B.nx]?).join:=rfl
theorem Yl (S:Store) (c:Nat × List V) (o:Nat):(S.add c).get o=if o=S.nx then some c else S.get o:=rfl
theorem qf (S:Store) (o':Nat) (c:Nat × List V) (o:Nat):(S.upd o' c).get o=if o=o' then some c else S.get o:=rfl
theorem Wh (S:Store) (o':Nat) (o:Nat):(S.del o').get o=if o=o' then none else S.get o:=rfl
theorem jB:(St B u l).get (lid B.nx k)=(l[k]?).join:=by
 rw [qJ,if_neg (by simp [lid])]; simp [lid]
theorem jk {o:Nat} (h:o<B.nx):(St B u l).get o=uGet u o (B.get o):=by rw [qJ,if_pos h]
theorem jbn:(St B u l).add c=St B u (l++[some c]):=by
 refine Store.ext' (funext fun o => ?_) (by simp [Store.add,St,lid]; omega);rw [Yl,qJ,qJ,jR,lid]
 by_cases h1:o<B.nx
 .rw [if_neg (by omega),if_pos h1,if_pos h1]
 .rw [if_neg h1,if_neg h1]
  by_cases h2:o=B.nx+l.length
  .rw [if_pos h2]; subst h2; simp
  .rw [if_neg h2]
   by_cases h3:o-B.nx<l.length
   .rw [aT h3]
   .rw [aJ (by omega),aJ (by simp; omega)]
theorem JM (hk:k<l.length):(St B u l).upd (lid B.nx k) c=St B u (l.set k (some c)):=by
 refine Store.ext' (funext fun o => ?_) (by simp [Store.upd,St]);rw [qf,qJ,qJ,lid]
 by_cases h1:o<B.nx
 .rw [if_neg (by omega),if_pos h1,if_pos h1]
 .rw [if_neg h1,if_neg h1]
  by_cases h2:o=B.nx+k
  .rw [if_pos h2]; subst h2; simp [hk]
  .rw [if_neg h2,aQ (by omega)]
theorem ab1 (hk:k<l.length):(St B u l).del (lid B.nx k)=St B u (l.set k none):=by
 refine Store.ext' (funext fun o => ?_) (by simp [Store.del,St]);rw [Wh,qJ,qJ,lid]
 by_cases h1:o<B.nx
 .rw [if_neg (by omega),if_pos h1,if_pos h1]
 .rw [if_neg h1,if_neg h1]
  by_cases h2:o=B.nx+k
  .rw [if_pos h2]; subst h2; simp [hk]
  .rw [if_neg h2,aQ (by omega)]
theorem qS {o:Nat} (h:o<B.nx):(St B u l).upd o c=St B (uSet u o (some c)) l:=by
 refine Store.ext' (funext fun o' => ?_) rfl;rw [qf,qJ,qJ,afv]
 by_cases h1:o'=o
 .subst h1; simp [h]
 .simp [h1]
theorem ad5 {o:Nat} (h:o<B.nx):(St B u l).del o=St B (uSet u o none) l:=by
 refine Store.ext' (funext fun o' => ?_) rfl;rw [Wh,qJ,qJ,afv]
 by_cases h1:o'=o
 .subst h1; simp [h]
 .simp [h1]
end
/-! ### Some objects kept, under new names, the others dropped -/
def gcTo (n:Nat) (ks:List Nat) (o:Nat):Nat:=if o<n then o else lid n (ks.idxOf (o-n))
def gcOf (n L:Nat) (ks:List Nat) (o:Nat):Nat:=if o<n then o else lid n ((ks[o-n]?).getD (L+o))
def gcP (n:Nat) (ks:List Nat) (o:Nat):Bool:=decide (o<n)||ks.contains (o-n)
theorem KQ (n k:Nat) : ¬ n+k<n:=by omega
theorem aro (n k:Nat) (ks:List Nat):gcTo n ks (lid n k)=lid n (ks.idxOf k):=by simp [gcTo,lid,KQ]
theorem qu {n o:Nat} (ks:List Nat) (h:o<n):gcTo n ks o=o:=by simp [gcTo,h]
theorem auv (n k:Nat) (ks:List Nat):gcP n ks (lid n k)=ks.contains k:=by simp [gcP,lid,KQ]
theorem qW {n o:Nat} (ks:List Nat) (h:o<n):gcP n ks o=true:=by simp [gcP,h]
theorem acs {n L:Nat} {ks:List Nat} (o:Nat) (h:gcP n ks o=true):gcOf n L ks (gcTo n ks o)=o:=by
 simp only [gcP,bk,aj,List.contains_iff_mem] at h
 by_cases h1:o<n
 .simp [gcTo,gcOf,h1]
 .have hm:=h.resolve_left h1;have hi:ks.idxOf (o-n)<ks.length:=List.idxOf_lt_length_iff.2 hm;simp [gcTo,gcOf,h1,lid,hi,KQ];omega
def gcE (n:Nat) (ks:List Nat) (c:Option (Nat × List V)):Option (Nat × List V):=c.map fun c=>(c.1,V.renL (gcTo n ks) c.2)
def jbz (n:Nat) (ks:List Nat):Option (Nat × List V)->Bool
 | some c=>V.idsL (gcP n ks) c.2
 | none=>true
def gcL (n:Nat) (ks:List Nat) (l:List (Option (Nat × List V))):List Nat->List (Option (Nat × List V))
 | []=>[]
 | k::r=>gcE n ks ((l[k]?).join)::gcL n ks l r
def YU (n:Nat) (ks:List Nat) (l:List (Option (Nat × List V))):List Nat->Bool
 | []=>true
 | k::r=>decide (k<l.length)&&jbz n ks ((l[k]?).join)&&YU n ks l r
def gcU (n:Nat) (ks:List Nat):Upds->Upds
 | []=>[]
 | (k,c)::r=>(k,gcE n ks c)::gcU n ks r
def Km (n:Nat) (ks:List Nat):Upds->Bool
 | []=>true
 | (k,c)::r=>jbz n ks c&&Km n ks r
theorem ajv (n:Nat) (ks:List Nat) (l:List (Option (Nat × List V))) : ∀ r,gcL n ks l r=r.map fun k=>gcE n ks ((l[k]?).join)
 | []=>rfl
 | k::r=>by simp [gcL,ajv n ks l r]
theorem jcb {n:Nat} {ks:List Nat} {l:List (Option (Nat × List V))} : ∀ {r},YU n ks l r=true -> ∀ k∈r,k<l.length/\jbz n ks ((l[k]?).join)=true
 | [],_=>by simp
 | k::r,h=>by
  simp only [YU,af,aj] at h;intro k' hk';rcases aL.1 hk' with rfl | hm
  .exact h.1
  .exact jcb h.2 k' hm
def renF (f:Nat->Nat):Fr->Fr
 | []=>[]
 | (t,x)::r=>(t,x.ren f)::renF f r
def idsF (p:Nat->Bool):Fr->Bool
 | []=>true
 | (t,x)::r=>x.ids p&&idsF p r
theorem ade {f g:Nat->Nat} {p:Nat->Bool} (h : ∀ o,p o=true->g (f o)=o) : ∀ (σ:Fr),idsF p σ=true -> ∀ t,σ.lk t=((renF f σ).lk t).ren g
 | [],_,t=>by simp [renF,Fr.lk,V.ren]
 | (k,x)::r,hx,t=>by
  simp only [idsF,af] at hx;simp only [renF,Fr.lk];split
  .rw [JV h x hx.1]
  .exact ade h r hx.2 t
mutual
theorem aut : ∀ x:V,x.ren (fun o=>o)=x
 | .agg xs=>by simp only [V.ren,acn xs]
 | .tuple xs=>by simp only [V.ren,acn xs]
 | .func k xs=>by simp only [V.ren,acn xs]
 | .slice o off len=>by simp only [V.ren]
 | .ptr o off=>by simp only [V.ren]
 | .map o=>by simp only [V.ren]
 | .bool _ | .int _ _ | .str _ | .nils | .nilp | .nilf | .nilm | .list _ | .ref _ | .junk=>by simp only [V.ren]
theorem acn : ∀ xs:List V,V.renL (fun o=>o) xs=xs
 | []=>by simp only [V.renL]
 | x::xs=>by simp only [V.renL,aut x,acn xs]
end
theorem WI {f:Nat->Nat} {p:Nat->Bool} (h : ∀ o,p o=true->f o=o) (x:V) (hx:x.ids p=true):x.ren f=x:=by
 have k:=JV (f:=fun o=>o) (g:=f) (p:=p) h x hx;rw [aut] at k;exact k
theorem afw {B:Store} {ks:List Nat} {L:Nat} {c d:Option (Nat × List V)} (h:jbz B.nx ks c=true) {e:Nat × List V} (he:gcE B.nx ks c=some e):c=some (e.1,V.renL (gcOf B.nx L ks) e.2):=by
 cases c with
 | none=>simp [gcE] at he
 | some c =>
  simp only [gcE,bj,ay] at he;subst he;simp only;rw [am2 (p:=gcP B.nx ks) (fun o ho=>acs o ho) c.2 h]
theorem ajl (n:Nat) (ks:List Nat) (o:Nat) (d d':Option (Nat × List V)) : ∀ u:Upds,Km n ks u=true->(uGet (gcU n ks u) o d'=d'/\uGet u o d=d) \/ ∃ c,jbz n ks c=true/\uGet u o d=c/\uGet (gcU n ks u) o d'=gcE n ks c
 | [],_ => .inl ⟨rfl,rfl⟩
 | (k,c)::r,h=>by
  simp only [Km,af] at h;simp only [gcU,uGet]
  by_cases e:o=k
  .rw [if_pos e,if_pos e]; exact .inr ⟨c,h.1,rfl,rfl⟩
  .rw [if_neg e,if_neg e]; exact ajl n ks o d d' r h.2
theorem ahu {B:Store} {ks:List Nat} {u:Upds} {l:List (Option (Nat × List V))} (hw:B.Wf) (h1:ks.Nodup) (h2:Km B.nx ks u=true) (h3:YU B.nx ks l ks=true) :
  RenS (gcOf B.nx l.length ks) B.nx (St B u l) (St B (gcU B.nx ks u) (gcL B.nx ks l ks)):=by
 have h3:=jcb h3;rw [ajv];have hf : ∀ j (hj:j<ks.length),gcOf B.nx l.length ks (lid B.nx j)=lid B.nx ks[j]:=fun j hj=>by simp [gcOf,lid,hj,KQ]
 have ho : ∀ o,o<B.nx->gcOf B.nx l.length ks o=o:=fun o h=>by simp [gcOf,h]
 refine ⟨fun o c hc => ?_,fun o o' hs hs' he => ?_,fun o hle => ?_,ho,by simp [St,lid]⟩
 .by_cases h:o<B.nx
  .rw [jk h] at hc;rw [ho o h,jk h];refine ⟨by simp [St,lid]; omega, ?_⟩;rcases ajl B.nx ks o (B.get o) (B.get o) u h2 with ⟨e1,e2⟩ | ⟨d,e1,e2,e3⟩
   .rw [e1] at hc;rw [e2,hc];have:=hw.ids o c hc;simp only [qF,aD] at this;rw [qi,(aZ fun x hm=>WI (fun o h=>ho o (by simpa using h)) x (this x hm)).trans (List.map_id _)]
   .rw [e3] at hc;rw [e2];exact afw (d:=none) e1 hc
  .have hk:o=lid B.nx (o-B.nx):=by simp [lid]; omega
   generalize o-B.nx=j at hk;subst hk;rw [jB] at hc;simp only [a6] at hc
   cases hj:ks[j]? with
   | none=>simp [hj] at hc
   | some k =>
    obtain ⟨hlt,hke⟩:=ae.1 hj;subst hke;simp only [hj,bj,Option.join_some] at hc;refine ⟨by simp [St,lid,hlt], ?_⟩;rw [hf j hlt,jB];exact afw (d:=none) (h3 _ (ah hlt)).2 hc
 .have cs : ∀ o,((St B (gcU B.nx ks u) (ks.map fun k=>gcE B.nx ks ((l[k]?).join))).get o).isSome=true->o<B.nx \/ ∃ j, ∃ hj:j<ks.length,o=lid B.nx j:=by
   intro o hs
   by_cases h:o<B.nx
   .exact .inl h
   .have hk:o=lid B.nx (o-B.nx):=by simp [lid]; omega
    refine .inr ⟨o-B.nx, ?_,hk⟩;rw [hk,jB,a6] at hs
    cases hj:ks[o-B.nx]? with
    | none=>simp [hj] at hs
    | some k=>exact (ae.1 hj).1
  rcases cs o hs with c1 | ⟨j,hj,rfl⟩
  .rcases cs o' hs' with d1 | ⟨j',hj',rfl⟩
   .rw [ho o c1,ho o' d1] at he; exact he
   .rw [ho o c1,hf j' hj'] at he; simp [lid] at he; omega
  .rcases cs o' hs' with d1 | ⟨j',hj',rfl⟩
   .rw [ho o' d1,hf j hj] at he; simp [lid] at he; omega
   .rw [hf j hj,hf j' hj'] at he;have:ks[j]=ks[j']:=by simpa [lid] using he
    rw [(List.getElem_inj h1).1 this]
 .simp only [St,lid,aI] at hle ⊢;have : ¬ o<B.nx:=by omega
  simp [gcOf,this,lid,aJ (show ks.length<=o-B.nx by omega)]
  try omega
theorem Reach.gc {N:Nat} {B:Store} {u u':Upds} {l l':List (Option (Nat × List V))} {σ σ':Fr} (ks:List Nat) (hw:B.Wf) (h1:ks.Nodup) (h2:(Km B.nx ks u&&YU B.nx ks l ks&&idsF (gcP B.nx ks) σ)=true)
  (hu:gcU B.nx ks u=u') (hl:gcL B.nx ks l ks=l') (hσ:renF (gcTo B.nx ks) σ=σ'):Reach N B.nx σ (St B u l) σ' (St B u' l'):=by
 simp only [af] at h2;subst hu; subst hl; subst hσ;exact Reach.ren (ahu hw h1 h2.1.1 h2.1.2) (ade (fun o ho=>acs o ho) σ h2.2)
theorem GhostB.done {B S':Store} {u:Upds} {l:List (Option (Nat × List V))} {x:V} (hw:B.Wf) (hx:x.ids (fun o=>decide (o<B.nx))=true) (hu:Km B.nx [] u=true) (hS:St B (gcU B.nx [] u) []=S'):GhostB B.nx x (St B u l) x S':=by
 subst hS;have h:=ahu (ks:=[]) (l:=l) hw List.nodup_nil hu rfl;exact GhostB.ren h (WI (fun o ho=>h.fix o (by simpa using ho)) x hx).symm
end Go.Vw
/-
 The calculus in the form that a walk uses: paths into a body, operations one by one.
-/
namespace Go.Vw
open Go.RowKit
def jc (f:Func):Code:=f.body.getD .skip
def Code.fst:Code->Code | .seq a _=>a | c=>c
def Code.snd:Code->Code | .seq _ b=>b | c=>c
def Code.inner:Code->Code | .block _ c=>c | .loop c=>c | .scope c=>c | c=>c
def Code.thn:Code->Code | .cond _ a _=>a | c=>c
def Code.els:Code->Code | .cond _ _ b=>b | c=>c
def Code.test:Code->Operand | .cond c _ _=>c | _ => .func 0
def Code.ops:Code->Array Oper | .region _ ops _=>ops | _ => #[]
def Code.kind:Code->Nat
 | .skip=>0 | .region _ _ false=>1 | .region _ _ true=>2 | .seq _ _=>3 | .cond _ _ _=>4 | .block _ _=>5 | .loop _=>6 | .exit _=>7 | .ret=>8 | .scope _=>9 | .label _=>10 | _=>11
def Code.id:Code->Nat | .block i _=>i | .exit i=>i | _=>0
def vsegO (P:Program) (z:Option ZZ) (o:Option (List CO)) (K:Fr->Store->Prop) (σ:Fr) (S:Store):Prop :=
 match o with
 | some cs=>jI P z cs K σ S
 | none=>False
section
variable {P:Program} {N b:Nat} {Q:Exit->Fr->Store->Prop} {σ:Fr} {S:Store} {c:Code}
theorem JO (h:Code.kind c=3) (H:VWp P N b (Code.fst c) (JS (VWp P N b (Code.snd c) Q) Q) σ S):VWp P N b c Q σ S:=by
 cases c<;>first | exact ayf H | (simp [Code.kind] at h; done) | (rename_i d; cases d<;>simp [Code.kind] at h)
theorem jL (id:Nat) (h:Code.kind c=5) (hi:Code.id c=id) (H:VWp P N b (Code.inner c) (ZT id Q) σ S):VWp P N b c Q σ S:=by
 cases c<;>first | (simp only [Code.id] at hi; subst hi; exact asq H) | (simp [Code.kind] at h; done) | (rename_i d; cases d<;>simp [Code.kind] at h)
theorem jP (id:Nat) (h:Code.kind c=7) (hi:Code.id c=id) (H:Q (.exit id) σ S):VWp P N b c Q σ S:=by
 cases c<;>first | (simp only [Code.id] at hi; subst hi; exact au8 H) | (simp [Code.kind] at h; done) | (rename_i d; cases d<;>simp [Code.kind] at h)
theorem jH (h:Code.kind c=8) (H:Q .ret σ S):VWp P N b c Q σ S:=by
 cases c<;>first | exact axh H | (simp [Code.kind] at h; done) | (rename_i d; cases d<;>simp [Code.kind] at h)
def noGotoV (Q:Exit->Fr->Store->Prop):Exit->Fr->Store->Prop
 | .goto _=>fun _ _=>False
 | e=>Q e
theorem ake (h:Code.kind c=9) (H:VWp P N b (Code.inner c) (noGotoV Q) σ S):VWp P N b c Q σ S:=by
 cases c with
 | scope x =>
  intro m β w a hS hF;refine wp_scope_straight (wp_mono (H m β w a hS hF) ?_);rintro e a' w' ⟨σ',S',m',β',q,r1,r2,r3⟩
  cases e with
  | goto l=>exact q.elim
  | _=>exact ⟨σ',S',m',β',q,r1,r2,r3⟩
 | region id ops d=>cases d<;>simp [Code.kind] at h
 | _=>simp [Code.kind] at h
theorem ak7 (h:Code.kind c=10) (H:Q .normal σ S):VWp P N b c Q σ S:=by
 cases c with
 | label l=>exact fun m β w a hS hF=>wp_label ⟨σ,S,m,β,H,hS,hF,ExtB.refl _ _ _ _⟩
 | region id ops d=>cases d<;>simp [Code.kind] at h
 | _=>simp [Code.kind] at h
theorem jz (h:Code.kind c=0) (H:Q .normal σ S):VWp P N b c Q σ S:=by
 cases c<;>first | exact axb H | (simp [Code.kind] at h; done) | (rename_i d; cases d<;>simp [Code.kind] at h)
theorem ah2 (h:Code.kind c=1) (H:vsegO P none (qj P N (Code.ops c)) (Q .normal) σ S):VWp P N b c Q σ S:=by
 cases c with
 | region id ops d =>
  cases d
  .simp only [Code.ops] at H
   cases hc:qj P N ops with
   | none=>rw [hc] at H; exact H.elim
   | some cs=>rw [hc] at H; exact ap9 hc (JJ cs σ S H)
  .simp [Code.kind] at h
 | _=>simp [Code.kind] at h
theorem aou (Z:ZZ) (h:Code.kind c=2) (hm:P.follows .mixedOrders=true) (hB:lexW Z.es (qV (Code.ops c)) (Code.ops c) ((qj P N (Code.ops c)).getD []) ((qj P N (Code.ops c)).getD []).length 0 (Array.replicate (Code.ops c).size false)=true)
  (hE:zD (qV (Code.ops c)) ((qj P N (Code.ops c)).getD []) Z.es=true) (hz:Z.ok S) (h0:Z.z0.Sub S) (H:vsegO P (some Z) (qj P N (Code.ops c)) (Q .normal) σ S):VWp P N b c Q σ S:=by
 cases c with
 | region id ops d =>
  cases d
  .simp [Code.kind] at h
  .simp only [Code.ops] at H hB hE
   cases hc:qj P N ops with
   | none=>rw [hc] at H; exact H.elim
   | some cs =>
    rw [hc] at H hB hE;exact jbr hm hc hB hE hz h0 (ze cs σ S H)
 | _=>simp [Code.kind] at h
theorem Store.sub_refl (S:Store):S.Sub S:=fun _ _ h=>h
theorem ZZ.plain_ok (S:Store):(ZZ.plain S).ok S:=⟨S.sub_refl,S.sub_refl.shp⟩
theorem nr {α:Sort _} {a b:α} (h:a=b):a=b:=by cases h; rfl
def vcond (v:V) (A B:Prop):Prop :=
 match v with
 | .bool t=>(t=true->A)/\(t=false->B)
 | _=>False
theorem jak (h:Code.kind c=4) {z:Arg} (hz:jt (Code.test c)=some z) (H:vcond (ev σ z) (VWp P N b (Code.thn c) Q σ S) (VWp P N b (Code.els c) Q σ S)):VWp P N b c Q σ S:=by
 cases c with
 | cond t x y =>
  simp only [vcond] at H;split at H
  .rename_i b hb; exact avf hz hb H.1 H.2
  .exact H.elim
 | region id ops d=>cases d<;>simp [Code.kind] at h
 | _=>simp [Code.kind] at h
def jx (N b:Nat) (I:Nat->Fr->Store->Prop) (ks:List Nat) (n:Nat) (σ:Fr) (S:Store):Prop := ∃ n',n'<n /\ ∃ σc Sc,Reach N b (σ.oy ks) S σc Sc/\I n' σc Sc
theorem again {N b:Nat} {I:Nat->Fr->Store->Prop} {ks:List Nat} {n n':Nat} {σ:Fr} {S:Store} (h:n'<n/\I n' (σ.oy ks) S):jx N b I ks n σ S:=⟨n',h.1,_,_,Reach.refl _ _,h.2⟩
theorem jd (ks:List Nat) (h:Code.kind c=6) (I:Nat->Fr->Store->Prop) (n0:Nat) (h0:I n0 (σ.oy ks) S)
  (round : ∀ n σ S,I n σ S->VWp P N b (Code.inner c) (JS (jx N b I ks n) Q) σ S):VWp P N b c Q σ S:=by
 cases c with
 | loop x=>exact aw1 ks I n0 h0 round
 | region id ops d=>cases d<;>simp [Code.kind] at h
 | _=>simp [Code.kind] at h
end
section
variable (K:Fr->Store->Prop) (Q:Exit->Fr->Store->Prop) (i j:Nat) (σ:Fr) (S:Store)
end
/-! ### Operations one by one -/
def opPick:V->V->V->Option V
 | .bool t,x,y=>some (if t then x else y)
 | _,_,_=>none
def opBox (S:Store) (x:V):Option (V × Store):=if x.cells.all V.one then some (.ptr S.nx 0,S.add (x.ncells,x.cells)) else none
def opNil (S:Store):V->Option V
 | .ptr o p=>if (S.get o).isSome=true then some (.ptr o p) else none
 | .ref y=>some (.ref y)
 | _=>none
def opConv (k:IntKind):V->Option V
 | .int _ n=>some (.int k (k.wrap n))
 | _=>none
def opLenS:V->Option V
 | .str s=>some (.int .i64 s.size)
 | _=>none
def opExtract (i:Nat):V->Option V
 | .tuple xs=>xs[i]?
 | _=>none
section
variable (P:Program) (z:Option ZZ) (r:List CO) (K:Fr->Store->Prop) (σ:Fr) (S:Store) (d:Option Nat)
def vcall (P:Program) (z:Option ZZ) (f:FuncId) (args:List V) (S:Store) (r:List CO) (K:Fr->Store->Prop) (σ:Fr) (d:Option Nat):Prop:=zU P z d f args S fun v S'=>jI P z r K (σ.put d v) S'
theorem Wj (f:FuncId) (args:List Arg):jI P z (⟨d,none, .call f args⟩::r) K σ S=vcall P z f (args.map (ev σ)) S r K σ d:=nr rfl
def vcallv (P:Program) (z:Option ZZ) (f:V) (args:List V) (S:Store) (r:List CO) (K:Fr->Store->Prop) (σ:Fr) (d:Option Nat):Prop :=
 match f with
 | .func g caps=>jT P g=true/\vcall P z g (args++caps) S r K σ d
 | _=>False
theorem jcr (f:Arg) (args:List Arg):jI P z (⟨d,none, .callv f args⟩::r) K σ S=vcallv P z (ev σ f) (args.map (ev σ)) S r K σ d:=by
 simp only [jI,vopG,vcallv]
 cases ev σ f<;>rfl
def vguard (v:V) (want:Bool) (A B:Prop):Prop :=
 match v with
 | .bool b=>if b=want then A else B
 | .tuple []=>B
 | _=>False
variable {P} {z} {r} {K} {σ} {S} {d}
def noW:Option ZZ->Option Nat->Bool
 | none,_=>true
 | some z,d => !wrcL z.es d
theorem VPure.call {f:FuncId} {args:List V} {X:V} (h:VPure P f args X) (hk:jI P z r K (σ.put d X) S) (hz:noW z d=true):vcall P z f args S r K σ d:=by
 cases z with
 | none=>exact h.use hk
 | some Z =>
  have hw : ¬ wrcL Z.es d=true:=by simpa [noW] using hz
  show zU P (some Z) d f args S _;simp only [zU];rw [if_neg hw];exact ⟨X,h.toZ _,hk⟩
end
/-! ### Runs of operations, the state alone -/
def COp.isCall:COp->Bool
 | .call _ _ | .callv _ _=>true
 | _=>false
def runV (z:Option ZZ):List CO->Fr->Store->Option (List CO × Fr × Store)
 | [],σ,S=>some ([],σ,S)
 | o::r,σ,S=>match o.guard with
  | some (t,want)=>match σ.lk t with
   | .bool b=>if b=want then
     (if o.op.isCall=true\/(o.op.reader=false/\z.isSome=true) then some (⟨o.dst,none,o.op⟩::r,σ,S) else match jh (ev σ) (if o.op.reader=true then rd z o.dst o.op S else S) o.op with
      | some (v,S')=>runV z r (σ.put o.dst v) (if o.op.reader=true then S else S')
      | none=>none)
    else runV z r (σ.put o.dst (.tuple [])) S
   | .tuple []=>runV z r (σ.put o.dst (.tuple [])) S
   | _=>none
  | none=>if o.op.isCall=true\/(o.op.reader=false/\z.isSome=true) then some (⟨o.dst,none,o.op⟩::r,σ,S) else match jh (ev σ) (if o.op.reader=true then rd z o.dst o.op S else S) o.op with
   | some (v,S')=>runV z r (σ.put o.dst v) (if o.op.reader=true then S else S')
   | none=>none
theorem ar9 {P:Program} {z:Option ZZ} {σ:Fr} {S:Store} {d:Option Nat} {op:COp} {k:V->Store->Prop} {v:V} {S':Store} (hc : ¬ (op.isCall=true\/(op.reader=false/\z.isSome=true)))
  (he:jh (ev σ) (if op.reader=true then rd z d op S else S) op=some (v,S')) (hk:k v (if op.reader=true then S else S')):vopG P z σ S d op k:=by
 have h1:op.isCall=false:=by cases h:op.isCall<;>simp_all
 by_cases hr:op.reader=true
 .rw [if_pos hr] at he hk
  cases op<;>first | (simp [COp.isCall] at h1; done) | (simp [COp.reader] at hr; done) | (simp only [vopG,COp.reader,if_true,he]; exact hk)
 .have hz:z=none:=by
   cases z with
   | none=>rfl
   | some Z=>exact absurd (.inr ⟨by simpa using hr,rfl⟩) hc
  subst hz;rw [if_neg hr] at he hk
  cases op<;>first | (simp [COp.isCall] at h1; done) | (simp [COp.reader] at hr; done) | (simp only [vopG,COp.reader,aF,if_false,he]; exact ⟨trivial,hk⟩)
theorem Ji {P:Program} {z:Option ZZ} {K:Fr->Store->Prop} {rest:List CO} {σ':Fr} {S':Store} : ∀ (cs:List CO) (σ:Fr) (S:Store),runV z cs σ S=some (rest,σ',S')->jI P z rest K σ' S'->jI P z cs K σ S
 | [],σ,S,h,hk=>by simp only [runV,ay,Prod.mk.injEq] at h; obtain ⟨rfl,rfl,rfl⟩:=h; exact hk
 | o::r,σ,S,h,hk=>by
  have go:(if o.op.isCall=true\/(o.op.reader=false/\z.isSome=true) then some (⟨o.dst,none,o.op⟩::r,σ,S) else match jh (ev σ) (if o.op.reader=true then rd z o.dst o.op S else S) o.op with
      | some (v,S')=>runV z r (σ.put o.dst v) (if o.op.reader=true then S else S')
      | none=>none)=some (rest,σ',S')->vopG P z σ S o.dst o.op fun v S'=>jI P z r K (σ.put o.dst v) S':=by
   intro h;split at h
   .simp only [ay,Prod.mk.injEq] at h;obtain ⟨rfl,rfl,rfl⟩:=h;simpa only [jI] using hk
   .rename_i hc;split at h
    .rename_i v S1 hv;exact ar9 hc hv (Ji r _ _ h hk)
    .cases h
  simp only [runV] at h;simp only [jI]
  cases hg:o.guard with
  | none=>simp only [hg] at h; exact go h
  | some tw =>
   obtain ⟨t,want⟩:=tw;simp only [hg] at h;simp only
   cases hv:σ.lk t with
   | bool b =>
    simp only [hv] at h;simp only;split at h
    .rename_i hb; rw [if_pos hb]; exact go h
    .rename_i hb; rw [if_neg hb]; exact Ji r _ _ h hk
   | tuple xs =>
    cases xs with
    | nil=>simp only [hv] at h; exact Ji r _ _ h hk
    | cons=>simp [hv] at h
   | _=>simp [hv] at h
section
variable {P:Program} {N b:Nat} {Q:Exit->Fr->Store->Prop} {σ σ':Fr} {S S':Store} {c:Code} {cs rest:List CO}
theorem jX (h:Code.kind c=1) (hc:qj P N (Code.ops c)=some cs) (hr:runV none cs σ S=some (rest,σ',S')) (H:jI P none rest (Q .normal) σ' S'):VWp P N b c Q σ S :=
 ah2 h (by rw [hc]; exact Ji cs σ S hr H)
theorem jbG (Z:ZZ) (h:Code.kind c=2) (hm:P.follows .mixedOrders=true) {ms:List Nat} (hM:qV (Code.ops c)=ms) (hc:qj P N (Code.ops c)=some cs) (hB:lexW Z.es ms (Code.ops c) cs cs.length 0 (Array.replicate (Code.ops c).size false)=true)
  (hE:zD ms cs Z.es=true) (hz:Z.ok S) (h0:Z.z0.Sub S) (hr:runV (some Z) cs σ S=some (rest,σ',S')) (H:jI P (some Z) rest (Q .normal) σ' S'):VWp P N b c Q σ S :=
 aou Z h hm (by rw [hc,hM]; exact hB) (by rw [hc,hM]; exact hE) hz h0 (by rw [hc]; exact Ji cs σ S hr H)
theorem jbd (ms:List Nat) (cs:List CO):zD ms cs []=true:=by
 simp only [zD,aD];intro i _;split
 .rename_i oi _; cases oi.dst<;>simp
 .rfl
theorem Kq (h:Code.kind c=2) (hm:P.follows .mixedOrders=true) {ms:List Nat} (hM:qV (Code.ops c)=ms) (hc:qj P N (Code.ops c)=some cs) (hB:lexZ ms (Code.ops c) cs cs.length 0 (Array.replicate (Code.ops c).size false)=true)
  (hr:runV (some (ZZ.plain S)) cs σ S=some (rest,σ',S')) (H:jI P (some (ZZ.plain S)) rest (Q .normal) σ' S'):VWp P N b c Q σ S :=
 jbG _ h hm hM hc hB (jbd _ _) (ZZ.plain_ok S) S.sub_refl hr H
theorem zd {Z:ZZ} {K:Fr->Store->Prop} {d:Option Nat} {op:COp} (hk:(op.isCall||op.reader)=false) (hr:runV none [⟨d,none,op⟩] σ S=some ([],σ',S')) (hz:Z.ok S') (H:jI P (some Z) rest K σ' S'):jI P (some Z) (⟨d,none,op⟩::rest) K σ S:=by
 have h1:op.isCall=false:=by cases h:op.isCall<;>simp_all
 have h2:op.reader=false:=by cases h:op.reader<;>simp_all
 simp only [runV,h1,h2,aF,Option.isSome_none,and_false,or_false,if_false] at hr;split at hr
 .rename_i v S1 hv;simp only [ay,Prod.mk.injEq,true_and] at hr;obtain ⟨rfl,rfl⟩:=hr;simp only [jI]
  cases op<;>first | (simp [COp.isCall] at h1; done) | (simp [COp.reader] at h2; done) | (simp only [vopG,COp.reader,aF,if_false,hv]; exact ⟨hz,H⟩)
 .cases hr
theorem jam {z:Option ZZ} {K:Fr->Store->Prop} (h:K σ S):jI P z [] K σ S:=h
theorem WD {z:Option ZZ} {K:Fr->Store->Prop} (hr:runV z cs σ S=some (rest,σ',S')) (H:jI P z rest K σ' S'):jI P z cs K σ S:=Ji cs σ S hr H
theorem Ys (h:Code.kind c=4) {t:Bool} {z:Arg} (hz:jt (Code.test c)=some z) (hv:ev σ z = .bool t) (p:Prop) (hp:t=true↔p) (hx:p->VWp P N b (Code.thn c) Q σ S) (hy : ¬ p->VWp P N b (Code.els c) Q σ S):VWp P N b c Q σ S :=
 jak h hz (by rw [hv]; exact ⟨fun ht=>hx (hp.1 ht),fun ht=>hy fun hp'=>by rw [hp.2 hp'] at ht; cases ht⟩)
theorem jC (h:Code.kind c=4) {z:Arg} (hz:jt (Code.test c)=some z) (hv:ev σ z = .bool true) (hx:VWp P N b (Code.thn c) Q σ S):VWp P N b c Q σ S :=
 jak h hz (by rw [hv]; exact ⟨fun _=>hx,(fun ht=>by cases ht)⟩)
theorem jD (h:Code.kind c=4) {z:Arg} (hz:jt (Code.test c)=some z) (hv:ev σ z = .bool false) (hx:VWp P N b (Code.els c) Q σ S):VWp P N b c Q σ S :=
 jak h hz (by rw [hv]; exact ⟨(fun ht=>by cases ht),fun _=>hx⟩)
theorem atb (ks:List Nat) (hk:σ.oy ks=σ') (H:VWp P N b c Q σ' S):VWp P N b c Q σ S:=jcp ks (by rw [hk]; exact H)
theorem jb {z:Option ZZ} {K:Fr->Store->Prop} {d:Option Nat} {f:FuncId} {args:List Arg} {xs:List V} {r:List CO} {X:V} (ha:args.map (ev σ)=xs) (h:VPure P f xs X) (H:jI P z r K (σ.put d X) S) (hz:noW z d=true:=by rfl):jI P z (⟨d,none, .call f args⟩::r) K σ S:=by
 rw [Wj,ha]; exact h.call H hz
theorem Wk {Z:ZZ} {K:Fr->Store->Prop} {d:Option Nat} {f:FuncId} {args:List Arg} {xs:List V} {r:List CO} {X:V} {S S':Store} (ha:args.map (ev σ)=xs) (h:VCalls P f xs S fun r T=>r=X/\T=S') (hw:wrcL Z.es d=true) (hsub:S.Sub S') (hz:Z.ok S') (H:jI P (some Z) r K (σ.put d X) S'):jI P (some Z) (⟨d,none, .call f args⟩::r) K σ S:=by
 rw [Wj,ha];show zU P (some Z) d f xs S _;simp only [zU];rw [if_pos hw];exact ⟨X,S', .inr hsub,h,hz,H⟩
theorem jcs {Z:ZZ} {K:Fr->Store->Prop} {d:Option Nat} {f:FuncId} {args:List Arg} {xs:List V} {r:List CO} {X:V} {S S':Store} (ha:args.map (ev σ)=xs) (h:VCalls P f xs S fun r T=>r=X/\T=S') (hw:wrcL Z.es d=true) (ht:trnL Z.es d=true) (hz:Z.ok S') (H:jI P (some Z) r K (σ.put d X) S'):jI P (some Z) (⟨d,none, .call f args⟩::r) K σ S:=by
 rw [Wj,ha];show zU P (some Z) d f xs S _;simp only [zU];rw [if_pos hw];exact ⟨X,S', .inl ht,h,hz,H⟩
theorem qU {z:Option ZZ} {K:Fr->Store->Prop} {d:Option Nat} {g:FuncId} {caps:List V} {fz:Arg} {args:List Arg} {xs:List V} {r:List CO} {X:V} (hf:ev σ fz = .func g caps) (hc:jT P g=true) (ha:args.map (ev σ)++caps=xs) (h:VPure P g xs X) (H:jI P z r K (σ.put d X) S) (hz:noW z d=true:=by rfl):jI P z (⟨d,none, .callv fz args⟩::r) K σ S:=by
 rw [jcr,hf]; simp only [vcallv]; rw [ha]; exact ⟨hc,h.call H hz⟩
theorem ael {Z:ZZ} {K:Fr->Store->Prop} {d:Option Nat} {g:FuncId} {caps:List V} {fz:Arg} {args:List Arg} {xs:List V} {r:List CO} {X:V} {S S':Store} (hf:ev σ fz = .func g caps) (hc:jT P g=true) (ha:args.map (ev σ)++caps=xs) (h:VCalls P g xs S fun r T=>r=X/\T=S') (hw:wrcL Z.es d=true) (hsub:S.Sub S') (hz:Z.ok S') (H:jI P (some Z) r K (σ.put d X) S'):jI P (some Z) (⟨d,none, .callv fz args⟩::r) K σ S:=by
 rw [jcr,hf]; simp only [vcallv]; rw [ha];refine ⟨hc, ?_⟩;show zU P (some Z) d g xs S _;simp only [zU];rw [if_pos hw];exact ⟨X,S', .inr hsub,h,hz,H⟩
end
section
variable (z:Option ZZ) (r:List CO) (σ:Fr) (S:Store) (d:Option Nat)
def rval (z:Option ZZ) (v:Option V) (r:List CO) (σ:Fr) (S:Store) (d:Option Nat):Option (List CO × Fr × Store) :=
 match v with
 | some v=>runV z r (σ.put d v) S
 | none=>none
def rnew (v:Option (V × Store)) (r:List CO) (σ:Fr) (d:Option Nat):Option (List CO × Fr × Store) :=
 match v with
 | some (v,S')=>runV none r (σ.put d v) S'
 | none=>none
theorem aqg (v:V):rval z (some v) r σ S d=runV z r (σ.put d v) S:=nr rfl
theorem am8 (v:V) (S':Store):rnew (some (v,S')) r σ d=runV none r (σ.put d v) S':=nr rfl
theorem awj (op:COp) (S':Store):rd none d op S'=S':=nr rfl
theorem aqz (op:COp) (Z S':Store):rd (some (ZZ.plain Z)) d op S'=Z:=nr (by
 simp only [rd,ZZ.rd,ZZ.plain]
 cases d<;>simp [ZZ.early])
theorem au5 (op:COp) (z0 zc zs S':Store) (es:List Nat) (t:Nat):rd (some ⟨z0,zc,zs,es⟩) (some t) op S'=if es.contains t=true then z0 else if op.shape=true then zs else zc:=nr rfl
theorem agb (s:Nat) (x i:Arg):(COp.indexAddr s x i).shape=true:=nr rfl
theorem ae9 (o:Nat) (s:Option Nat) (x:Arg):(COp.fieldAddr o s x).shape=true:=nr rfl
theorem ah9 (x:Arg):(COp.nilCheck x).shape=true:=nr rfl
theorem ay2 (x:Arg):(COp.len x).shape=true:=nr rfl
theorem ar1 (s:Nat) (x:Arg) (lo hi mx:Option Arg):(COp.slice s x lo hi mx).shape=true:=nr rfl
theorem awz (s:Option Nat) (x:Arg):(COp.load s x).shape=false:=nr rfl
theorem ayv (op:BinOp) (x y:Arg):(COp.bin op x y).shape=false:=nr rfl
theorem awn:runV z [] σ S=some ([],σ,S):=nr rfl
theorem zh (Z:Store) (v:Option V):(match v.map fun v=>(v,Z) with | some (v,_)=>runV z r (σ.put d v) S | none=>none)=rval z v r σ S d:=by cases v<;>rfl
theorem av3 (f:FuncId) (args:List Arg):runV z (⟨d,none, .call f args⟩::r) σ S=some (⟨d,none, .call f args⟩::r,σ,S):=nr rfl
theorem arn (f:Arg) (args:List Arg):runV z (⟨d,none, .callv f args⟩::r) σ S=some (⟨d,none, .callv f args⟩::r,σ,S):=nr rfl
theorem apq (t:Nat) (want:Bool) (op:COp) (h:σ.lk t = .bool want):runV z (⟨d,some (t,want),op⟩::r) σ S=runV z (⟨d,none,op⟩::r) σ S:=by simp [runV,h]
theorem an8 (t:Nat) (want b:Bool) (op:COp) (h:σ.lk t = .bool b) (hb:b≠want):runV z (⟨d,some (t,want),op⟩::r) σ S=runV z r (σ.put d (.tuple [])) S:=by simp [runV,h,hb]
theorem am0 (t:Nat) (want:Bool) (op:COp) (h:σ.lk t = .tuple []):runV z (⟨d,some (t,want),op⟩::r) σ S=runV z r (σ.put d (.tuple [])) S:=by simp [runV,h]
theorem aux (x:Arg):runV z (⟨d,none, .move x⟩::r) σ S=runV z r (σ.put d (ev σ x)) S:=nr rfl
theorem av6 (c x y:Arg):runV z (⟨d,none, .pick c x y⟩::r) σ S=rval z (opPick (ev σ c) (ev σ x) (ev σ y)) r σ S d:=by
 simp only [runV,COp.isCall,COp.reader,jh,aF,bx,false_and,or_false,if_false,if_true]
 cases ev σ c<;>rfl
theorem asx (zs:List V):runV none (⟨d,none, .alloc zs⟩::r) σ S=runV none r (σ.put d (.ptr S.nx 0)) (S.add (zs.length,zs)):=nr rfl
theorem ax5 (x:Arg):runV none (⟨d,none, .box x⟩::r) σ S=rnew (opBox S (ev σ x)) r σ d:=nr rfl
theorem atg (zs:List V) (ps:List (Nat × Nat × Arg)):runV z (⟨d,none, .build zs ps⟩::r) σ S=rval z ((ql (ev σ) zs ps).map .agg) r σ S d:=by
 simp only [runV,COp.isCall,COp.reader,jh,aF,bx,false_and,or_false,if_false,if_true]
 cases ql (ev σ) zs ps<;>rfl
theorem jcC (s len:Nat) (zs:List V) (ps:List (Nat × Nat × Arg)):runV none (⟨d,none, .buildSlice s len zs ps⟩::r) σ S=rnew ((ql (ev σ) (rep0 zs len) ps).map fun cs=>(.slice S.nx 0 len,S.add (s,cs))) r σ d:=nr rfl
theorem awi (sz:Option Nat) (x:Arg):runV z (⟨d,none, .load sz x⟩::r) σ S=rval z (Js sz (rd z d (.load sz x) S) (ev σ x)) r σ S d:=by
 simp only [runV,COp.isCall,COp.reader,jh,aF,bx,false_and,or_false,if_false,if_true];exact zh z r σ S d (rd z d (.load sz x) S) _
theorem aqq (sz:Option Nat) (p v:Arg):runV none (⟨d,none, .store sz p v⟩::r) σ S=rnew ((YF sz S (ev σ p) (ev σ v)).map fun S'=>(.tuple [],S')) r σ d:=nr rfl
theorem ah5 (x:Arg):runV z (⟨d,none, .nilCheck x⟩::r) σ S=rval z (opNil (rd z d (.nilCheck x) S) (ev σ x)) r σ S d:=by
 simp only [runV,COp.isCall,COp.reader,jh,opNil,aF,bx,false_and,or_false,if_false,if_true]
 cases ev σ x with
 | ptr o p=>cases hs:((rd z d (.nilCheck x) S).get o).isSome<;>simp [hs,rval]
 | _=>rfl
theorem ayn (op:BinOp) (x y:Arg):runV z (⟨d,none, .bin op x y⟩::r) σ S=rval z (jbv op (ev σ x) (ev σ y)) r σ S d:=by
 simp only [runV,COp.isCall,COp.reader,jh,aF,bx,false_and,or_false,if_false,if_true];exact zh z r σ S d (rd z d (.bin op x y) S) _
theorem ay3 (neg:Bool) (x y:Arg):runV z (⟨d,none, .beq neg x y⟩::r) σ S=rval z (opBeq neg (ev σ x) (ev σ y)) r σ S d:=by
 simp only [runV,COp.isCall,COp.reader,jh,aF,bx,false_and,or_false,if_false,if_true];exact zh z r σ S d (rd z d (.beq neg x y) S) _
theorem aze (op:UnOp) (x:Arg):runV z (⟨d,none, .un op x⟩::r) σ S=rval z (opUn op (ev σ x)) r σ S d:=by
 simp only [runV,COp.isCall,COp.reader,jh,aF,bx,false_and,or_false,if_false,if_true];exact zh z r σ S d (rd z d (.un op x) S) _
theorem avh (k:IntKind) (x:Arg):runV z (⟨d,none, .conv k x⟩::r) σ S=rval z (opConv k (ev σ x)) r σ S d:=by
 simp only [runV,COp.isCall,COp.reader,jh,aF,bx,false_and,or_false,if_false,if_true]
 cases ev σ x<;>rfl
theorem ah4 (f:FuncId) (cs:List Arg):runV z (⟨d,none, .makeFunc f cs⟩::r) σ S=runV z r (σ.put d (.func f (cs.map (ev σ)))) S:=nr rfl
theorem ag7 (s b:Nat) (zs:List V) (l c:Arg):runV none (⟨d,none, .makeSlice s b zs l c⟩::r) σ S=rnew (WR s b zs S (ev σ l) (ev σ c)) r σ d:=nr rfl
theorem as5 (s:Nat) (x:Arg) (lo hi mx:Option Arg):runV z (⟨d,none, .slice s x lo hi mx⟩::r) σ S=rval z (qp s (rd z d (.slice s x lo hi mx) S) (ev σ x) (lo.map (ev σ)) (hi.map (ev σ)) (mx.map (ev σ))) r σ S d:=by
 simp only [runV,COp.isCall,COp.reader,jh,aF,bx,false_and,or_false,if_false,if_true];exact zh z r σ S d (rd z d (.slice s x lo hi mx) S) _
theorem af7 (off:Nat) (sz:Option Nat) (x:Arg):runV z (⟨d,none, .fieldAddr off sz x⟩::r) σ S=rval z (jJ off sz (rd z d (.fieldAddr off sz x) S) (ev σ x)) r σ S d:=by
 simp only [runV,COp.isCall,COp.reader,jh,aF,bx,false_and,or_false,if_false,if_true];exact zh z r σ S d (rd z d (.fieldAddr off sz x) S) _
theorem asb (off:Nat) (sz:Option Nat) (x:Arg):runV z (⟨d,none, .field off sz x⟩::r) σ S=rval z (YH off sz (ev σ x)) r σ S d:=by
 simp only [runV,COp.isCall,COp.reader,jh,aF,bx,false_and,or_false,if_false,if_true];exact zh z r σ S d (rd z d (.field off sz x) S) _
theorem ag9 (s:Nat) (x i:Arg):runV z (⟨d,none, .indexAddr s x i⟩::r) σ S=rval z (jF s (rd z d (.indexAddr s x i) S) (ev σ x) (ev σ i)) r σ S d:=by
 simp only [runV,COp.isCall,COp.reader,jh,aF,bx,false_and,or_false,if_false,if_true];exact zh z r σ S d (rd z d (.indexAddr s x i) S) _
theorem axw (x:Arg):runV z (⟨d,none, .len x⟩::r) σ S=rval z (KY (rd z d (.len x) S) (ev σ x)) r σ S d:=by
 simp only [runV,COp.isCall,COp.reader,jh,aF,bx,false_and,or_false,if_false,if_true];exact zh z r σ S d (rd z d (.len x) S) _
theorem ava (x:Arg):runV z (⟨d,none, .lenS x⟩::r) σ S=rval z (opLenS (ev σ x)) r σ S d:=by
 simp only [runV,COp.isCall,COp.reader,jh,aF,bx,false_and,or_false,if_false,if_true]
 cases ev σ x<;>rfl
theorem at4 (x:Arg):runV z (⟨d,none, .toStr x⟩::r) σ S=rval z (Kw (ev σ x)) r σ S d:=by
 simp only [runV,COp.isCall,COp.reader,jh,aF,bx,false_and,or_false,if_false,if_true];exact zh z r σ S d (rd z d (.toStr x) S) _
theorem axg (neg:Bool) (x y:Arg):runV z (⟨d,none, .seq neg x y⟩::r) σ S=rval z (opSeq neg (ev σ x) (ev σ y)) r σ S d:=by
 simp only [runV,COp.isCall,COp.reader,jh,aF,bx,false_and,or_false,if_false,if_true];exact zh z r σ S d (rd z d (.seq neg x y) S) _
theorem aw7 (x y:Arg):runV z (⟨d,none, .bmin x y⟩::r) σ S=rval z (jcS (ev σ x) (ev σ y)) r σ S d:=by
 simp only [runV,COp.isCall,COp.reader,jh,aF,bx,false_and,or_false,if_false,if_true];exact zh z r σ S d (rd z d (.bmin x y) S) _
theorem alr (s b:Nat) (zs:List V) (x y:Arg):runV none (⟨d,none, .appendN s b zs x y⟩::r) σ S=rnew (zW s b zs S (ev σ x) (ev σ y)) r σ d:=nr rfl
theorem alo (Z:ZZ) (s b:Nat) (zs:List V) (x y:Arg):runV (some Z) (⟨d,none, .appendN s b zs x y⟩::r) σ S=some (⟨d,none, .appendN s b zs x y⟩::r,σ,S):=nr rfl
theorem ape (s b:Nat) (x y:Arg):runV none (⟨d,none, .append s b x y⟩::r) σ S=rnew (jU s b S (ev σ x) (ev σ y)) r σ d:=nr rfl
theorem aw5 (s:Nat) (x y:Arg):runV none (⟨d,none, .copy s x y⟩::r) σ S=rnew (jaJ s S (ev σ x) (ev σ y)) r σ d:=nr rfl
theorem aly (x:Arg) (i:Nat):runV z (⟨d,none, .extract x i⟩::r) σ S=rval z (opExtract i (ev σ x)) r σ S d:=by
 simp only [runV,COp.isCall,COp.reader,jh,aF,bx,false_and,or_false,if_false,if_true]
 cases ev σ x<;>first | rfl | exact zh z r σ S d (rd z d (.extract x i) S) _
theorem asf (Z:ZZ) (zs:List V):runV (some Z) (⟨d,none, .alloc zs⟩::r) σ S=some (⟨d,none, .alloc zs⟩::r,σ,S):=nr rfl
theorem axi (Z:ZZ) (x:Arg):runV (some Z) (⟨d,none, .box x⟩::r) σ S=some (⟨d,none, .box x⟩::r,σ,S):=nr rfl
theorem jcG (Z:ZZ) (s len:Nat) (zs:List V) (ps:List (Nat × Nat × Arg)):runV (some Z) (⟨d,none, .buildSlice s len zs ps⟩::r) σ S=some (⟨d,none, .buildSlice s len zs ps⟩::r,σ,S):=nr rfl
theorem asm (Z:ZZ) (sz:Option Nat) (p v:Arg):runV (some Z) (⟨d,none, .store sz p v⟩::r) σ S=some (⟨d,none, .store sz p v⟩::r,σ,S):=nr rfl
theorem ahj (Z:ZZ) (s b:Nat) (zs:List V) (l c:Arg):runV (some Z) (⟨d,none, .makeSlice s b zs l c⟩::r) σ S=some (⟨d,none, .makeSlice s b zs l c⟩::r,σ,S):=nr rfl
theorem aoo (Z:ZZ) (s b:Nat) (x y:Arg):runV (some Z) (⟨d,none, .append s b x y⟩::r) σ S=some (⟨d,none, .append s b x y⟩::r,σ,S):=nr rfl
theorem av9 (Z:ZZ) (s:Nat) (x y:Arg):runV (some Z) (⟨d,none, .copy s x y⟩::r) σ S=some (⟨d,none, .copy s x y⟩::r,σ,S):=nr rfl
theorem alh:runV none (⟨d,none, .makeMap⟩::r) σ S=runV none r (σ.put d (.map S.nx)) (S.add (0,[])):=nr rfl
theorem am1 (zero:V) (ok:Bool) (x k:Arg):runV z (⟨d,none, .lookup zero ok x k⟩::r) σ S=rval z (qX zero ok (rd z d (.lookup zero ok x k) S) (ev σ x) (ev σ k)) r σ S d:=by
 simp only [runV,COp.isCall,COp.reader,jh,aF,bx,false_and,or_false,if_false,if_true];exact zh z r σ S d (rd z d (.lookup zero ok x k) S) _
theorem ahi (x k v:Arg):runV none (⟨d,none, .mapUpdate x k v⟩::r) σ S=rnew ((qq S (ev σ x) (ev σ k) (ev σ v)).map fun S'=>(.tuple [],S')) r σ d:=nr rfl
theorem aen (s len:Nat) (zero:List V) (ps:List (Nat × Nat × Arg)):runV z (⟨d,none, .buildList s len zero ps⟩::r) σ S=rval z (opList s len (ql (ev σ) (rep0 zero len) ps)) r σ S d:=by
 simp only [runV,COp.isCall,COp.reader,jh,aF,bx,false_and,or_false,if_false,if_true];exact zh z r σ S d (rd z d (.buildList s len zero ps) S) _
theorem akf (g:Bool) (zero:V) (ok:Bool) (x k:Arg):runV z (⟨d,none, .lookup2 g zero ok x k⟩::r) σ S=rval z (Jr g zero ok (rd z d (.lookup2 g zero ok x k) S) (ev σ x) (ev σ k)) r σ S d:=by
 simp only [runV,COp.isCall,COp.reader,jh,aF,bx,false_and,or_false,if_false,if_true];exact zh z r σ S d (rd z d (.lookup2 g zero ok x k) S) _
theorem jcB (g:Bool) (x k v:Arg):runV none (⟨d,none, .mapUpdate2 g x k v⟩::r) σ S=rnew ((zV g S (ev σ x) (ev σ k) (ev σ v)).map fun S'=>(.tuple [],S')) r σ d:=nr rfl
theorem atq (s:Nat) (zs:List V) (x:Arg):runV none (⟨d,none, .clear s zs x⟩::r) σ S=rnew ((YI s zs S (ev σ x)).map fun S'=>(.tuple [],S')) r σ d:=nr rfl
theorem jcF (Z:ZZ) (g:Bool) (x k v:Arg):runV (some Z) (⟨d,none, .mapUpdate2 g x k v⟩::r) σ S=some (⟨d,none, .mapUpdate2 g x k v⟩::r,σ,S):=nr rfl
theorem aty (Z:ZZ) (s:Nat) (zs:List V) (x:Arg):runV (some Z) (⟨d,none, .clear s zs x⟩::r) σ S=some (⟨d,none, .clear s zs x⟩::r,σ,S):=nr rfl
theorem amg (Z:ZZ)  : runV (some Z) (⟨d,none, .makeMap⟩::r) σ S=some (⟨d,none, .makeMap⟩::r,σ,S):=nr rfl
theorem agh (Z:ZZ) (x k v:Arg):runV (some Z) (⟨d,none, .mapUpdate x k v⟩::r) σ S=some (⟨d,none, .mapUpdate x k v⟩::r,σ,S):=nr rfl
end
end Go.Vw
/-
 Lists of Lean as Go's slices.
-/
namespace Go.Vw
open Go.RowKit
def vl {α:Type} (enc:α->V) (l:List α):V := .list (l.map enc)
def cj (n:Int):V := .int .i64 n
def cu (n:Nat):V := .int .i64 (n:Int)
section
variable {α:Type} {enc:α->V} {l:List α} {S:Store}
theorem jE:KY S (vl enc l)=some (.int .i64 (l.length:Int)):=by simp [KY,vl]
theorem jW {s:Nat} {k:IntKind} {i:Nat} (hs : ∀ x,(enc x).ncells=s) (h:i<l.length):jF s S (vl enc l) (.int k (i:Int))=some (.ref (enc l[i])):=by
 simp [jF,vl,h,hs]
theorem jaH {s:Nat} {k:IntKind} {i:Int} (hs : ∀ x,(enc x).ncells=s) (h0:0<=i) (h:i.toNat<l.length):jF s S (vl enc l) (.int k i)=some (.ref (enc l[i.toNat])):=by
 simp [jF,vl,h0,h,hs]
end
theorem ac1 (n:Int):(cj n).ncells=1:=by unfold cj; simp [V.ncells]
theorem ajw (n:Nat):(cu n).ncells=1:=by unfold cu; simp [V.ncells]
theorem azc {α:Type} (enc:α->V) (l:List α):(vl enc l).ncells=1:=by unfold vl; simp [V.ncells]
theorem ark (b:Bool):(V.bool b).ncells=1:=by simp [V.ncells]
theorem aq0 (b:Bool):(V.bool b).one=true:=by simp [V.one]
theorem aw0 (k:IntKind) (n:Int):(V.int k n).one=true:=by simp [V.one]
theorem avg (s:ByteArray):(V.str s).one=true:=by simp [V.one]
theorem aqw:(V.nils).one=true:=by simp [V.one]
theorem atm:(V.nilp).one=true:=by simp [V.one]
theorem as3:(V.nilm).one=true:=by simp [V.one]
theorem asw:(V.nilf).one=true:=by simp [V.one]
theorem arq (l:List V):(V.list l).one=true:=by simp [V.one]
theorem aw9 (x:V):(V.ref x).one=true:=by simp [V.one]
theorem anz (o f l:Nat):(V.slice o f l).one=true:=by simp [V.one]
theorem awa (o f:Nat):(V.ptr o f).one=true:=by simp [V.one]
theorem ath (f:FuncId) (l:List V):(V.func f l).one=true:=by simp [V.one]
theorem awe (o:Nat):(V.map o).one=true:=by simp [V.one]
theorem aok (k:IntKind) (n:Int):(V.int k n).cells=[V.int k n]:=by simp [V.cells]
theorem ax8 (k:IntKind) (n:Int):(V.int k n).ncells=1:=by simp [V.ncells]
theorem ang (s:ByteArray):(V.str s).cells=[V.str s]:=by simp [V.cells]
theorem aya (s:ByteArray):(V.str s).ncells=1:=by simp [V.ncells]
theorem akq:(V.nils).cells=[V.nils]:=by simp [V.cells]
theorem aws:(V.nils).ncells=1:=by simp [V.ncells]
theorem ale:(V.nilp).cells=[V.nilp]:=by simp [V.cells]
theorem avu:(V.nilp).ncells=1:=by simp [V.ncells]
theorem al9:(V.nilm).cells=[V.nilm]:=by simp [V.cells]
theorem avp:(V.nilm).ncells=1:=by simp [V.ncells]
theorem aki:(V.nilf).cells=[V.nilf]:=by simp [V.cells]
theorem av2:(V.nilf).ncells=1:=by simp [V.ncells]
theorem al4 (l:List V):(V.list l).cells=[V.list l]:=by simp [V.cells]
theorem aw3 (l:List V):(V.list l).ncells=1:=by simp [V.ncells]
theorem aor (x:V):(V.ref x).cells=[V.ref x]:=by simp [V.cells]
theorem ay1 (x:V):(V.ref x).ncells=1:=by simp [V.ncells]
theorem aid (o f l:Nat):(V.slice o f l).cells=[V.slice o f l]:=by simp [V.cells]
theorem at6 (o f l:Nat):(V.slice o f l).ncells=1:=by simp [V.ncells]
theorem ana (o f:Nat):(V.ptr o f).cells=[V.ptr o f]:=by simp [V.cells]
theorem axo (o f:Nat):(V.ptr o f).ncells=1:=by simp [V.ncells]
theorem ald (f:FuncId) (l:List V):(V.func f l).cells=[V.func f l]:=by simp [V.cells]
theorem avm (f:FuncId) (l:List V):(V.func f l).ncells=1:=by simp [V.ncells]
theorem apn (o:Nat):(V.map o).cells=[V.map o]:=by simp [V.cells]
theorem axu (o:Nat):(V.map o).ncells=1:=by simp [V.ncells]
theorem amk (b:Bool):(V.bool b).cells=[V.bool b]:=by simp [V.cells]
theorem apr (l:List V):(V.agg l).cells=l:=by simp [V.cells]
theorem axx (l:List V):(V.agg l).ncells=l.length:=by simp [V.ncells]
theorem Yh {α:Type} (enc:α->V) (l:List α):(vl enc l).cells=[vl enc l]:=by unfold vl; simp [V.cells]
theorem atz (n:Int):(cj n).one=true:=by unfold cj; simp [V.one]
theorem ate (n:Nat):(cu n).one=true:=by unfold cu; simp [V.one]
theorem ayj {α:Type} (enc:α->V) (l:List α):(vl enc l).one=true:=by unfold vl; simp [V.one]
theorem wrap_i64 {n:Int} (h1 : -9223372036854775808<=n) (h2:n<=9223372036854775807):IntKind.i64.wrap n=n:=by
 rw [IntKind.wrap_i64]; omega
theorem Ghost.box {S:Store} {o s:Nat} {x:V} (hc:S.get o=some (s,[x])) (h1:x.cG=true):Ghost (.ptr o 0) S (.ref x) (S.del o):=by
 intro m β w v hS hr;obtain ⟨b,base,s',n,hob,rfl⟩:=hr.inv_ptr (hS.alive hc);obtain ⟨_,arr,T,e1,e2,e3,e4⟩:=hS.cells_at hc hob;obtain ⟨u,f1,f2,f3⟩:=e4 0 x rfl;obtain ⟨k1,k2⟩:=hS.freeze hc hob e1;refine ⟨_,_,k1,k2, .imm (.ref x u b (base+0) arr T (0,0) (by simp [Imm.set]) ((f2.cG h1).mono k2.imm) fun j c hj => ?_)⟩;have euc:u.cells = #[u]:=by cases u<;>first | rfl | simp [Value.oneCell'] at f3
 rw [euc] at hj
 cases j with
 | zero=>simp at hj; subst hj; exact f1
 | succ j=>simp at hj
theorem jcg {α:Type} (enc:α->V) (l:List α):(vl enc l).cG=true:=rfl
theorem aji (S:Store) (c:Nat × List V):(S.add c).get S.nx=some c:=by simp [Store.add]
theorem jy {P:Program} {N b:Nat} {Q:Exit->Fr->Store->Prop} {σ σ':Fr} {S S':Store} {c:Code} (t:Nat) {x x':V} (hx:σ.lk t=x) (hg:Ghost x S x' S') (hs:σ.set t x'=σ') (h:VWp P N b c Q σ' S'):VWp P N b c Q σ S :=
 aun t hx hg (by rw [hs]; exact h)
end Go.Vw
