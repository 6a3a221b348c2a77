import Derived.Test.YtenhhokhkkfgbaaGreatC6
/- Part of the proof. -/
set_option linter.unusedVariables false
set_option linter.unusedSimpArgs false
/-
 Objects named anew, and stores told one object after the other.
-/
namespace Go.Vw
open Go.RowKit
mutual
def V.ren (f:Nat->Nat):V->V
 | .agg xs => .agg (V.renL f xs)
 | .tuple xs => .tuple (V.renL f xs)
 | .func g xs => .func g (V.renL f xs)
 | .slice o off len => .slice (f o) off len
 | .ptr o off => .ptr (f o) off
 | .map o => .map (f o)
 | .bool b => .bool b
 | .int k n => .int k n
 | .str s => .str s
 | .nils => .nils
 | .nilp => .nilp
 | .nilf => .nilf
 | .nilm => .nilm
 | .list xs => .list xs
 | .ref x => .ref x
 | .junk => .junk
def V.renL (f:Nat->Nat):List V->List V
 | []=>[]
 | x::xs=>V.ren f x::V.renL f xs
end
mutual
def V.ids (p:Nat->Bool):V->Bool
 | .agg xs=>V.idsL p xs
 | .tuple xs=>V.idsL p xs
 | .func _ xs=>V.idsL p xs
 | .slice o _ _=>p o
 | .ptr o _=>p o
 | .map o=>p o
 | _=>true
def V.idsL (p:Nat->Bool):List V->Bool
 | []=>true
 | x::xs=>V.ids p x&&V.idsL p xs
end
theorem qi (f:Nat->Nat) : ∀ xs,V.renL f xs=xs.map (V.ren f)
 | []=>by simp [V.renL]
 | x::xs=>by simp [V.renL,qi f xs]
theorem qr (p:Nat->Bool) : ∀ xs,V.idsL p xs=xs.all (V.ids p)
 | []=>by simp [V.idsL]
 | x::xs=>by simp [V.idsL,qr p xs]
theorem JU {f g:Nat->Nat} {p:Nat->Bool} (h : ∀ o,p o=true->g (f o)=o) : ∀ x:V,x.ids p=true->(x.ren f).ren g=x
 | .agg xs,hx=>by
  simp only [V.ids,qr,aD] at hx;simp only [V.ren,qi,List.map_map,V.agg.injEq];exact (a7 fun x hm=>JU h x (hx x hm)).trans (List.map_id _)
 | .tuple xs,hx=>by
  simp only [V.ids,qr,aD] at hx;simp only [V.ren,qi,List.map_map,V.tuple.injEq];exact (a7 fun x hm=>JU h x (hx x hm)).trans (List.map_id _)
 | .func k xs,hx=>by
  simp only [V.ids,qr,aD] at hx;simp only [V.ren,qi,List.map_map,V.func.injEq,true_and];exact (a7 fun x hm=>JU h x (hx x hm)).trans (List.map_id _)
 | .slice o off len,hx=>by simp only [V.ids] at hx; simp [V.ren,h o hx]
 | .ptr o off,hx=>by simp only [V.ids] at hx; simp [V.ren,h o hx]
 | .map o,hx=>by simp only [V.ids] at hx; simp [V.ren,h o hx]
 | .bool _,_ | .int _ _,_ | .str _,_ | .nils,_ | .nilp,_ | .nilf,_ | .nilm,_ | .list _,_ | .ref _,_ | .junk,_=>by simp [V.ren]
theorem renL_back {f g:Nat->Nat} {p:Nat->Bool} (h : ∀ o,p o=true->g (f o)=o) (xs:List V) (hx:V.idsL p xs=true):V.renL g (V.renL f xs)=xs:=by
 simp only [qr,aD] at hx;simp only [qi,List.map_map];exact (a7 fun x hm=>JU h x (hx x hm)).trans (List.map_id _)
theorem repI_ren {m:Imm} {f:Nat->Nat} : ∀ (x:V) (v:Value),RepI m (x.ren f) v->RepI m x v
 | .agg xs,v,h=>by
  simp only [V.ren,qi] at h;generalize hy:V.agg (xs.map (V.ren f))=y at h
  cases h with
  | agg ys vs hl hr h1 =>
   cases hy
   refine .agg xs vs (by simpa using hl) (fun i x u hx hu => ?_) h1;have:=hr i (x.ren f) u (by simp [hx]) hu;have hsz:SizeOf.sizeOf x<SizeOf.sizeOf xs:=List.sizeOf_lt_of_mem (aA hx);exact repI_ren x u (by assumption)
  | _=>cases hy
 | .tuple xs,v,h=>by simp only [V.ren] at h; cases h
 | .func k xs,v,h=>by simp only [V.ren] at h; cases h
 | .slice o off len,v,h=>by simp only [V.ren] at h; cases h
 | .ptr o off,v,h=>by simp only [V.ren] at h; cases h
 | .map o,v,h=>by simp only [V.ren] at h; cases h
 | .junk,v,h=>by simp only [V.ren] at h; cases h
 | .bool _,v,h | .int _ _,v,h | .str _,v,h | .nils,v,h | .nilp,v,h | .nilf,v,h | .nilm,v,h | .list _,v,h | .ref _,v,h=>by simpa only [V.ren] using h
theorem Wl {m:Imm} {β β':Objs} {f:Nat->Nat} (hf : ∀ o,β (f o) ≠ .fresh->β' o=β (f o)\/β' o = .dead) : ∀ (x:V) (v:Value),Rep m β (x.ren f) v->Rep m β' x v
 | .agg xs,v,h=>by
  simp only [V.ren,qi] at h;obtain ⟨vs,rfl,hl,hr,h1⟩:=h.inv_agg;refine .agg xs vs (by simpa using hl) (fun i x u hx hu => ?_) h1;have:=hr i (x.ren f) u (by simp [hx]) hu;have hsz:SizeOf.sizeOf x<SizeOf.sizeOf xs:=List.sizeOf_lt_of_mem (aA hx);exact Wl hf x u (by assumption)
 | .tuple xs,v,h=>by
  simp only [V.ren,qi] at h;obtain ⟨vs,rfl,hl,hr⟩:=h.inv_tuple;refine .tuple xs vs (by simpa using hl) (fun i x u hx hu => ?_);have:=hr i (x.ren f) u (by simp [hx]) hu;have hsz:SizeOf.sizeOf x<SizeOf.sizeOf xs:=List.sizeOf_lt_of_mem (aA hx);exact Wl hf x u (by assumption)
 | .func k xs,v,h=>by
  simp only [V.ren,qi] at h;obtain ⟨vs,rfl,hr⟩:=h.inv_func;refine .func k xs vs (by simpa using hr.1) (fun i x u hx hu => ?_);have:=hr.2 i (x.ren f) u (by simp [hx]) hu;have hsz:SizeOf.sizeOf x<SizeOf.sizeOf xs:=List.sizeOf_lt_of_mem (aA hx);exact Wl hf x u (by assumption)
 | .slice o off len,v,h=>by
  simp only [V.ren] at h
  cases h with
  | imm h=>cases h
  | sliceDead _ _ _ _ h1 h2 =>
   rcases hf o (by rw [h1]; exact Loc.noConfusion) with e | e
   ·exact .sliceDead o off len v (e.trans h1) h2
   ·exact .sliceDead o off len v e h2
  | sliceVoid _ _ a h1 =>
   rcases hf o (by rw [h1]; exact Loc.noConfusion) with e | e
   ·exact .sliceVoid o off a (e.trans h1)
   ·exact .sliceDead o off 0 _ e rfl
  | slice _ _ _ b base s n cap a h1 hc hcm ha =>
   rcases hf o (by rw [h1]; exact Loc.noConfusion) with e | e
   ·exact .slice o off len b base s n cap a (e.trans h1) hc hcm ha
   ·exact .sliceDead o off len _ e rfl
 | .ptr o off,v,h=>by
  simp only [V.ren] at h
  cases h with
  | imm h=>cases h
  | ptrDead _ _ _ h1 h2 =>
   rcases hf o (by rw [h1]; exact Loc.noConfusion) with e | e
   ·exact .ptrDead o off v (e.trans h1) h2
   ·exact .ptrDead o off v e h2
  | ptr _ _ b base s n h1 =>
   rcases hf o (by rw [h1]; exact Loc.noConfusion) with e | e
   ·exact .ptr o off b base s n (e.trans h1)
   ·exact .ptrDead o off _ e rfl
 | .map o,v,h=>by
  simp only [V.ren] at h
  cases h with
  | imm h=>cases h
  | mapDead _ _ h1 h2 =>
   rcases hf o (by rw [h1]; exact Loc.noConfusion) with e | e
   ·exact .mapDead o v (e.trans h1) h2
   ·exact .mapDead o v e h2
  | map _ b h1 =>
   rcases hf o (by rw [h1]; exact Loc.noConfusion) with e | e
   ·exact .map o b (e.trans h1)
   ·exact .mapDead o _ e rfl
 | .junk,v,_ => .junk v
 | .bool _,v,h | .int _ _,v,h | .str _,v,h | .nils,v,h | .nilp,v,h | .nilf,v,h | .nilm,v,h | .list _,v,h | .ref _,v,h=>by
  simp only [V.ren] at h
  cases h with
  | imm h=>exact .imm h
open Classical in
/-- Where objects lie, by the new names. -/
noncomputable def Jj (f:Nat->Nat) (S':Store) (β:Objs):Objs:=fun o=>if S'.nx<=o then .fresh else if (S'.get o).isSome=true then β (f o) else .dead
structure RenS (f:Nat->Nat) (b:Nat) (S S':Store):Prop where
 get : ∀ o c,S'.get o=some c->o<S'.nx/\S.get (f o)=some (c.1,V.renL f c.2)
 inj : ∀ o o',(S'.get o).isSome=true->(S'.get o').isSome=true->f o=f o'->o=o'
 ge : ∀ o,S'.nx<=o->S.nx<=f o
 fix : ∀ o,o<b->f o=o
 base:b<=S'.nx
section
variable {f:Nat->Nat} {b:Nat} {S S':Store} {m:Imm} {β:Objs} {w:World}
theorem Wm (h:RenS f b S S') (hS:Holds S m β w) : ∀ o,β (f o) ≠ .fresh->Jj f S' β o=β (f o)\/Jj f S' β o = .dead:=by
 intro o ho;have hlt : ¬ S'.nx<=o:=fun hle=>ho ((hS.fresh _).2 (h.ge o hle))
 simp only [Jj,if_neg hlt];split
 ·exact .inl rfl
 ·exact .inr rfl
theorem Jb {o b':Nat} (hb:(Jj f S' β o).block? = some b'):(S'.get o).isSome=true/\(β (f o)).block? = some b':=by
 simp only [Jj] at hb;split at hb
 ·cases hb
 ·split at hb
  ·rename_i h; exact ⟨h,hb⟩
  ·cases hb
theorem Holds.ren (h:RenS f b S S') (hS:Holds S m β w):Holds S' m (Jj f S' β) w/\ExtB b m β w m (Jj f S' β) w:=by
 have hrep:=Wm h hS;refine ⟨⟨hS.imm,fun o b' hb=>hS.apart _ b' (Jb hb).2,fun o o' b' h1 h2 => ?_,fun o => ?_,fun o ho => ?_,fun o ho hn => ?_,fun o c hc => ?_⟩,
  ⟨fun _ _ h=>h,fun o ho hf => ?_,bf _,fun b' hb h1 h2=>⟨rfl,h1,fun o ho=>h2 _ (Jb ho).2⟩,rfl,rfl,rfl⟩⟩
 ·obtain ⟨a1,a2⟩:=Jb h1;obtain ⟨c1,c2⟩:=Jb h2;exact h.inj o o' a1 c1 (hS.inj _ _ b' a2 c2)
 ·simp only [Jj];split
  ·rename_i hle; exact ⟨fun _=>hle,fun _=>rfl⟩
  ·rename_i hle;refine ⟨fun hf => ?_,fun h'=>absurd h' hle⟩;split at hf
   ·rename_i hs;obtain ⟨c,hc⟩:=Option.isSome_iff_exists.1 hs;have:=hS.lt (h.get o c hc).2;have:=(hS.fresh _).1 hf;omega
   ·cases hf
 ·cases hc:S'.get o with
  | none=>rfl
  | some c=>have:=(h.get o c hc).1; omega
 ·simp only [Jj];rw [if_neg (by omega),if_neg (by rw [hn]; simp)]
 ·obtain ⟨hlt,hg⟩:=h.get o c hc;have hl:=hS.live _ _ hg;have e:Jj f S' β o=β (f o):=by simp only [Jj]; rw [if_neg (by omega),if_pos (by rw [hc]; rfl)]
  rw [e]
  cases hβ:β (f o) with
  | fresh=>rw [hβ] at hl; exact hl.elim
  | dead=>rw [hβ] at hl; exact hl.elim
  | void=>rw [hβ] at hl; simp only [Live,qi,List.map_eq_nil_iff] at hl; exact hl
  | lies b' base s n =>
   rw [hβ] at hl;obtain ⟨h0,arr,T,h1,h2,h3,h4⟩:=hl;simp only [qi,aI] at h3;refine ⟨h0,arr,T,h1,h2,h3,fun i x hx => ?_⟩;obtain ⟨v,e1,e2,e3⟩:=h4 i (x.ren f) (by simp [qi,hx]);exact ⟨v,e1,Wl hrep x v e2,e3⟩
  | mp b' =>
   rw [hβ] at hl;obtain ⟨es,clock,h1,h2,h3⟩:=hl;simp only [qi,aI] at h2;refine ⟨es,clock,h1,h2,fun i x e hx he => ?_⟩;obtain ⟨k,v,e1,e2,e3⟩:=h3 i (x.ren f) e (by simp [qi,hx]) he
   cases x<;>simp only [V.ren] at e1<;>first | (cases e1; done) | skip
   rename_i xs
   match xs with
   | []=>simp [V.renL] at e1
   | [x]=>simp [V.renL] at e1
   | x::y::z::r=>simp [V.renL] at e1
   | [x,y] =>
    simp only [V.renL,V.tuple.injEq,List.cons.injEq,and_true] at e1;obtain ⟨rfl,rfl⟩:=e1;exact ⟨x,y,rfl,repI_ren x _ e2,Wl hrep y _ e3⟩
 ·rw [<-h.fix o ho] at hf;have:=hrep o hf;rw [h.fix o ho] at this;exact this
theorem Reach.ren {N:Nat} {σ σ':Fr} (h:RenS f b S S') (hσ : ∀ t,σ.look t=(σ'.look t).ren f):Reach N b σ S σ' S':=by
 intro m β w a hS hF;obtain ⟨h1,h2⟩:=hS.ren h;exact ⟨m,_,h1,⟨hF.size,hF.defers,fun t=>Wl (Wm h hS) _ _ (by rw [<-hσ]; exact hF.rep t)⟩,h2⟩
end
/-! ### What a call leaves, seen otherwise -/
def GhostB (b:Nat) (x:V) (S:Store) (x':V) (S':Store):Prop :=
 ∀ m β w v,Holds S m β w->Rep m β x v -> ∃ m' β',Holds S' m' β' w/\ExtB b m β w m' β' w/\Rep m' β' x' v
theorem Ghost.toB {x x':V} {S S':Store} (h:Ghost x S x' S') (b:Nat):GhostB b x S x' S':=by
 intro m β w v hS hr;obtain ⟨m',β',h1,h2,h3⟩:=h m β w v hS hr;exact ⟨m',β',h1,h2.toB b,h3⟩
theorem GhostB.refl (b:Nat) (x:V) (S:Store):GhostB b x S x S:=(Ghost.refl x S).toB b
theorem GhostB.trans {b:Nat} {x y z:V} {S S' S'':Store} (h:GhostB b x S y S') (k:GhostB b y S' z S''):GhostB b x S z S'':=by
 intro m β w v hS hr;obtain ⟨m',β',h1,h2,h3⟩:=h m β w v hS hr;obtain ⟨m'',β'',k1,k2,k3⟩:=k m' β' w v h1 h3;exact ⟨m'',β'',k1,h2.trans k2,k3⟩
theorem GhostB.ren {f:Nat->Nat} {b:Nat} {S S':Store} {x x':V} (h:RenS f b S S') (hx:x=x'.ren f):GhostB b x S x' S':=by
 intro m β w v hS hr;obtain ⟨h1,h2⟩:=hS.ren h;subst hx;exact ⟨m,_,h1,h2,Wl (Wm h hS) _ _ hr⟩
theorem Yr {m:Imm} {β:Objs} {p:Nat->Bool} (hp : ∀ o,β o ≠ .fresh->p o=true) : ∀ (x:V) (v:Value),Rep m β x v->x.ids p=true
 | .agg xs,v,h=>by
  obtain ⟨vs,rfl,hl,hr,h1⟩:=h.inv_agg;simp only [V.ids,qr,aD];intro x hx;obtain ⟨i,hi,rfl⟩:=a9 hx;have hsz:SizeOf.sizeOf xs[i]<SizeOf.sizeOf xs:=List.sizeOf_lt_of_mem hx;exact Yr hp xs[i] vs[i] (hr i _ _ (ac hi) (ac (by omega)))
 | .tuple xs,v,h=>by
  obtain ⟨vs,rfl,hl,hr⟩:=h.inv_tuple;simp only [V.ids,qr,aD];intro x hx;obtain ⟨i,hi,rfl⟩:=a9 hx;have hsz:SizeOf.sizeOf xs[i]<SizeOf.sizeOf xs:=List.sizeOf_lt_of_mem hx;exact Yr hp xs[i] vs[i] (hr i _ _ (ac hi) (ac (by omega)))
 | .func k xs,v,h=>by
  obtain ⟨vs,rfl,hl,hr⟩:=h.inv_func;simp only [V.ids,qr,aD];intro x hx;obtain ⟨i,hi,rfl⟩:=a9 hx;have hsz:SizeOf.sizeOf xs[i]<SizeOf.sizeOf xs:=List.sizeOf_lt_of_mem hx;exact Yr hp xs[i] vs[i] (hr i _ _ (ac hi) (ac (by omega)))
 | .slice o off len,v,h=>by
  simp only [V.ids]
  cases h with
  | imm h=>cases h
  | sliceDead _ _ _ _ h1 h2=>exact hp o (by rw [h1]; exact Loc.noConfusion)
  | sliceVoid _ _ a h1=>exact hp o (by rw [h1]; exact Loc.noConfusion)
  | slice _ _ _ b base s n cap a h1 hc hcm ha=>exact hp o (by rw [h1]; exact Loc.noConfusion)
 | .ptr o off,v,h=>by
  simp only [V.ids]
  cases h with
  | imm h=>cases h
  | ptrDead _ _ _ h1 h2=>exact hp o (by rw [h1]; exact Loc.noConfusion)
  | ptr _ _ b base s n h1=>exact hp o (by rw [h1]; exact Loc.noConfusion)
 | .map o,v,h=>by
  simp only [V.ids]
  cases h with
  | imm h=>cases h
  | mapDead _ _ h1 h2=>exact hp o (by rw [h1]; exact Loc.noConfusion)
  | map _ b h1=>exact hp o (by rw [h1]; exact Loc.noConfusion)
 | .junk,v,_=>by simp [V.ids]
 | .bool _,v,h | .int _ _,v,h | .str _,v,h | .nils,v,h | .nilp,v,h | .nilf,v,h | .nilm,v,h | .list _,v,h | .ref _,v,h=>by simp [V.ids]
structure Store.Wf (S:Store):Prop where
 gone : ∀ o,S.nx<=o->S.get o=none
 ids : ∀ o c,S.get o=some c->V.idsL (fun o=>decide (o<S.nx)) c.2=true
theorem Holds.wf {S:Store} {m:Imm} {β:Objs} {w:World} (h:Holds S m β w):S.Wf:=by
 refine ⟨h.gone,fun o c hc => ?_⟩;have hp : ∀ o,β o ≠ .fresh->(fun o=>decide (o<S.nx)) o=true:=by
  intro o ho;simp only [aj];rcases Nat.lt_or_ge o S.nx with hl | hl
  ·exact hl
  ·exact absurd ((h.fresh o).2 hl) ho
 have hl:=h.live o c hc;simp only [qr,aD];intro x hx;obtain ⟨i,hi,rfl⟩:=a9 hx
 cases hβ:β o with
 | fresh=>rw [hβ] at hl; exact hl.elim
 | dead=>rw [hβ] at hl; exact hl.elim
 | void=>rw [hβ] at hl; simp only [Live] at hl; rw [hl] at hi; simp at hi
 | lies b' base s n =>
  rw [hβ] at hl;obtain ⟨h0,arr,T,h1,h2,h3,h4⟩:=hl;obtain ⟨v,_,hr,_⟩:=h4 i _ (ac hi);exact Yr hp _ v hr
 | mp b' =>
  rw [hβ] at hl;obtain ⟨es,clock,h1,h2,h3⟩:=hl;have hi2:i<es.size:=by omega
  obtain ⟨k,v,e1,e2,e3⟩:=h3 i _ es[i] (ac hi) (Array.getElem?_eq_getElem hi2);rw [e1];simp only [V.ids,V.idsL,Bool.and_true,af];exact ⟨Yr hp k _ (.imm e2),Yr hp v _ e3⟩
section
variable {P:Program} {S:Store}
theorem JH {f:FuncId} {args:List V} {R:V->Store->Prop} (h:S.Wf->VCalls P f args S R):VCalls P f args S R :=
 fun m β w vs hS hr=>h hS.wf m β w vs hS hr
theorem qZ {f:FuncId} {args:List V} {R:V->Store->Prop} (h:VCalls P f args S fun r S1 => ∃ x' S',GhostB S.nx r S1 x' S'/\R x' S'):VCalls P f args S R:=by
 intro m β w vs hS hr;refine (h m β w vs hS hr).mono ?_;rintro e w' ⟨v,x,S1,m1,β1,he,⟨x',S',hg,hR⟩,h1,h2,h3⟩;obtain ⟨m2,β2,g1,g2,g3⟩:=hg m1 β1 w' v h2 h1;have k:=(h3.toB S.nx).trans g2;exact ⟨v,x',S',m2,β2,he,hR,g3,g1,⟨k.imm,fun o ho=>k.step o (by
  rcases Nat.lt_or_ge o S.nx with hl | hl
  ·exact hl
  ·exact absurd ((hS.fresh o).2 hl) ho) ho,k.size,k.keep,k.os,k.tape,k.output⟩⟩
end
/-! ### Stores told one object after the other -/
def lid (n k:Nat):Nat:=n+k
abbrev Upds:=List (Nat × Option (Nat × List V))
def uGet:Upds->Nat->Option (Nat × List V)->Option (Nat × List V)
 | [],_,d=>d
 | (k,c)::r,o,d=>if o=k then c else uGet r o d
def uSet:Upds->Nat->Option (Nat × List V)->Upds
 | [],o,c=>[(o,c)]
 | (k,c')::r,o,c=>if o=k then (k,c)::r else (k,c')::uSet r o c
theorem uGet_set (u:Upds) (o:Nat) (c:Option (Nat × List V)) (o':Nat) (d:Option (Nat × List V)):uGet (uSet u o c) o' d=if o'=o then c else uGet u o' d:=by
 induction u with
 | nil=>simp [uSet,uGet]
 | cons p r ih =>
  obtain ⟨k,c'⟩:=p;simp only [uSet];split
  ·rename_i h; subst h; simp only [uGet]; split<;>simp_all
  ·simp only [uGet,ih]; split
   ·rename_i h1 h2; subst h2; rw [if_neg (fun e=>h1 e.symm)]
   ·rfl
def St (B:Store) (u:Upds) (l:List (Option (Nat × List V))):Store:=⟨fun o=>if o<B.nx then uGet u o (B.get o) else (l[o-B.nx]?).join,lid B.nx l.length⟩
theorem jM {B:Store} (h:B.Wf):St B [] []=B:=by
 refine Store.ext' (funext fun o => ?_) rfl;simp only [St,uGet];split
 ·rfl
 ·rw [h.gone o (by omega)]; rfl
section
variable {B:Store} {u:Upds} {l:List (Option (Nat × List V))} {n k:Nat} {c:Nat × List V}
theorem jL:(St B u l).nx=lid B.nx l.length:=by simp [St]
theorem qI (o:Nat):(St B u l).get o=if o<B.nx then uGet u o (B.get o) else (l[o-B.nx]?).join:=rfl
theorem Yc (S:Store) (c:Nat × List V) (o:Nat):(S.add c).get o=if o=S.nx then some c else S.get o:=rfl
theorem qo (S:Store) (o':Nat) (c:Nat × List V) (o:Nat):(S.upd o' c).get o=if o=o' then some c else S.get o:=rfl
theorem KC (S:Store) (o':Nat) (o:Nat):(S.del o').get o=if o=o' then none else S.get o:=rfl
theorem jv:(St B u l).get (lid B.nx k)=(l[k]?).join:=by
 rw [qI,if_neg (by simp [lid])]; simp [lid]
theorem jh {o:Nat} (h:o<B.nx):(St B u l).get o=uGet u o (B.get o):=by rw [qI,if_pos h]
theorem Zk:(St B u l).add c=St B u (l++[some c]):=by
 refine Store.ext' (funext fun o => ?_) (by simp [Store.add,St,lid]; omega);rw [Yc,qI,qI,jL,lid]
 by_cases h1:o<B.nx
 ·rw [if_neg (by omega),if_pos h1,if_pos h1]
 ·rw [if_neg h1,if_neg h1]
  by_cases h2:o=B.nx+l.length
  ·rw [if_pos h2]; subst h2; simp
  ·rw [if_neg h2]
   by_cases h3:o-B.nx<l.length
   ·rw [aV h3]
   ·rw [aJ (by omega),aJ (by simp; omega)]
theorem JO (hk:k<l.length):(St B u l).upd (lid B.nx k) c=St B u (l.set k (some c)):=by
 refine Store.ext' (funext fun o => ?_) (by simp [Store.upd,St]);rw [qo,qI,qI,lid]
 by_cases h1:o<B.nx
 ·rw [if_neg (by omega),if_pos h1,if_pos h1]
 ·rw [if_neg h1,if_neg h1]
  by_cases h2:o=B.nx+k
  ·rw [if_pos h2]; subst h2; simp [hk]
  ·rw [if_neg h2,aR (by omega)]
theorem jbY (hk:k<l.length):(St B u l).del (lid B.nx k)=St B u (l.set k none):=by
 refine Store.ext' (funext fun o => ?_) (by simp [Store.del,St]);rw [KC,qI,qI,lid]
 by_cases h1:o<B.nx
 ·rw [if_neg (by omega),if_pos h1,if_pos h1]
 ·rw [if_neg h1,if_neg h1]
  by_cases h2:o=B.nx+k
  ·rw [if_pos h2]; subst h2; simp [hk]
  ·rw [if_neg h2,aR (by omega)]
theorem jP {o:Nat} (h:o<B.nx):(St B u l).upd o c=St B (uSet u o (some c)) l:=by
 refine Store.ext' (funext fun o' => ?_) rfl;rw [qo,qI,qI,uGet_set]
 by_cases h1:o'=o
 ·subst h1; simp [h]
 ·simp [h1]
theorem St_delOld {o:Nat} (h:o<B.nx):(St B u l).del o=St B (uSet u o none) l:=by
 refine Store.ext' (funext fun o' => ?_) rfl;rw [KC,qI,qI,uGet_set]
 by_cases h1:o'=o
 ·subst h1; simp [h]
 ·simp [h1]
end
/-! ### Some objects kept, under new names, the others dropped -/
def gcTo (n:Nat) (ks:List Nat) (o:Nat):Nat:=if o<n then o else lid n (ks.idxOf (o-n))
def gcOf (n L:Nat) (ks:List Nat) (o:Nat):Nat:=if o<n then o else lid n ((ks[o-n]?).getD (L+o))
def gcP (n:Nat) (ks:List Nat) (o:Nat):Bool:=decide (o<n)||ks.contains (o-n)
theorem KN (n k:Nat) : ¬ n+k<n:=by omega
theorem gcTo_lid (n k:Nat) (ks:List Nat):gcTo n ks (lid n k)=lid n (ks.idxOf k):=by simp [gcTo,lid,KN]
theorem jZ {n o:Nat} (ks:List Nat) (h:o<n):gcTo n ks o=o:=by simp [gcTo,h]
theorem gcP_lid (n k:Nat) (ks:List Nat):gcP n ks (lid n k)=ks.contains k:=by simp [gcP,lid,KN]
theorem qv {n o:Nat} (ks:List Nat) (h:o<n):gcP n ks o=true:=by simp [gcP,h]
theorem gc_back {n L:Nat} {ks:List Nat} (o:Nat) (h:gcP n ks o=true):gcOf n L ks (gcTo n ks o)=o:=by
 simp only [gcP,bq,aj,List.contains_iff_mem] at h
 by_cases h1:o<n
 ·simp [gcTo,gcOf,h1]
 ·have hm:=h.resolve_left h1;have hi:ks.idxOf (o-n)<ks.length:=List.idxOf_lt_length_iff.2 hm;simp [gcTo,gcOf,h1,lid,hi,KN];omega
def gcE (n:Nat) (ks:List Nat) (c:Option (Nat × List V)):Option (Nat × List V):=c.map fun c=>(c.1,V.renL (gcTo n ks) c.2)
def jaJ (n:Nat) (ks:List Nat):Option (Nat × List V)->Bool
 | some c=>V.idsL (gcP n ks) c.2
 | none=>true
def gcL (n:Nat) (ks:List Nat) (l:List (Option (Nat × List V))):List Nat->List (Option (Nat × List V))
 | []=>[]
 | k::r=>gcE n ks ((l[k]?).join)::gcL n ks l r
def YF (n:Nat) (ks:List Nat) (l:List (Option (Nat × List V))):List Nat->Bool
 | []=>true
 | k::r=>decide (k<l.length)&&jaJ n ks ((l[k]?).join)&&YF n ks l r
def gcU (n:Nat) (ks:List Nat):Upds->Upds
 | []=>[]
 | (k,c)::r=>(k,gcE n ks c)::gcU n ks r
def JX (n:Nat) (ks:List Nat):Upds->Bool
 | []=>true
 | (k,c)::r=>jaJ n ks c&&JX n ks r
theorem gcL_map (n:Nat) (ks:List Nat) (l:List (Option (Nat × List V))) : ∀ r,gcL n ks l r=r.map fun k=>gcE n ks ((l[k]?).join)
 | []=>rfl
 | k::r=>by simp [gcL,gcL_map n ks l r]
theorem jbN {n:Nat} {ks:List Nat} {l:List (Option (Nat × List V))} : ∀ {r},YF n ks l r=true -> ∀ k∈r,k<l.length/\jaJ n ks ((l[k]?).join)=true
 | [],_=>by simp
 | k::r,h=>by
  simp only [YF,af,aj] at h;intro k' hk';rcases aL.1 hk' with rfl | hm
  ·exact h.1
  ·exact jbN h.2 k' hm
def renF (f:Nat->Nat):Fr->Fr
 | []=>[]
 | (t,x)::r=>(t,x.ren f)::renF f r
def idsF (p:Nat->Bool):Fr->Bool
 | []=>true
 | (t,x)::r=>x.ids p&&idsF p r
theorem renF_back {f g:Nat->Nat} {p:Nat->Bool} (h : ∀ o,p o=true->g (f o)=o) : ∀ (σ:Fr),idsF p σ=true -> ∀ t,σ.look t=((renF f σ).look t).ren g
 | [],_,t=>by simp [renF,Fr.look,V.ren]
 | (k,x)::r,hx,t=>by
  simp only [idsF,af] at hx;simp only [renF,Fr.look];split
  ·rw [JU h x hx.1]
  ·exact renF_back h r hx.2 t
mutual
theorem renId : ∀ x:V,x.ren (fun o=>o)=x
 | .agg xs=>by simp only [V.ren,renLId xs]
 | .tuple xs=>by simp only [V.ren,renLId xs]
 | .func k xs=>by simp only [V.ren,renLId xs]
 | .slice o off len=>by simp only [V.ren]
 | .ptr o off=>by simp only [V.ren]
 | .map o=>by simp only [V.ren]
 | .bool _ | .int _ _ | .str _ | .nils | .nilp | .nilf | .nilm | .list _ | .ref _ | .junk=>by simp only [V.ren]
theorem renLId : ∀ xs:List V,V.renL (fun o=>o) xs=xs
 | []=>by simp only [V.renL]
 | x::xs=>by simp only [V.renL,renId x,renLId xs]
end
theorem WD {f:Nat->Nat} {p:Nat->Bool} (h : ∀ o,p o=true->f o=o) (x:V) (hx:x.ids p=true):x.ren f=x:=by
 have k:=JU (f:=fun o=>o) (g:=f) (p:=p) h x hx;rw [renId] at k;exact k
theorem gcE_back {B:Store} {ks:List Nat} {L:Nat} {c d:Option (Nat × List V)} (h:jaJ B.nx ks c=true) {e:Nat × List V} (he:gcE B.nx ks c=some e):c=some (e.1,V.renL (gcOf B.nx L ks) e.2):=by
 cases c with
 | none=>simp [gcE] at he
 | some c =>
  simp only [gcE,bl,ay] at he;subst he;simp only;rw [renL_back (p:=gcP B.nx ks) (fun o ho=>gc_back o ho) c.2 h]
theorem gcU_get (n:Nat) (ks:List Nat) (o:Nat) (d d':Option (Nat × List V)) : ∀ u:Upds,JX n ks u=true->(uGet (gcU n ks u) o d'=d'/\uGet u o d=d) \/ ∃ c,jaJ n ks c=true/\uGet u o d=c/\uGet (gcU n ks u) o d'=gcE n ks c
 | [],_ => .inl ⟨rfl,rfl⟩
 | (k,c)::r,h=>by
  simp only [JX,af] at h;simp only [gcU,uGet]
  by_cases e:o=k
  ·rw [if_pos e,if_pos e]; exact .inr ⟨c,h.1,rfl,rfl⟩
  ·rw [if_neg e,if_neg e]; exact gcU_get n ks o d d' r h.2
theorem gc_ren {B:Store} {ks:List Nat} {u:Upds} {l:List (Option (Nat × List V))} (hw:B.Wf) (h1:ks.Nodup) (h2:JX B.nx ks u=true) (h3:YF B.nx ks l ks=true) :
  RenS (gcOf B.nx l.length ks) B.nx (St B u l) (St B (gcU B.nx ks u) (gcL B.nx ks l ks)):=by
 have h3:=jbN h3;rw [gcL_map];have hf : ∀ j (hj:j<ks.length),gcOf B.nx l.length ks (lid B.nx j)=lid B.nx ks[j]:=fun j hj=>by simp [gcOf,lid,hj,KN]
 have ho : ∀ o,o<B.nx->gcOf B.nx l.length ks o=o:=fun o h=>by simp [gcOf,h]
 refine ⟨fun o c hc => ?_,fun o o' hs hs' he => ?_,fun o hle => ?_,ho,by simp [St,lid]⟩
 ·by_cases h:o<B.nx
  ·rw [jh h] at hc;rw [ho o h,jh h];refine ⟨by simp [St,lid]; omega, ?_⟩;rcases gcU_get B.nx ks o (B.get o) (B.get o) u h2 with ⟨e1,e2⟩ | ⟨d,e1,e2,e3⟩
   ·rw [e1] at hc;rw [e2,hc];have:=hw.ids o c hc;simp only [qr,aD] at this;rw [qi,(a7 fun x hm=>WD (fun o h=>ho o (by simpa using h)) x (this x hm)).trans (List.map_id _)]
   ·rw [e3] at hc;rw [e2];exact gcE_back (d:=none) e1 hc
  ·have hk:o=lid B.nx (o-B.nx):=by simp [lid]; omega
   generalize o-B.nx=j at hk;subst hk;rw [jv] at hc;simp only [a8] at hc
   cases hj:ks[j]? with
   | none=>simp [hj] at hc
   | some k =>
    obtain ⟨hlt,hke⟩:=ae.1 hj;subst hke;simp only [hj,bl,Option.join_some] at hc;refine ⟨by simp [St,lid,hlt], ?_⟩;rw [hf j hlt,jv];exact gcE_back (d:=none) (h3 _ (ah hlt)).2 hc
 ·have cs : ∀ o,((St B (gcU B.nx ks u) (ks.map fun k=>gcE B.nx ks ((l[k]?).join))).get o).isSome=true->o<B.nx \/ ∃ j, ∃ hj:j<ks.length,o=lid B.nx j:=by
   intro o hs
   by_cases h:o<B.nx
   ·exact .inl h
   ·have hk:o=lid B.nx (o-B.nx):=by simp [lid]; omega
    refine .inr ⟨o-B.nx, ?_,hk⟩;rw [hk,jv,a8] at hs
    cases hj:ks[o-B.nx]? with
    | none=>simp [hj] at hs
    | some k=>exact (ae.1 hj).1
  rcases cs o hs with c1 | ⟨j,hj,rfl⟩
  ·rcases cs o' hs' with d1 | ⟨j',hj',rfl⟩
   ·rw [ho o c1,ho o' d1] at he; exact he
   ·rw [ho o c1,hf j' hj'] at he; simp [lid] at he; omega
  ·rcases cs o' hs' with d1 | ⟨j',hj',rfl⟩
   ·rw [ho o' d1,hf j hj] at he; simp [lid] at he; omega
   ·rw [hf j hj,hf j' hj'] at he;have:ks[j]=ks[j']:=by simpa [lid] using he
    rw [(List.getElem_inj h1).1 this]
 ·simp only [St,lid,aI] at hle ⊢;have : ¬ o<B.nx:=by omega
  simp [gcOf,this,lid,aJ (show ks.length<=o-B.nx by omega)]
  try omega
theorem Reach.gc {N:Nat} {B:Store} {u u':Upds} {l l':List (Option (Nat × List V))} {σ σ':Fr} (ks:List Nat) (hw:B.Wf) (h1:ks.Nodup) (h2:(JX B.nx ks u&&YF B.nx ks l ks&&idsF (gcP B.nx ks) σ)=true)
  (hu:gcU B.nx ks u=u') (hl:gcL B.nx ks l ks=l') (hσ:renF (gcTo B.nx ks) σ=σ'):Reach N B.nx σ (St B u l) σ' (St B u' l'):=by
 simp only [af] at h2;subst hu; subst hl; subst hσ;exact Reach.ren (gc_ren hw h1 h2.1.1 h2.1.2) (renF_back (fun o ho=>gc_back o ho) σ h2.2)
theorem GhostB.done {B S':Store} {u:Upds} {l:List (Option (Nat × List V))} {x:V} (hw:B.Wf) (hx:x.ids (fun o=>decide (o<B.nx))=true) (hu:JX B.nx [] u=true) (hS:St B (gcU B.nx [] u) []=S'):GhostB B.nx x (St B u l) x S':=by
 subst hS;have h:=gc_ren (ks:=[]) (l:=l) hw List.nodup_nil hu rfl;exact GhostB.ren h (WD (fun o ho=>h.fix o (by simpa using ho)) x hx).symm
end Go.Vw
