import Derived.Test.YtenhhokhkkfgbaaGreatC23
/- Part of the proof. -/
set_option linter.unusedVariables false
set_option linter.unusedSimpArgs false
set_option maxRecDepth 10000
set_option maxHeartbeats 8000000
/-
 What is owned in depth: values of one's own that read as immutable ones; stores that become the base of others.
-/
namespace Go.Vw
open Go.RowKit
section
variable {P:Program} {N b b':Nat} {Q:Exit->Fr->Store->Prop} {σ σ':Fr} {S S':Store}
theorem ExtB.weak {m m':Imm} {β β':Objs} {w w':World} (h:b<=b') (k:ExtB b' m β w m' β' w'):ExtB b m β w m' β' w' :=
 ⟨k.imm,fun o ho=>k.step o (aU ho h),k.size,k.keep,k.os,k.tape,k.output⟩
theorem Yl {c:Code} (h:b<=b') (k:VWp P N b' c Q σ S):VWp P N b c Q σ S :=
 fun m β w a hS hF=>wp_mono (k m β w a hS hF) fun e a' w' ⟨σ',S',m',β',q,r1,r2,r3⟩=>⟨σ',S',m',β',q,r1,r2,r3.weak h⟩
theorem Reach.weak (h:b<=b') (k:Reach N b' σ S σ' S'):Reach N b σ S σ' S':=fun m β w a hS hF=>by
 obtain ⟨m',β',h1,h2,h3⟩:=k m β w a hS hF;exact ⟨m',β',h1,h2,h3.weak h⟩
theorem zu {I:Nat->Fr->Store->Prop} {ks:List Nat} {n:Nat} (h:b<=b') (k:js N b' I ks n σ S):js N b I ks n σ S:=by
 obtain ⟨n',h1,σc,Sc,h2,h3⟩:=k;exact ⟨n',h1,σc,Sc,h2.weak h,h3⟩
end
theorem qG (b j k:Nat):lid (lid b j) k=lid b (j+k):=by simp [lid]; omega
theorem JF {B:Store} {u:Upds} {l m:List (Option (Nat × List V))}:St B u (l++m)=St (St B u l) [] m:=by
 refine Store.ext' (funext fun o => ?_) ?_
 ·have e:(St B u l).nx=B.nx+l.length:=by rw [jL,lid]
  rw [qI,qI,e,qI];simp only [uGet]
  by_cases h1:o<B.nx
  ·rw [if_pos h1,if_pos (by omega),if_pos h1]
  ·rw [if_neg h1]
   by_cases h2:o<B.nx+l.length
   ·rw [if_pos h2,if_neg h1,aV (by omega)]
   ·rw [if_neg h2,bi (by omega)]
    congr 2; omega
 ·rw [jL,jL,jL,qG]; simp
theorem St_sink1 {B:Store} {u:Upds} {c:Option (Nat × List V)} {m:List (Option (Nat × List V))}:St B u (c::m)=St (St B u [c]) [] m:=JF (l:=[c])
mutual
theorem ids_mono {p q:Nat->Bool} (h : ∀ o,p o=true->q o=true) : ∀ x:V,x.ids p=true->x.ids q=true
 | .agg xs,hx=>by simp only [V.ids] at hx ⊢; exact WO h xs hx
 | .tuple xs,hx=>by simp only [V.ids] at hx ⊢; exact WO h xs hx
 | .func _ xs,hx=>by simp only [V.ids] at hx ⊢; exact WO h xs hx
 | .slice o _ _,hx=>by simp only [V.ids] at hx ⊢; exact h o hx
 | .ptr o _,hx=>by simp only [V.ids] at hx ⊢; exact h o hx
 | .map o,hx=>by simp only [V.ids] at hx ⊢; exact h o hx
 | .junk,_=>by simp [V.ids]
 | .bool _,_ | .int _ _,_ | .str _,_ | .nils,_ | .nilp,_ | .nilf,_ | .nilm,_ | .list _,_ | .ref _,_=>by simp [V.ids]
theorem WO {p q:Nat->Bool} (h : ∀ o,p o=true->q o=true) : ∀ xs:List V,V.idsL p xs=true->V.idsL q xs=true
 | [],_=>by simp [V.idsL]
 | x::xs,hx=>by
  simp only [V.idsL,af] at hx ⊢;exact ⟨ids_mono h x hx.1,WO h xs hx.2⟩
end
theorem St_wf {B:Store} (hw:B.Wf) {l:List (Option (Nat × List V))} (h:l.all (fun c=>match c with | some c=>V.idsL (fun o=>decide (o<lid B.nx l.length)) c.2 | none=>true)=true):(St B [] l).Wf:=by
 refine ⟨fun o ho => ?_,fun o c hc => ?_⟩
 ·rw [jL] at ho;simp only [lid] at ho;rw [qI,if_neg (by omega),aJ (by omega)]; rfl
 ·rw [qI] at hc;rw [jL]
  by_cases h1:o<B.nx
  ·rw [if_pos h1] at hc;have:=hw.ids o c hc;simp only [qr,aD] at this ⊢;intro x hx;have h2:=this x hx;have hle:B.nx<=lid B.nx l.length:=by rw [lid]; omega
   exact ids_mono (fun o ho=>by rw [aj] at ho ⊢; exact aU ho hle) x h2
  ·rw [if_neg h1] at hc;have hm:some c∈l:=by
    cases hl:l[o-B.nx]? with
    | none=>rw [hl] at hc; cases hc
    | some d=>rw [hl] at hc; simp only [Option.join_some] at hc; subst hc; exact aA hl
   simp only [aD] at h;exact h _ hm
/-! ### Ownership -/
inductive Ty
 | c
 | s (tys:List Ty)
def reps (n:Nat) (tys:List Ty):List Ty:=(List.replicate n tys).flatten
theorem reps_zero (tys:List Ty):reps 0 tys=[]:=rfl
theorem Ji (n:Nat) (tys:List Ty):reps (n+1) tys=tys++reps n tys:=by simp [reps,List.replicate_succ]
theorem jah (n:Nat) (tys:List Ty):reps (n+1) tys=reps n tys++tys:=by simp [reps,List.replicate_succ',List.flatten_append]
theorem reps_add (n m:Nat) (tys:List Ty):reps (n+m) tys=reps n tys++reps m tys:=by
 induction n with
 | zero=>simp [reps]
 | succ n ih=>rw [Nat.add_right_comm,Ji,Ji,ih,List.append_assoc]
theorem Js (n:Nat) (tys:List Ty):(reps n tys).length=n*tys.length:=by
 induction n with
 | zero=>simp [reps]
 | succ n ih=>rw [Ji,List.length_append,ih,Nat.succ_mul]; omega
inductive OwL (S:Store):List Ty->List V->List V->List Nat->Prop
 | nil:OwL S [] [] [] []
 | c {ts:List Ty} {rs xs:List V} {j:List Nat} {x:V} (h:x.closed1=true) (t:OwL S ts rs xs j):OwL S (.c::ts) (x::rs) (x::xs) j
 | s {tys ts:List Ty} {rs xs cells ys:List V} {i j:List Nat} {o:Nat} (h:S.get o=some (tys.length,cells)) (hs : ∀ y∈ys,y.cells.length=tys.length/\y.closed=true) (d:OwL S (reps ys.length tys) cells (ys.flatMap V.cells) i) (t:OwL S ts rs xs j) :
   OwL S (.s tys::ts) (.slice o 0 ys.length::rs) (.list ys::xs) (o::(i++j))
theorem OwL.len {S:Store} {ts:List Ty} {rs xs:List V} {ids:List Nat} (h:OwL S ts rs xs ids):rs.length=ts.length/\xs.length=ts.length:=by
 induction h with
 | nil=>exact ⟨rfl,rfl⟩
 | c _ _ ih=>simp [ih]
 | s _ _ _ _ _ ih=>simp [ih]
theorem OwL.mono {S S':Store} {ts:List Ty} {rs xs:List V} {ids:List Nat} (h:OwL S ts rs xs ids):(∀ o∈ids,S'.get o=S.get o)->OwL S' ts rs xs ids:=by
 induction h with
 | nil=>exact fun _ => .nil
 | c h _ ih=>exact fun hk => .c h (ih hk)
 | s h hs _ _ ih1 ih2=>exact fun hk => .s ((hk _ (by simp)).trans h) hs (ih1 fun o ho=>hk o (by simp [ho])) (ih2 fun o ho=>hk o (by simp [ho]))
theorem OwL.append {S:Store} {ts us:List Ty} {rs xs ps qs:List V} {i j:List Nat} (h:OwL S ts rs xs i) (k:OwL S us ps qs j):OwL S (ts++us) (rs++ps) (xs++qs) (i++j):=by
 induction h with
 | nil=>exact k
 | c h _ ih=>exact .c h ih
 | s h hs d _ _ ih=>simpa [List.append_assoc] using OwL.s h hs d ih
theorem OwL.split {S:Store} {us:List Ty} : ∀ {ts:List Ty} {rs xs:List V} {ids:List Nat},OwL S (ts++us) rs xs ids -> ∃ r1 r2 x1 x2 i1 i2,rs=r1++r2/\xs=x1++x2/\ids=i1++i2/\OwL S ts r1 x1 i1/\OwL S us r2 x2 i2
 | [],rs,xs,ids,h=>⟨[],rs,[],xs,[],ids,rfl,rfl,rfl, .nil,h⟩
 | t::ts,rs,xs,ids,h=>by
  cases h with
  | c hc k =>
   obtain ⟨r1,r2,x1,x2,i1,i2,rfl,rfl,rfl,k1,k2⟩:=OwL.split k;exact ⟨_::r1,r2,_::x1,x2,i1,i2,rfl,rfl,rfl, .c hc k1,k2⟩
  | s ho hs d k =>
   obtain ⟨r1,r2,x1,x2,i1,i2,rfl,rfl,rfl,k1,k2⟩:=OwL.split k;exact ⟨_::r1,r2,_::x1,x2,_::(_++i1),i2,rfl,rfl,by simp, .s ho hs d k1,k2⟩
theorem OwL.closed {S:Store} {ts:List Ty} {rs xs:List V} {ids:List Nat} (h:OwL S ts rs xs ids) : ∀ x∈xs,x.closed1=true:=by
 induction h with
 | nil=>simp
 | c h _ ih=>intro x hx; rcases aL.1 hx with rfl | hx; exact h; exact ih x hx
 | s _ _ _ _ _ ih=>intro x hx; rcases aL.1 hx with rfl | hx; rfl; exact ih x hx
theorem OwL.alive {S:Store} {ts:List Ty} {rs xs:List V} {ids:List Nat} (h:OwL S ts rs xs ids) : ∀ o∈ids,(S.get o).isSome=true:=by
 induction h with
 | nil=>simp
 | c h _ ih=>exact ih
 | s h _ _ _ ih1 ih2 =>
  intro o ho;rcases aL.1 ho with rfl | ho
  ·rw [h]; rfl
  ·rcases aG.1 ho with ho | ho
   ·exact ih1 o ho
   ·exact ih2 o ho
theorem OwL.cells {S:Store} {ts:List Ty} {rs xs:List V} {ids:List Nat} (h:OwL S ts rs xs ids) : ∀ r∈rs,r.closed1=true \/ ∃ o n,r = .slice o 0 n:=by
 induction h with
 | nil=>simp
 | c h _ ih=>intro x hx; rcases aL.1 hx with rfl | hx; exact .inl h; exact ih x hx
 | s _ _ _ _ _ ih=>intro x hx; rcases aL.1 hx with rfl | hx; exact .inr ⟨_,_,rfl⟩; exact ih x hx
theorem OwL.all_c {S:Store} : ∀ {xs:List V},(∀ x∈xs,x.closed1=true)->OwL S (List.replicate xs.length .c) xs xs []
 | [],_ => .nil
 | x::xs,h => .c (h x (by simp)) (OwL.all_c fun y hy=>h y (by simp [hy]))
theorem repL_cons {m:Imm} {β:Objs} {x:V} {xs:List V} {vs:List Value} (h:RepL m β (x::xs) vs) : ∃ v r,vs=v::r/\Rep m β x v/\RepL m β xs r:=by
 cases vs with
 | nil=>have:=h.1; simp at this
 | cons v r=>exact ⟨v,r,rfl,h.2 0 x v rfl rfl,by have:=h.1; simpa using this,fun i y u hy hu=>h.2 (i+1) y u (by simpa using hy) (by simpa using hu)⟩
theorem jcS {S:Store} {o:Nat} {i:List Nat} {c:Nat × List V}:((S.dels i).upd o c).del o=S.dels (o::i):=by
 refine Store.ext' (funext fun o' => ?_) (by simp only [Store.del,Store.upd]; rw [jaR,jaR]);rw [KC,qo,KB,KB]
 by_cases h:o'=o<;>simp [h]
theorem dels_app (S:Store) (i j:List Nat):S.dels (i++j)=(S.dels i).dels j:=by simp [Store.dels,List.foldl_append]
theorem OwL.freeze {S0:Store} {ts:List Ty} {rs xs:List V} {ids:List Nat} (h:OwL S0 ts rs xs ids):ids.Nodup -> ∀ S:Store,(∀ o∈ids,S.get o=S0.get o)->GhostArgs rs S xs (S.dels ids):=by
 induction h with
 | nil=>exact fun _ S _ m β w vs hS hr=>⟨m,β,hS,Ext.refl _ _ _,hr⟩
 | @c ts rs xs j x h _ ih =>
  intro hn S hk m β w vs hS hr;obtain ⟨v,r,rfl,h1,h2⟩:=repL_cons hr;obtain ⟨m',β',k1,k2,k3⟩:=ih hn S hk m β w r hS h2;exact ⟨m',β',k1,k2,k3.cons (k2.rep h1)⟩
 | @s tys ts rs xs cells ys i j o h hs d t ih1 ih2 =>
  intro hn S hk m β w vs hS hr;obtain ⟨v,r,rfl,h1,h2⟩:=repL_cons hr;obtain ⟨hno,hnij⟩:=List.nodup_cons.1 hn;obtain ⟨hni,hnj,hd⟩:=List.nodup_append.1 hnij;have hoi:o∉i:=fun h=>hno (by simp [h])
  have hoj:o∉j:=fun h=>hno (by simp [h])
  have hget:S.get o=some (tys.length,cells):=(hk o (by simp)).trans h
  -- the object's cells become immutable
  have step1 : ∃ m1 β1,Holds ((S.dels i).upd o (tys.length,ys.flatMap V.cells)) m1 β1 w/\Ext m β w m1 β1 w:=by
   have hl:=hS.live o _ hget;have hlen:cells.length=(ys.flatMap V.cells).length:=by rw [d.len.1,d.len.2]
   have hgi:(S.dels i).get o=some (tys.length,cells):=by rw [KB,if_neg hoi]; exact hget
   cases hβ:β o with
   | fresh=>rw [hβ] at hl; exact hl.elim
   | dead=>rw [hβ] at hl; exact hl.elim
   | void =>
    rw [hβ] at hl;simp only [Live] at hl;subst hl;obtain ⟨m1,β1,k1,k2,_⟩:=ih1 hni S (fun o ho=>hk o (by simp [ho])) m β w [] hS (RepL.nil _ _);have e:ys.flatMap V.cells=[]:=aO (by rw [<-hlen]; rfl);rw [e];refine ⟨m1,β1, ?_,k2⟩;have:(S.dels i).upd o (tys.length,[])=S.dels i:=by
     refine Store.ext' (funext fun o' => ?_) rfl;rw [qo];split
     ·rename_i e'; subst e'; exact hgi.symm
     ·rfl
    rw [this]; exact k1
   | mp b' =>
    rw [hβ] at hl;obtain ⟨es,clock,e1,e2,e3⟩:=hl;have hz:cells=[]:=by
     cases cells with
     | nil=>rfl
     | cons c0 cr =>
      exfalso
      have hi2:0<es.size:=by simp only [aC] at e2; omega
      obtain ⟨k,v,e4,_⟩:=e3 0 c0 es[0] rfl (Array.getElem?_eq_getElem hi2);subst e4;rcases d.cells _ (List.mem_cons_self) with h | ⟨_,_,h⟩
      ·simp [V.closed1] at h
      ·cases h
    subst hz;obtain ⟨m1,β1,k1,k2,_⟩:=ih1 hni S (fun o ho=>hk o (by simp [ho])) m β w [] hS (RepL.nil _ _);have e:ys.flatMap V.cells=[]:=aO (by rw [<-hlen]; rfl);rw [e];refine ⟨m1,β1, ?_,k2⟩;have:(S.dels i).upd o (tys.length,[])=S.dels i:=by
     refine Store.ext' (funext fun o' => ?_) rfl;rw [qo];split
     ·rename_i e'; subst e'; exact hgi.symm
     ·rfl
    rw [this]; exact k1
   | lies b base s n =>
    rw [hβ] at hl;obtain ⟨h0,arr,T,e1,e2,e3,e4⟩:=hl;simp only at e3 e4;have hvs:RepL m β cells ((List.range cells.length).map fun q=>arr.getD (base+q) undef):=by
     refine ⟨by simp,fun q x u hx hu => ?_⟩;obtain ⟨u',f1,f2,_⟩:=e4 q x hx;have hq:q<cells.length:=(ae.1 hx).1;simp only [a8,List.getElem?_range hq,bl,ay] at hu;subst hu;have:arr.getD (base+q) undef=u':=by rw [a6,f1]; rfl
     rw [this]; exact f2
    obtain ⟨m1,β1,k1,k2,k3⟩:=ih1 hni S (fun o ho=>hk o (by simp [ho])) m β w _ hS hvs;have hb':β1 o = .lies b base s n:=by
     rcases k2.step o (by rw [hβ]; exact Loc.noConfusion) with h' | h'
     ·rw [h',hβ]
     ·have:=k1.live o _ hgi;rw [h'] at this; exact this.elim
    refine ⟨m1,β1, ?_,k2⟩;refine k1.reseen hgi hb' e1 _ hlen.symm fun q x u hx hu => ?_
    have hq:q<cells.length:=by rw [hlen]; exact (ae.1 hx).1
    refine k3.2 q x u hx ?_;simp only [a8,List.getElem?_range hq,bl,ay];rw [a6,hu]; rfl
  obtain ⟨m1,β1,k1,k2⟩:=step1
  -- the slice becomes a list
  have hg:Ghost (.slice o 0 ys.length) ((S.dels i).upd o (tys.length,ys.flatMap V.cells)) (.list ys) (S.dels (o::i)):=by
   rw [<-jcS (c:=(tys.length,ys.flatMap V.cells))]
   let enc:{y // y∈ys}->V:=fun y=>y.1
   have e1:ju enc ys.attach=ys.flatMap V.cells:=by
    have:ys.attach.map enc=ys:=List.attach_map_subtype_val ys
    calc ju enc ys.attach=(ys.attach.map enc).flatMap V.cells:=by simp [ju,List.flatMap_map]
     _=_:=by rw [this]
   have e2:vl enc ys.attach = .list ys:=by
    show V.list _=_;rw [List.attach_map_subtype_val]
   have:=frzS (enc:=enc) (s:=tys.length) (fun y=>(hs y.1 y.2).1) (fun y=>(hs y.1 y.2).2) (S:=(S.dels i).upd o (tys.length,ys.flatMap V.cells)) (o:=o) ys.attach (by rw [e1]; exact zY);rw [e2,List.length_attach] at this;exact this
  obtain ⟨m2,β2,q1,q2,q3⟩:=hg m1 β1 w v k1 (k2.rep h1);have hkj : ∀ o'∈j,(S.dels (o::i)).get o'=S0.get o':=by
   intro o' ho';have hm : ¬ o'∈o::i:=by
    intro hm;rcases aL.1 hm with rfl | hm
    ·exact hoj ho'
    ·exact hd o' hm o' ho' rfl
   rw [KB,if_neg hm];exact hk o' (by simp [ho'])
  obtain ⟨m3,β3,p1,p2,p3⟩:=ih2 hnj (S.dels (o::i)) hkj m2 β2 w r q1 ⟨h2.1,fun a x u hx hu=>q2.rep (k2.rep (h2.2 a x u hx hu))⟩;refine ⟨m3,β3, ?_,(k2.trans q2).trans p2,p3.cons (p2.rep q3)⟩;rw [show o::(i++j)=(o::i)++j from rfl,dels_app];exact p1
theorem jbC (n s:Nat):reps n (List.replicate s .c)=List.replicate (n*s) .c:=by
 induction n with
 | zero=>simp [reps]
 | succ n ih=>rw [Ji,ih,List.replicate_append_replicate,Nat.succ_mul,Nat.add_comm]
theorem zb {α:Type} (enc:α->V) (ls:List α):(ls.map enc).flatMap V.cells=ju enc ls:=by simp [ju,List.flatMap_map]
theorem OwL.flat {α:Type} {enc:α->V} {s:Nat} (hs : ∀ a,(enc a).cells.length=s) (hc : ∀ a,(enc a).closed=true) {S:Store} (ls:List α):OwL S (reps ls.length (List.replicate s .c)) (ju enc ls) (ju enc ls) []:=by
 have h:=OwL.all_c (S:=S) (xs:=ju enc ls) (by simpa using Zc hc ls)
 rwa [Kz hs, <-jbC] at h
theorem OwL.slice {α:Type} {enc:α->V} {s:Nat} (hs : ∀ a,(enc a).cells.length=s) (hc : ∀ a,(enc a).closed=true) {S:Store} {o:Nat} (ls:List α) (hg:S.get o=some (s,ju enc ls)) {ts:List Ty} {rs xs:List V} {j:List Nat} (t:OwL S ts rs xs j) :
  OwL S (.s (List.replicate s .c)::ts) (.slice o 0 ls.length::rs) (vl enc ls::xs) (o::j):=by
 have:=OwL.s (S:=S) (o:=o) (tys:=List.replicate s .c) (cells:=ju enc ls) (ys:=ls.map enc) (i:=[]) (by rw [List.length_replicate]; exact hg)
  (fun y hy=>by obtain ⟨a,_,rfl⟩:=bk.1 hy; exact ⟨by rw [hs,List.length_replicate],hc a⟩) (by rw [aI,zb]; exact OwL.flat hs hc ls) t
 rw [aI] at this;exact this
theorem OwL.old {S:Store} {n:Nat} {ts:List Ty} {rs xs:List V} {ids:List Nat} (h:OwL S ts rs xs ids) (hn : ∀ o∈ids,o<n) (ks:List Nat):V.idsL (gcP n ks) rs=true/\V.renL (gcTo n ks) rs=rs:=by
 induction h with
 | nil=>exact ⟨by simp [V.idsL],by simp [V.renL]⟩
 | @c ts rs xs j x h _ ih =>
  obtain ⟨h1,h2⟩:=ih hn;have e1:x.ids (gcP n ks)=true:=by cases x<;>first | (simp [V.ids]; done) | (simp [V.closed1] at h)
  have e2:x.ren (gcTo n ks)=x:=by cases x<;>first | (simp [V.ren]; done) | (simp [V.closed1] at h)
  exact ⟨by simp [V.idsL,e1,h1],by simp [V.renL,e2,h2]⟩
 | @s tys ts rs xs cells ys i j o h hs d t ih1 ih2 =>
  obtain ⟨h1,h2⟩:=ih2 fun o ho=>hn o (by simp [ho])
  have ho:=hn o (by simp);exact ⟨by simp [V.idsL,V.ids,qv ks ho,h1],by simp [V.renL,V.ren,jZ ks ho,h2]⟩
theorem closed1_ids {x:V} (h:x.closed1=true) (p:Nat->Bool):x.ids p=true:=by cases x<;>first | (simp [V.ids]; done) | (simp [V.closed1] at h)
theorem OwL.ids_lt {S:Store} {p:Nat->Bool} {ts:List Ty} {rs xs:List V} {ids:List Nat} (h:OwL S ts rs xs ids) (hn : ∀ o∈ids,p o=true):V.idsL p rs=true:=by
 induction h with
 | nil=>simp [V.idsL]
 | c h _ ih=>simp [V.idsL,closed1_ids h,ih hn]
 | @s tys ts rs xs cells ys i j o h hs d t ih1 ih2=>simp [V.idsL,V.ids,hn o (by simp),ih2 fun o ho=>hn o (by simp [ho])]
theorem vseg_nil {P:Program} {z:Option ZZ} {r:List CO} {K:Fr->Store->Prop} {σ:Fr} {T:Store} (h:T.Wf) (k:jz P z r K σ (St T [] [])):jz P z r K σ T:=by rwa [jM h] at k
theorem Jq {P:Program} {N b:Nat} {Q:Exit->Fr->Store->Prop} {σ:Fr} {T:Store} {c:Code} (h:T.Wf) (k:VWp P N b c Q σ (St T [] [])):VWp P N b c Q σ T:=by rwa [jM h] at k
theorem lid_lt (b j k:Nat):(lid b j<lid b k)=(j<k):=by simp [lid]
theorem upd_wf {S:Store} (h:S.Wf) {o:Nat} {c:Nat × List V} (ho:o<S.nx) (hc:V.idsL (fun o=>decide (o<S.nx)) c.2=true):(S.upd o c).Wf:=by
 refine ⟨fun o' ho' => ?_,fun o' c' hc' => ?_⟩
 ·have h1:S.nx<=o':=ho';rw [qo,if_neg (by omega)]; exact h.gone o' h1
 ·rw [qo] at hc';split at hc'
  ·cases hc'; exact hc
  ·exact h.ids o' c' hc'
theorem jcQ {S:Store} {l l':List (Option (Nat × List V))} {r r':V} {R:V->Store->Prop} (ks:List Nat) (hw:S.Wf) (h1:ks.Nodup) (h2:(YF S.nx ks l ks&&r.ids (gcP S.nx ks))=true) (hl:gcL S.nx ks l ks=l') (hr:r.ren (gcTo S.nx ks)=r') (hR:R r' (St S [] l')):Ja S.nx R r (St S [] l):=by
 obtain ⟨h3,h4⟩:=Bool.and_eq_true_iff.1 h2;have h:=gc_ren (u:=[]) hw h1 rfl h3;subst hl;subst hr;exact ⟨_,_,GhostB.ren h (JU (fun o ho=>gc_back o ho) r h4).symm,hR⟩
theorem Jg {S:Store} : ∀ {n:Nat} {rs xs:List V} {ids:List Nat},OwL S (List.replicate n .c) rs xs ids->rs=xs/\ids=[]
 | 0,rs,xs,ids,h=>by
  generalize hr:List.replicate 0 Ty.c=ts at h
  cases h with
  | nil=>exact ⟨rfl,rfl⟩
  | c _ _=>cases hr
  | s _ _ _ _=>cases hr
 | n+1,rs,xs,ids,h=>by
  rw [List.replicate_succ] at h
  cases h with
  | c h t =>
   obtain ⟨rfl,rfl⟩:=Jg t;exact ⟨rfl,rfl⟩
theorem Jn {rs xs:List V} {S S':Store} (h:GhostArgs rs S xs S'):Ghost (.agg rs) S (.agg xs) S':=by
 intro m β w v hS hr;obtain ⟨vs,rfl,hl,hr,hone⟩:=hr.inv_agg;obtain ⟨m',β',h1,h2,h3⟩:=h m β w vs hS ⟨hl,hr⟩;exact ⟨m',β',h1,h2, .agg xs vs h3.1 h3.2 hone⟩
theorem uGet_same {T:Store} : ∀ {u:Upds},(∀ p∈u,T.get p.1=p.2) -> ∀ o,uGet u o (T.get o)=T.get o
 | [],_,o=>rfl
 | (k,c)::u,h,o=>by
  simp only [uGet];split
  ·rename_i e; rw [e]; exact (h (k,c) (by simp)).symm
  ·exact uGet_same (fun p hp=>h p (by simp [hp])) o
theorem jdc {T:Store} (hw:T.Wf) (u:Upds) (h : ∀ p∈u,T.get p.1=p.2):St T u []=T:=by
 refine Store.ext' (funext fun o => ?_) (by rw [jL,lid]; rfl);rw [qI]
 by_cases ho:o<T.nx
 ·rw [if_pos ho]; exact uGet_same h o
 ·rw [if_neg ho,hw.gone o (by omega)]; rfl
end Go.Vw
/-
 Is a slice nil? Only where it is empty.
-/
namespace Go.Vw
open Go.RowKit
section
variable {P:Program} {N b:Nat} {Q:Exit->Fr->Store->Prop} {σ:Fr} {S:Store}
theorem list_addr {m:Imm} {β:Objs} {l:List V} {v:Value} (h:Rep m β (.list l) v) : ∃ ad len cap,v = .slice ad len cap/\(ad=none->l=[]):=by
 have:=h.inv_list;generalize hl:V.list l=x at this
 cases this with
 | list0 a cap hc=>cases hl; exact ⟨a,0,cap,rfl,fun _=>rfl⟩
 | list xs vs b off cap s arr T fz hm hl' hc hcm hs hr hcells=>cases hl; exact ⟨some ⟨b,off,none⟩,_,cap,rfl,fun h=>by cases h⟩
 | _=>cases hl
theorem equal_nil {t e:TypeId} (ht:P.underlying t=some (.slice e)) (ad:Option Addr) (len cap:Nat) (w:World):(Op.equal t (.slice ad len cap) (.slice none 0 0)).run P w = .ok ad.isNone w:=by
 have hd:Op.maxDepth=9999+1:=rfl;unfold Op.equal;rw [hd];unfold Op.equalIn
 cases ad<;>simp [run_underlying ht]
theorem vw_isnil {c:Code} {o1 o2:Oper} {d1 d2 s:Nat} {t t' e:TypeId} {y u:Operand} {l:List V} (h:Code.kind c=1) (hops:(Code.ops c).toList=[o1,o2]) (h1:Wv P N (Code.ops c) o1=some ⟨some d1,none, .move (.tmp s)⟩) (hg1:o1.guard=none)
  (hop:o2.op = .binOp .eql t y u t') (hg:o2.guard=none) (hd:o2.dst=some d2) (hlt:decide (d2<N)=true) (hy:jr y=some (.tmp d1)) (hu:u = .const (.slice none 0 0)) (ht:P.underlying t=some (.slice e)) (hv:σ.look s = .list l)
  (H : ∀ b:Bool,(b=true->l=[])->Q .normal ((σ.set d1 (.list l)).set d2 (.bool b)) S):VWp P N b c Q σ S:=by
 cases c with
 | region id ops dr =>
  cases dr
  ·intro m β w a hS hF;refine wp_region_list ?_;simp only [Code.ops] at hops h1;rw [hops];simp only [wpList];have hw1:Region.wanted o1 (yielded ops a.tmps)=true:=by simp [Region.wanted,hg1]
   rw [if_pos hw1];refine .inl ?_;obtain ⟨c1,c2,c3,c4⟩:=Zf h1;simp only at c2;refine ZT (N:=N) (b:=b) (m0:=m) (β0:=β) (w0:=w) (k:=fun x S'=>x = .list l/\S'=S) c1 c4 (by simp [vop,ji,ev,hv]) hS hF (ExtB.refl _ _ _ _) ?_;rintro x S' m' β' w' a' ⟨rfl,rfl⟩ k2 k3 k4;rw [<-c2] at k3;have hw2:Region.wanted o2 (yielded ops a'.tmps)=true:=by simp [Region.wanted,hg]
   rw [if_pos hw2];refine .inl ?_;have hF':FrameRep N m' β' (σ.set d1 (.list l)) a':=k3;have hr:=jA hF' hy;have hl:ev (σ.set d1 (.list l)) (.tmp d1) = .list l:=by simp [ev,Fr.look_set]
   rw [hl] at hr;obtain ⟨ad,len,cap,e1,e2⟩:=list_addr hr;have e3:a'.eval u = .slice none 0 0:=by rw [hu]; rfl
   have hgd:(eqGuard .eql t y u (.slice ad len cap) (.slice none 0 0)).run P w' = .ok () w':=rfl;have hrun:(execOp a'.eval o2).run P w' = .ok (.value (.bool ad.isNone)) w':=by
    simp [execOp,hop,e1,e3,hgd,binOp,equal_nil ht]
   unfold Oper.wp;rw [hrun];refine ⟨_,S',m',β',H ad.isNone (fun hn=>e2 (by simpa using hn)),k2, ?_,k4⟩;have:=hF'.put o2.dst (fun t ht=>by rw [hd] at ht; cases ht; exact aQ hlt) (x := .bool ad.isNone) (v := .bool ad.isNone) (.imm (.bool _));rw [hd] at this ⊢;exact this
  ·simp [Code.kind] at h
 | _=>simp [Code.kind] at h
end
section
variable {P:Program} {N b:Nat} {Q:Exit->Fr->Store->Prop} {σ:Fr} {S:Store}
theorem JR {c c2:Code} {cs:List CO} {Q2:Exit->Fr->Store->Prop} (zc zs:Store) (es:List Nat) (n0 i j:Nat) (ord1 ord2:List Nat) (h:Code.kind c=2) (hm:P.follows .mixedOrders=true) (hc:qh P N (Code.ops c)=some cs) (hnc:callsOk cs i j n0=true) (hij:i≠j)
  (hp:jaA es (qJ (Code.ops c)) (Code.ops c) cs n0 0 (Array.replicate (Code.ops c).size false)=true)
  (hi:(zz n0 0 (Array.replicate (Code.ops c).size false)).getD i true=false) (hj:(zz n0 0 (Array.replicate (Code.ops c).size false)).getD j true=false)
  (hu:(List.range n0).all (fun k=>(zz n0 0 (Array.replicate (Code.ops c).size false)).getD k true)=true)
  (hB1:lexO es (qJ (jx (Code.ops c) j i)) (jx (Code.ops c) j i) cs ord1 (zz n0 0 (Array.replicate (Code.ops c).size false))=true) (hB2:lexO es (qJ (jx (Code.ops c) i j)) (jx (Code.ops c) i j) cs ord2 (zz n0 0 (Array.replicate (Code.ops c).size false))=true)
  (hn0:decide (n0<=(Code.ops c).size)=true) (hn1:ord1.length+n0=(Code.ops c).size) (hn2:ord2.length+n0=(Code.ops c).size) (hE:zh (qJ (Code.ops c)) cs es=true) (hz:(ZZ.mk S zc zs es).ok S)
  {cs0 cs1 cs2:List CO} (hp0:cs.take n0=cs0) (hp1:Zq cs ord1=cs1) (hp2:Zq cs ord2=cs2)
  (H:jz P (some (ZZ.mk S zc zs es)) cs0 (fun σ1 S1 => ∃ σm Sm,VWp P N b c2 Q2 σm Sm/\jz P (some (ZZ.mk S zc zs es)) cs1 (fun σ S=>Reach N b σ S σm Sm) σ1 S1/\jz P (some (ZZ.mk S zc zs es)) cs2 (fun σ S=>Reach N b σ S σm Sm) σ1 S1) σ S):VWp P N b c (Kq (VWp P N b c2 Q2) Q) σ S :=
 vw_drawSplit (ZZ.mk S zc zs es) n0 i j ord1 ord2 h hm hc hnc hij hp hi hj hu hB1 hB2 hn0 hn1 hn2 hE hz S.sub_refl hp0 hp1 hp2 H
end
end Go.Vw
namespace Ss
def putv (to:List Int) (v:Int):Int:=if 0<=v/\v<to.length then to.getD v.toNat 0 else v
def repIns (to:List Int) (x:Ins):Ins:=⟨x.op,x.n,x.args.map (putv to),x.outs⟩
def repEdge (to:List Int) (x:Edge):Edge:=⟨x.to,x.args.map (putv to)⟩
def repTerm (to:List Int) (t:Term):Term:=⟨t.kind,if t.kind=2\/t.kind=3 then putv to t.arg else t.arg,t.to.map (repEdge to),t.args.map (putv to)⟩
def repBlock (to:List Int) (b:Block):Block:=⟨b.params,b.code.map (repIns to),repTerm to b.term⟩
def replace (f:Fn) (to:List Int):Fn:=⟨f.sig,f.types,f.blocks.map (repBlock to)⟩
theorem jcv:putv []=fun v=>v:=by funext v; simp [putv]; omega
theorem repIns_nil (x:Ins):repIns [] x=x:=by simp [repIns,jcv]
theorem repEdge_nil (x:Edge):repEdge [] x=x:=by simp [repEdge,jcv]
theorem repTerm_nil (t:Term):repTerm [] t=t:=by
 have:repEdge []=id:=by funext x; exact repEdge_nil x
 simp [repTerm,jcv,this]
theorem repBlock_nil (b:Block):repBlock [] b=b:=by
 have:repIns []=id:=by funext x; exact repIns_nil x
 simp [repBlock,repTerm_nil,this]
theorem replace_nil (f:Fn):replace f []=f:=by
 have:repBlock []=id:=by funext x; exact repBlock_nil x
 simp [replace,this]
end Ss
namespace Go.Vw
open Go.Proofs Go.RowKit
theorem Agree.St {S B:Store} {l:List (Option (Nat × List V))} (h:Agree S B):Agree S (St B [] l):=by
 refine ⟨by rw [jL,lid]; have:=h.1; omega,fun o ho => ?_⟩;rw [jh (aU ho h.1)];exact h.2 o ho
end Go.Vw
namespace Ss
end Ss
namespace Go.Vw
open Go.Proofs Go.RowKit
theorem qn (l:List Int):ju vint l=l.map vint:=by
 induction l with
 | nil=>rfl
 | cons x l ih =>
  simp only [ju,List.flatMap_cons,List.map_cons] at ih ⊢;rw [ih]; rfl
end Go.Vw
namespace Go.Vw
open Go.Proofs Go.RowKit
attribute [-simp] List.map_set
theorem Check_v (e:Ss.Env) (f:Ss.Fn) (he:e.Fits) (hf:f.Fits):VPure Tryz.prog 24 [qL e,jI f] (.bool (Ss.check e f)):=by
 intro S;have cer:=EnvRight_v e he;have csm:=small_v f hf;have hsb := @zt f;have ckt:VPure Tryz.prog 59 [.int .i64 2048,vl vint f.types] (.bool (Ss.kinds 2048 f.types)):=jcG 2048 f.types (by have:=hf.2.1.1; omega);have csr:=jbv f.sig hf.1;have cpa:=AnyB_v f.blocks (fun b=>decide (256<b.params.length)) 62 [] rfl (by have:=hf.2.2.1; omega) (fun b _=>check1_v b);have hpa:(f.blocks.all fun b=>decide (b.params.length<=256)) = !(f.blocks.any fun b=>decide (256<b.params.length)):=by
  rw [List.not_any_eq_all_not]; congr 1; funext b; by_cases h:b.params.length<=256<;>simp [h]<;>omega
 have hH:Ss.checkHead e f=(e.right&&f.small&&decide (f.blocks.length<=256)&&Ss.kinds 2048 f.types&&f.sig.right && !(f.blocks.any fun b=>decide (256<b.params.length))):=by rw [<-hpa]; rfl
 have hX:Ss.check e f=(Ss.checkHead e f&&match Ss.defsOf f with
  | none=>false
  | some ds=>Ss.shapeOk f&&Ss.checkBlocks e f ds (G.nearI (Ss.succs f.blocks)) 0 f.blocks):=rfl
 have hks:Ss.kinds 2048 f.types=true->f.types.length<=2048:=by
  intro h; simp only [Ss.kinds,af,aj] at h; exact h.1
 have her:e.right=true->e.muts.length=e.globals.length:=by
  intro h; simp only [Ss.Env.right,af,aj] at h; exact h.1.1.2
 rw [hX,hH];generalize (f.blocks.any fun b=>decide (256<b.params.length))=pa at *
 generalize e.right=er at *
 generalize hsm:f.small=sm at *
 generalize Ss.kinds 2048 f.types=kt at *
 generalize f.sig.right=sr at *
 have hsl:=he.1.1;have hgl:=he.2.2.1.1;obtain ⟨sg,im,gl,mu,me⟩:=e;obtain ⟨⟨fi,fo⟩,ts,bs⟩:=f;simp only at *
 have cer':VPure Tryz.prog 57 [.agg [vl jm sg, .int .i64 im,vl vint gl,vl V.bool mu, .bool me]] (.bool er):=cer;have csm':VPure Tryz.prog 58 [.agg [vl vint fi,vl vint fo,vl vint ts,vl je bs]] (.bool sm):=csm;have csr':VPure Tryz.prog 60 [.agg [vl vint fi,vl vint fo]] (.bool sr):=csr;generalize hZ:(match Ss.defsOf ⟨⟨fi,fo⟩,ts,bs⟩ with
  | none=>false
  | some ds=>Ss.shapeOk ⟨⟨fi,fo⟩,ts,bs⟩&&Ss.checkBlocks ⟨sg,im,gl,mu,me⟩ ⟨⟨fi,fo⟩,ts,bs⟩ ds (G.nearI (Ss.succs bs)) 0 bs)=Z
 refine QB (c:=jc Tryz.f24) Tryz.func24 Tryz.ntmps24 fun hwf=>?_
 refine bw ?_
 refine QP ?_;refine QL (cer') ?_
 by_cases h1:er=true
 case neg =>
  have h1':er=false:=by simpa using h1
  refine bB h1' ?_;refine bR ?_
  exact ja hwf (by simp [h1']) rfl
 refine bB h1 ?_;refine QL (csm') ?_
 by_cases h2:sm=true
 case neg =>
  have h2':sm=false:=by simpa using h2
  refine bB h2' ?_;refine bR ?_
  exact ja hwf (by simp [h2']) rfl
 by_cases h3:(256:Int)<(bs.length:Int)
 ·refine bF h2 h3 ?_;refine bR ?_
  exact ja hwf (by rw [show decide (bs.length<=256)=false by simp; omega]; simp) rfl
 have h3':bs.length<=256:=by omega
 refine bF h2 h3 ?_;refine QL (ckt) ?_
 by_cases h4:kt=true
 case neg =>
  have h4':kt=false:=by simpa using h4
  refine bB h4' ?_;refine bR ?_
  exact ja hwf (by simp [h4']) rfl
 refine bB h4 ?_;refine QL (csr') ?_
 by_cases h5:sr=true
 case neg =>
  have h5':sr=false:=by simpa using h5
  refine bB h5' ?_;refine bR ?_
  exact ja hwf (by simp [h5']) rfl
 rw [h1,h2,h4,h5,decide_eq_true h3'];simp only [aE];have htl:=hks h4;obtain ⟨_,_,hsf,_⟩:=hsb h2;refine bB h5 ?_;refine bR ?_
 refine QP ?_;refine QL (cpa) ?_
 by_cases h6:pa=true
 ·refine bB h6 ?_;refine bR ?_
  exact ja hwf (by simp [h6]) rfl
 have h6':pa=false:=by simpa using h6
 rw [h6'];simp only [Bool.not_false,aE];refine bB h6' ?_;refine jK rfl (define_v _ ⟨sg,im,gl,mu,me⟩ ⟨⟨fi,fo⟩,ts,bs⟩ (lid S.nx 2) hf (by simp only; omega) (by simp)) ?_;rintro X S' ⟨ds,hdl,rfl,hdd,rfl⟩;rw [St_St (by rw [jL]; simp [lid]),JO (by simp),Zk,jL,lid_lid];simp only [aq,au,List.cons_append,List.nil_append,aC,aM,bd,Nat.add_zero]
 cases hdf:Ss.defsOf ⟨⟨fi,fo⟩,ts,bs⟩ with
 | none =>
  rw [hdf] at hZ;simp only at hZ;obtain ⟨z,hz⟩ : ∃ z,(none:Option (List Ss.Def)).isSome=z:=⟨_,rfl⟩
  have hz':z=false:=by rw [<-hz]; rfl
  rw [hz];refine bB hz' ?_;refine bR ?_
  exact ja hwf (by simp [<-hZ]) rfl
 | some ds2 =>
  obtain rfl:=hdd _ hdf;rw [hdf] at hZ;simp only at hZ;obtain ⟨hdl2,hdin⟩:=Ss.defs_in hdf;simp only at hdin;obtain ⟨z,hz⟩ : ∃ z,(some ds:Option (List Ss.Def)).isSome=z:=⟨_,rfl⟩
  have hz':z=true:=by rw [<-hz]; rfl
  rw [hz];refine bB hz' ?_;refine jK rfl (shape_v _ ⟨sg,im,gl,mu,me⟩ ⟨⟨fi,fo⟩,ts,bs⟩ (lid S.nx 2) (lid S.nx 3) hf (hsm.trans h2) (by simp [hdl]) (by simp [lid]) (fun b hb=>(hdin b hb).1)) ?_;rintro X S' ⟨nv,hnv,rfl,hnvv,rfl⟩;rw [JO (by simp)];simp only [aq,au];generalize hso:Ss.shapeOk ⟨⟨fi,fo⟩,ts,bs⟩=so at *
  by_cases h7:so=true
  case neg =>
   have h7':so=false:=by simpa using h7
   refine bB h7' ?_;refine bR ?_
   exact ja hwf (by simp [<-hZ,h7']) rfl
  have hnv2:=hnvv h7;subst hnv2;rw [h7,aE] at hZ;have hright:G.right (Ss.succs bs)=true:=by
   have:=hso.trans h7;simp only [Ss.shapeOk,af] at this;exact this.1.1.1.1
  have hto:=Ss.right_to (f:=⟨⟨fi,fo⟩,ts,bs⟩) hright;simp only at hto;have hnl:=G.nearI_len (Ss.succs bs);generalize hnr:G.nearI (Ss.succs bs)=near at *
  refine bB h7 ?_;refine QN ?_
  apply jE
  ·exact Reach.frzCellS (enc:=qM) (s:=3) (fun _=>rfl) zH (k:=2) (j:=3) (i:=9) ds (by decide) (by simp) (by simp) (by rfl) (by rw [hdl]; rfl) (by rfl)
  simp only [aq,au];refine QH 5 2 ?_
  refine bw ?_
  refine QO [5,54,55,56] ?_;refine QK [] ?_;have ci : ∀ (i k:Nat) (b:Ss.Block) (x:Ss.Ins),b∈bs->x∈b.code->VPure Tryz.prog 65 [ckV ⟨sg,im,gl,mu,me⟩ ⟨⟨fi,fo⟩,ts,bs⟩ ds near,vnat i,vnat k,jp x] (.bool (Ss.insOk ⟨sg,im,gl,mu,me⟩ ⟨⟨fi,fo⟩,ts,bs⟩ ds near i k x)):=by
   intro i k b x hb hx;have hbF:=hf.2.2.2 b hb;have hxF:=hbF.2.1.2 x hx;have hsmb:=((Ss.small_iff _).1 (hsm.trans h2)).2.1 b hb;simp only [Ss.Block.small,af,aD,Ss.Ins.small,aj] at hsmb;have hxl:=(hsmb.1.2 x hx).2;exact ins_v ⟨sg,im,gl,mu,me⟩ ⟨⟨fi,fo⟩,ts,bs⟩ ds near i k x hsl hgl (her h1) hdl (by simp only; omega) (by omega) hxF (by omega) ((hdin b hb).2 x hx)
  have ctm : ∀ (i:Nat) (b:Ss.Block),b∈bs->VPure Tryz.prog 66 [ckV ⟨sg,im,gl,mu,me⟩ ⟨⟨fi,fo⟩,ts,bs⟩ ds near,vnat i,je b] (.bool (Ss.termOk ⟨⟨fi,fo⟩,ts,bs⟩ ds near i b)):=fun i b hb =>
   term_v ⟨sg,im,gl,mu,me⟩ ⟨⟨fi,fo⟩,ts,bs⟩ ds near i b hdl (by simp only; omega) (by omega) (by simp only; omega) (by have:=hf.1.2.1; simp only at this ⊢; omega) (hf.2.2.2 b hb) (hto b hb) (fun b hb=>⟨by have:=(hsf b hb).1; omega,(hdin b hb).1⟩)
  refine QT ?_;refine jd [5,54,55,56] rfl (fun c σ S' => ∃ (k:Nat),k<=bs.length/\c=bs.length-k/\Ss.checkBlocks ⟨sg,im,gl,mu,me⟩ ⟨⟨fi,fo⟩,ts,bs⟩ ds near k (bs.drop k)=Z/\σ=[(5,ckV ⟨sg,im,gl,mu,me⟩ ⟨⟨fi,fo⟩,ts,bs⟩ ds near),(54,vl je bs),(55,vnat bs.length),(56,vnat k)]/\S'=St S [] []) bs.length ?_ ?_
  ·exact ⟨0,by omega,rfl,hZ,by simp [Fr.only],rfl⟩
  ·rintro c σ T ⟨k,hk,rfl,hcb,rfl,rfl⟩
   by_cases hkt:k<bs.length
   ·have hw:=jg hkt (by omega);have hst:=jaV (e:=⟨sg,im,gl,mu,me⟩) (f:=⟨⟨fi,fo⟩,ts,bs⟩) (ds:=ds) (near:=near) hkt;have hmem:=ah hkt;have hcl:=(hsf _ hmem).2.2.2;have cti:=ctm k _ hmem;have cii:=fun j x=>ci k j _ x hmem
    obtain ⟨⟨ps,code,⟨tk,ta,to,az⟩⟩,hx⟩ : ∃ b,bs[k]=b:=⟨_,rfl⟩
    rw [hx] at hst hcl cti cii;simp only at hst hcl cii;rw [hst] at hcb;generalize Ss.termOk ⟨⟨fi,fo⟩,ts,bs⟩ ds near k ⟨ps,code,⟨tk,ta,to,az⟩⟩=tm at *
    refine bt hkt hx ?_
    refine QT ?_;refine jd [5,6,7,54,55,56,62,63,64] rfl (fun c σ S' => ∃ (j:Nat),j<=code.length/\c=code.length-j/\Ss.checkCode ⟨sg,im,gl,mu,me⟩ ⟨⟨fi,fo⟩,ts,bs⟩ ds near k j (code.drop j)=Ss.checkCode ⟨sg,im,gl,mu,me⟩ ⟨⟨fi,fo⟩,ts,bs⟩ ds near k 0 code/\σ=[(5,ckV ⟨sg,im,gl,mu,me⟩ ⟨⟨fi,fo⟩,ts,bs⟩ ds near),(6,vnat k),(7, .ptr (lid S.nx 0) 0),(54,vl je bs),(55,vnat bs.length),(56,vnat k),(62,vl jp code),(63,vnat code.length),(64,vnat j)]/\S'=St S [] [some (6,[vl vint ps,vl jp code, .int .i64 tk, .int .i64 ta,vl jk to,vl vint az])]) code.length ?_ ?_
    ·exact ⟨0,by omega,rfl,rfl,by simp [Fr.only],rfl⟩
    ·rintro c σ T ⟨j,hj,rfl,hcc,rfl,rfl⟩
     by_cases hjt:j<code.length
     ·have hwj:=jg hjt (by omega);have hsc:=jcX (e:=⟨sg,im,gl,mu,me⟩) (f:=⟨⟨fi,fo⟩,ts,bs⟩) (ds:=ds) (near:=near) (i:=k) hjt;have cij:=cii j _ (ah hjt);obtain ⟨⟨xo,xn,xa,xu⟩,hx2⟩ : ∃ x,code[j]=x:=⟨_,rfl⟩
      rw [hx2] at hsc cij;generalize Ss.insOk ⟨sg,im,gl,mu,me⟩ ⟨⟨fi,fo⟩,ts,bs⟩ ds near k j ⟨xo,xn,xa,xu⟩=io at *
      have cij':VPure Tryz.prog 65 [ckV ⟨sg,im,gl,mu,me⟩ ⟨⟨fi,fo⟩,ts,bs⟩ ds near,vnat k,vnat j, .agg [.int .i64 xo, .int .u64 xn,vl vint xa,vl vint xu]] (.bool io):=cij
      refine bt hjt hx2 ?_
      refine bK hjt hx2 ?_;refine QL (cij') ?_
      by_cases hio:io=true
      ·refine bB hio ?_;refine bR ?_
       refine QA [0] (h:=⟨?_,j+1,hjt,rfl,by rw [<-hcc,hsc,hio,aE],by simp [hwj],rfl⟩);omega
      ·have hio':io=false:=by simpa using hio
       refine bB hio' ?_;refine bR ?_
       exact ja hwf (by rw [<-hcb, <-hcc,hsc,hio']; simp) rfl
     ·have e1:code.drop j=[]:=by rw [aH]; omega
      rw [e1,Ss.checkCode] at hcc;rw [<-hcc,aE] at hcb;have cti':VPure Tryz.prog 66 [ckV ⟨sg,im,gl,mu,me⟩ ⟨⟨fi,fo⟩,ts,bs⟩ ds near,vnat k, .agg [vl vint ps,vl jp code, .int .i64 tk, .int .i64 ta,vl jk to,vl vint az]] (.bool tm):=cti
      refine bx hjt ?_
      refine bH hjt ?_;refine QL (cti') ?_
      by_cases htm:tm=true
      ·refine bB htm ?_;refine bR ?_
       refine QA [] (h:=⟨?_,k+1,hkt,rfl,by rw [<-hcb,htm,aE],by simp [hw],rfl⟩);omega
      ·have htm':tm=false:=by simpa using htm
       refine bB htm' ?_;refine bR ?_
       exact ja hwf (by rw [<-hcb,htm']; simp) rfl
   ·have e1:bs.drop k=[]:=by rw [aH]; omega
    rw [e1,Ss.checkBlocks] at hcb
    refine bx hkt ?_
    exact ja hwf (by simp [<-hcb]) rfl
end Go.Vw
namespace Ss
end Ss
namespace Go.Vw
open Go.Proofs Go.RowKit
theorem Reach.nilCell {N b0:Nat} {σ:Fr} {B:Store} {u:Upds} {l:List (Option (Nat × List V))} {k i s:Nat} {cs:List V} (hk:k<l.length) (hck:(l[k]?).join=some (s,cs)) (hi:cs[i]? = some .nils) :
  Reach N b0 σ (St B u l) σ (St B u (l.set k (some (s,cs.set i (.list []))))):=by
 have:=Reach.cell (N:=N) (b0:=b0) (σ:=σ) (o:=lid B.nx k) (i:=i) (s:=s) (cs:=cs) (Ghost.nils_list (St B u l)) (by simp [V.one]) (by rw [jv]; exact hck) hi (by rw [jv]; exact hck);rw [JO hk] at this;exact this
def NL (x y:V):Prop:=x=y\/(x = .nils/\y = .list [])
theorem Rep.nl {m:Imm} {β:Objs} {x y:V} {v:Value} (h:Rep m β x v) (hn:NL x y):Rep m β y v:=by
 rcases hn with rfl | ⟨rfl,rfl⟩
 ·exact h
 ·cases h with
  | imm h=>cases h with | nils a=>exact .imm (.list0 a 0 (Nat.zero_le _))
theorem Ghost.agg_nl {S:Store} {xs ys:List V} (hl:xs.length=ys.length) (h : ∀ (i:Nat) (x y:V),xs[i]? = some x->ys[i]? = some y->NL x y):Ghost (.agg xs) S (.agg ys) S:=by
 intro m β w v hS hr;obtain ⟨vs,rfl,hl2,hrr,h1⟩:=hr.inv_agg;refine ⟨m,β,hS,Ext.refl _ _ _, .agg ys vs (by omega) (fun i y u hy hu => ?_) h1⟩;have hi:i<xs.length:=by rw [hl]; exact (ae.1 hy).1
 exact (hrr i xs[i] u (ac hi) hu).nl (h i _ y (ac hi) hy)
end Go.Vw
