import Derived.Test.YtkfllaokjaldnaaGreatC12
import Derived.Test.YtkfllaokjaldnaaGreatC11
/-
  Part of the proof (texts VDeep, VNil, VThaw, LThaw, SSpec, DNeed).
-/
set_option linter.unusedVariables false
set_option linter.unusedSimpArgs false
/-
 What is owned in depth: values of one's own that read as immutable ones; stores that become the base of others.
-/
namespace Go.Vw
open Go.RowKit
section
variable {P:Program} {N b b':Nat} {Q:Exit→Fr→Store→Prop} {σ σ':Fr} {S S':Store}
theorem ExtB.weak {m m':Imm} {β β':Objs} {w w':World} (h:b≤b') (k:ExtB b' m β w m' β' w'):ExtB b m β w m' β' w' :=
 ⟨k.imm,fun o ho=>k.step o (Nat.lt_of_lt_of_le ho h),k.size,k.keep,k.os,k.tape,k.output⟩
theorem Zf {c:Code} (h:b≤b') (k:VWp P N b' c Q σ S):VWp P N b c Q σ S :=
 fun m β w a hS hF=>wp_mono (k m β w a hS hF) fun e a' w' ⟨σ',S',m',β',q,r1,r2,r3⟩=>⟨σ',S',m',β',q,r1,r2,r3.weak h⟩
theorem Reach.weak (h:b≤b') (k:Reach N b' σ S σ' S'):Reach N b σ S σ' S':=fun m β w a hS hF=>by
 obtain ⟨m',β',h1,h2,h3⟩:=k m β w a hS hF
 exact ⟨m',β',h1,h2,h3.weak h⟩
theorem Yk {I:Nat→Fr→Store→Prop} {ks:List Nat} {n:Nat} (h:b≤b') (k:jy N b' I ks n σ S):jy N b I ks n σ S:=by
 obtain ⟨n',h1,σc,Sc,h2,h3⟩:=k
 exact ⟨n',h1,σc,Sc,h2.weak h,h3⟩
end
theorem qP (b j k:Nat):lid (lid b j) k=lid b (j+k):=by simp [lid]; omega
theorem JM {B:Store} {u:Upds} {l m:List (Option (Nat × List V))}:St B u (l++m)=St (St B u l) [] m:=by
 refine Store.ext' (funext fun o => ?_) ?_
 ·have e:(St B u l).nx=B.nx+l.length:=by rw [qn,lid]
  rw [zP,zP,e,zP]
  simp only [uGet]
  by_cases h1:o<B.nx
  ·rw [if_pos h1,if_pos (by omega),if_pos h1]
  ·rw [if_neg h1]
   by_cases h2:o<B.nx+l.length
   ·rw [if_pos h2,if_neg h1,List.getElem?_append_left (by omega)]
   ·rw [if_neg h2,List.getElem?_append_right (by omega)]
    congr 2; omega
 ·rw [qn,qn,qn,qP]; simp
theorem St_sink1 {B:Store} {u:Upds} {c:Option (Nat × List V)} {m:List (Option (Nat × List V))}:St B u (c::m)=St (St B u [c]) [] m:=JM (l:=[c])
mutual
theorem ids_mono {p q:Nat→Bool} (h : ∀ o,p o=true→q o=true) : ∀ x:V,x.ids p=true→x.ids q=true
 | .agg xs,hx=>by simp only [V.ids] at hx ⊢; exact Wp h xs hx
 | .tuple xs,hx=>by simp only [V.ids] at hx ⊢; exact Wp h xs hx
 | .func _ xs,hx=>by simp only [V.ids] at hx ⊢; exact Wp h xs hx
 | .slice o _ _,hx=>by simp only [V.ids] at hx ⊢; exact h o hx
 | .ptr o _,hx=>by simp only [V.ids] at hx ⊢; exact h o hx
 | .map o,hx=>by simp only [V.ids] at hx ⊢; exact h o hx
 | .junk,_=>by simp [V.ids]
 | .bool _,_ | .int _ _,_ | .str _,_ | .nils,_ | .nilp,_ | .nilf,_ | .nilm,_ | .list _,_ | .ref _,_=>by simp [V.ids]
theorem Wp {p q:Nat→Bool} (h : ∀ o,p o=true→q o=true) : ∀ xs:List V,V.idsL p xs=true→V.idsL q xs=true
 | [],_=>by simp [V.idsL]
 | x::xs,hx=>by
  simp only [V.idsL,Bool.and_eq_true] at hx ⊢
  exact ⟨ids_mono h x hx.1,Wp h xs hx.2⟩
end
theorem St_wf {B:Store} (hw:B.Wf) {l:List (Option (Nat × List V))} (h:l.all (fun c=>match c with | some c=>V.idsL (fun o=>decide (o<lid B.nx l.length)) c.2 | none=>true)=true):(St B [] l).Wf:=by
 refine ⟨fun o ho => ?_,fun o c hc => ?_⟩
 ·rw [qn] at ho
  simp only [lid] at ho
  rw [zP,if_neg (by omega),List.getElem?_eq_none (by omega)]; rfl
 ·rw [zP] at hc
  rw [qn]
  by_cases h1:o<B.nx
  ·rw [if_pos h1] at hc
   have:=hw.ids o c hc
   simp only [qN,List.all_eq_true] at this ⊢
   intro x hx
   have h2:=this x hx
   have hle:B.nx≤lid B.nx l.length:=by rw [lid]; omega
   exact ids_mono (fun o ho=>by rw [decide_eq_true_eq] at ho ⊢; exact Nat.lt_of_lt_of_le ho hle) x h2
  ·rw [if_neg h1] at hc
   have hm:some c∈l:=by
    cases hl:l[o-B.nx]? with
    | none=>rw [hl] at hc; cases hc
    | some d=>rw [hl] at hc; simp only [Option.join_some] at hc; subst hc; exact List.mem_of_getElem? hl
   simp only [List.all_eq_true] at h
   exact h _ hm
/-! ### Ownership -/
inductive Ty
 | c
 | s (tys:List Ty)
def reps (n:Nat) (tys:List Ty):List Ty:=(List.replicate n tys).flatten
theorem reps_zero (tys:List Ty):reps 0 tys=[]:=rfl
theorem Je (n:Nat) (tys:List Ty):reps (n+1) tys=tys++reps n tys:=by simp [reps,List.replicate_succ]
theorem Zs (n:Nat) (tys:List Ty):reps (n+1) tys=reps n tys++tys:=by simp [reps,List.replicate_succ',List.flatten_append]
theorem reps_add (n m:Nat) (tys:List Ty):reps (n+m) tys=reps n tys++reps m tys:=by
 induction n with
 | zero=>simp [reps]
 | succ n ih=>rw [Nat.add_right_comm,Je,Je,ih,List.append_assoc]
theorem Jm (n:Nat) (tys:List Ty):(reps n tys).length=n*tys.length:=by
 induction n with
 | zero=>simp [reps]
 | succ n ih=>rw [Je,List.length_append,ih,Nat.succ_mul]; omega
inductive OwL (S:Store):List Ty→List V→List V→List Nat→Prop
 | nil:OwL S [] [] [] []
 | c {ts:List Ty} {rs xs:List V} {j:List Nat} {x:V} (h:x.closed1=true) (t:OwL S ts rs xs j):OwL S (.c::ts) (x::rs) (x::xs) j
 | s {tys ts:List Ty} {rs xs cells ys:List V} {i j:List Nat} {o:Nat} (h:S.get o=some (tys.length,cells)) (hs : ∀ y∈ys,y.cells.length=tys.length∧y.closed=true) (d:OwL S (reps ys.length tys) cells (ys.flatMap V.cells) i) (t:OwL S ts rs xs j) :
   OwL S (.s tys::ts) (.slice o 0 ys.length::rs) (.list ys::xs) (o::(i++j))
theorem OwL.len {S:Store} {ts:List Ty} {rs xs:List V} {ids:List Nat} (h:OwL S ts rs xs ids):rs.length=ts.length∧xs.length=ts.length:=by
 induction h with
 | nil=>exact ⟨rfl,rfl⟩
 | c _ _ ih=>simp [ih]
 | s _ _ _ _ _ ih=>simp [ih]
theorem OwL.mono {S S':Store} {ts:List Ty} {rs xs:List V} {ids:List Nat} (h:OwL S ts rs xs ids):(∀ o∈ids,S'.get o=S.get o)→OwL S' ts rs xs ids:=by
 induction h with
 | nil=>exact fun _ => .nil
 | c h _ ih=>exact fun hk => .c h (ih hk)
 | s h hs _ _ ih1 ih2=>exact fun hk => .s ((hk _ (by simp)).trans h) hs (ih1 fun o ho=>hk o (by simp [ho])) (ih2 fun o ho=>hk o (by simp [ho]))
theorem OwL.append {S:Store} {ts us:List Ty} {rs xs ps qs:List V} {i j:List Nat} (h:OwL S ts rs xs i) (k:OwL S us ps qs j):OwL S (ts++us) (rs++ps) (xs++qs) (i++j):=by
 induction h with
 | nil=>exact k
 | c h _ ih=>exact .c h ih
 | s h hs d _ _ ih=>simpa [List.append_assoc] using OwL.s h hs d ih
theorem OwL.split {S:Store} {us:List Ty} : ∀ {ts:List Ty} {rs xs:List V} {ids:List Nat},OwL S (ts++us) rs xs ids → ∃ r1 r2 x1 x2 i1 i2,rs=r1++r2∧xs=x1++x2∧ids=i1++i2∧OwL S ts r1 x1 i1∧OwL S us r2 x2 i2
 | [],rs,xs,ids,h=>⟨[],rs,[],xs,[],ids,rfl,rfl,rfl, .nil,h⟩
 | t::ts,rs,xs,ids,h=>by
  cases h with
  | c hc k =>
   obtain ⟨r1,r2,x1,x2,i1,i2,rfl,rfl,rfl,k1,k2⟩:=OwL.split k
   exact ⟨_::r1,r2,_::x1,x2,i1,i2,rfl,rfl,rfl, .c hc k1,k2⟩
  | s ho hs d k =>
   obtain ⟨r1,r2,x1,x2,i1,i2,rfl,rfl,rfl,k1,k2⟩:=OwL.split k
   exact ⟨_::r1,r2,_::x1,x2,_::(_++i1),i2,rfl,rfl,by simp, .s ho hs d k1,k2⟩
theorem OwL.closed {S:Store} {ts:List Ty} {rs xs:List V} {ids:List Nat} (h:OwL S ts rs xs ids) : ∀ x∈xs,x.closed1=true:=by
 induction h with
 | nil=>simp
 | c h _ ih=>intro x hx; rcases List.mem_cons.1 hx with rfl | hx; exact h; exact ih x hx
 | s _ _ _ _ _ ih=>intro x hx; rcases List.mem_cons.1 hx with rfl | hx; rfl; exact ih x hx
theorem OwL.alive {S:Store} {ts:List Ty} {rs xs:List V} {ids:List Nat} (h:OwL S ts rs xs ids) : ∀ o∈ids,(S.get o).isSome=true:=by
 induction h with
 | nil=>simp
 | c h _ ih=>exact ih
 | s h _ _ _ ih1 ih2 =>
  intro o ho
  rcases List.mem_cons.1 ho with rfl | ho
  ·rw [h]; rfl
  ·rcases List.mem_append.1 ho with ho | ho
   ·exact ih1 o ho
   ·exact ih2 o ho
theorem OwL.cells {S:Store} {ts:List Ty} {rs xs:List V} {ids:List Nat} (h:OwL S ts rs xs ids) : ∀ r∈rs,r.closed1=true ∨ ∃ o n,r = .slice o 0 n:=by
 induction h with
 | nil=>simp
 | c h _ ih=>intro x hx; rcases List.mem_cons.1 hx with rfl | hx; exact .inl h; exact ih x hx
 | s _ _ _ _ _ ih=>intro x hx; rcases List.mem_cons.1 hx with rfl | hx; exact .inr ⟨_,_,rfl⟩; exact ih x hx
theorem OwL.all_c {S:Store} : ∀ {xs:List V},(∀ x∈xs,x.closed1=true)→OwL S (List.replicate xs.length .c) xs xs []
 | [],_ => .nil
 | x::xs,h => .c (h x (by simp)) (OwL.all_c fun y hy=>h y (by simp [hy]))
theorem repL_cons {m:Imm} {β:Objs} {x:V} {xs:List V} {vs:List Value} (h:RepL m β (x::xs) vs) : ∃ v r,vs=v::r∧Rep m β x v∧RepL m β xs r:=by
 cases vs with
 | nil=>have:=h.1; simp at this
 | cons v r=>exact ⟨v,r,rfl,h.2 0 x v rfl rfl,by have:=h.1; simpa using this,fun i y u hy hu=>h.2 (i+1) y u (by simpa using hy) (by simpa using hu)⟩
theorem jbO {S:Store} {o:Nat} {i:List Nat} {c:Nat × List V}:((S.dels i).upd o c).del o=S.dels (o::i):=by
 refine Store.ext' (funext fun o' => ?_) (by simp only [Store.del,Store.upd]; rw [jbN,jbN])
 rw [JS,qf,Yf,Yf]
 by_cases h:o'=o<;>simp [h]
theorem dels_app (S:Store) (i j:List Nat):S.dels (i++j)=(S.dels i).dels j:=by simp [Store.dels,List.foldl_append]
theorem OwL.freeze {S0:Store} {ts:List Ty} {rs xs:List V} {ids:List Nat} (h:OwL S0 ts rs xs ids):ids.Nodup → ∀ S:Store,(∀ o∈ids,S.get o=S0.get o)→GhostArgs rs S xs (S.dels ids):=by
 induction h with
 | nil=>exact fun _ S _ m β w vs hS hr=>⟨m,β,hS,Ext.refl _ _ _,hr⟩
 | @c ts rs xs j x h _ ih =>
  intro hn S hk m β w vs hS hr
  obtain ⟨v,r,rfl,h1,h2⟩:=repL_cons hr
  obtain ⟨m',β',k1,k2,k3⟩:=ih hn S hk m β w r hS h2
  exact ⟨m',β',k1,k2,k3.cons (k2.rep h1)⟩
 | @s tys ts rs xs cells ys i j o h hs d t ih1 ih2 =>
  intro hn S hk m β w vs hS hr
  obtain ⟨v,r,rfl,h1,h2⟩:=repL_cons hr
  obtain ⟨hno,hnij⟩:=List.nodup_cons.1 hn
  obtain ⟨hni,hnj,hd⟩:=List.nodup_append.1 hnij
  have hoi:o∉i:=fun h=>hno (by simp [h])
  have hoj:o∉j:=fun h=>hno (by simp [h])
  have hget:S.get o=some (tys.length,cells):=(hk o (by simp)).trans h
  -- the object's cells become immutable
  have step1 : ∃ m1 β1,Holds ((S.dels i).upd o (tys.length,ys.flatMap V.cells)) m1 β1 w∧Ext m β w m1 β1 w:=by
   have hl:=hS.live o _ hget
   have hlen:cells.length=(ys.flatMap V.cells).length:=by rw [d.len.1,d.len.2]
   have hgi:(S.dels i).get o=some (tys.length,cells):=by rw [Yf,if_neg hoi]; exact hget
   cases hβ:β o with
   | fresh=>rw [hβ] at hl; exact hl.elim
   | dead=>rw [hβ] at hl; exact hl.elim
   | void =>
    rw [hβ] at hl
    simp only [Live] at hl
    subst hl
    obtain ⟨m1,β1,k1,k2,_⟩:=ih1 hni S (fun o ho=>hk o (by simp [ho])) m β w [] hS (RepL.nil _ _)
    have e:ys.flatMap V.cells=[]:=List.eq_nil_of_length_eq_zero (by rw [←hlen]; rfl)
    rw [e]
    refine ⟨m1,β1, ?_,k2⟩
    have:(S.dels i).upd o (tys.length,[])=S.dels i:=by
     refine Store.ext' (funext fun o' => ?_) rfl
     rw [qf]
     split
     ·rename_i e'; subst e'; exact hgi.symm
     ·rfl
    rw [this]; exact k1
   | mp b' =>
    rw [hβ] at hl
    obtain ⟨es,clock,e1,e2,e3⟩:=hl
    have hz:cells=[]:=by
     cases cells with
     | nil=>rfl
     | cons c0 cr =>
      exfalso
      have hi2:0<es.size:=by simp only [List.length_cons] at e2; omega
      obtain ⟨k,v,e4,_⟩:=e3 0 c0 es[0] rfl (Array.getElem?_eq_getElem hi2)
      subst e4
      rcases d.cells _ (List.mem_cons_self) with h | ⟨_,_,h⟩
      ·simp [V.closed1] at h
      ·cases h
    subst hz
    obtain ⟨m1,β1,k1,k2,_⟩:=ih1 hni S (fun o ho=>hk o (by simp [ho])) m β w [] hS (RepL.nil _ _)
    have e:ys.flatMap V.cells=[]:=List.eq_nil_of_length_eq_zero (by rw [←hlen]; rfl)
    rw [e]
    refine ⟨m1,β1, ?_,k2⟩
    have:(S.dels i).upd o (tys.length,[])=S.dels i:=by
     refine Store.ext' (funext fun o' => ?_) rfl
     rw [qf]
     split
     ·rename_i e'; subst e'; exact hgi.symm
     ·rfl
    rw [this]; exact k1
   | lies b base s n =>
    rw [hβ] at hl
    obtain ⟨h0,arr,T,e1,e2,e3,e4⟩:=hl
    simp only at e3 e4
    have hvs:RepL m β cells ((List.range cells.length).map fun q=>arr.getD (base+q) undef):=by
     refine ⟨by simp,fun q x u hx hu => ?_⟩
     obtain ⟨u',f1,f2,_⟩:=e4 q x hx
     have hq:q<cells.length:=(List.getElem?_eq_some_iff.1 hx).1
     simp only [List.getElem?_map,List.getElem?_range hq,Option.map_some,Option.some.injEq] at hu
     subst hu
     have:arr.getD (base+q) undef=u':=by rw [Array.getD_eq_getD_getElem?,f1]; rfl
     rw [this]; exact f2
    obtain ⟨m1,β1,k1,k2,k3⟩:=ih1 hni S (fun o ho=>hk o (by simp [ho])) m β w _ hS hvs
    have hb':β1 o = .lies b base s n:=by
     rcases k2.step o (by rw [hβ]; exact Loc.noConfusion) with h' | h'
     ·rw [h',hβ]
     ·have:=k1.live o _ hgi
      rw [h'] at this; exact this.elim
    refine ⟨m1,β1, ?_,k2⟩
    refine k1.reseen hgi hb' e1 _ hlen.symm fun q x u hx hu => ?_
    have hq:q<cells.length:=by rw [hlen]; exact (List.getElem?_eq_some_iff.1 hx).1
    refine k3.2 q x u hx ?_
    simp only [List.getElem?_map,List.getElem?_range hq,Option.map_some,Option.some.injEq]
    rw [Array.getD_eq_getD_getElem?,hu]; rfl
  obtain ⟨m1,β1,k1,k2⟩:=step1
  -- the slice becomes a list
  have hg:Ghost (.slice o 0 ys.length) ((S.dels i).upd o (tys.length,ys.flatMap V.cells)) (.list ys) (S.dels (o::i)):=by
   rw [←jbO (c:=(tys.length,ys.flatMap V.cells))]
   let enc:{y // y∈ys}→V:=fun y=>y.1
   have e1:jq enc ys.attach=ys.flatMap V.cells:=by
    have:ys.attach.map enc=ys:=List.attach_map_subtype_val ys
    calc jq enc ys.attach=(ys.attach.map enc).flatMap V.cells:=by simp [jq,List.flatMap_map]
     _=_:=by rw [this]
   have e2:vl enc ys.attach = .list ys:=by
    show V.list _=_
    rw [List.attach_map_subtype_val]
   have:=frzS (enc:=enc) (s:=tys.length) (fun y=>(hs y.1 y.2).1) (fun y=>(hs y.1 y.2).2) (S:=(S.dels i).upd o (tys.length,ys.flatMap V.cells)) (o:=o) ys.attach (by rw [e1]; exact JE)
   rw [e2,List.length_attach] at this
   exact this
  obtain ⟨m2,β2,q1,q2,q3⟩:=hg m1 β1 w v k1 (k2.rep h1)
  have hkj : ∀ o'∈j,(S.dels (o::i)).get o'=S0.get o':=by
   intro o' ho'
   have hm : ¬ o'∈o::i:=by
    intro hm
    rcases List.mem_cons.1 hm with rfl | hm
    ·exact hoj ho'
    ·exact hd o' hm o' ho' rfl
   rw [Yf,if_neg hm]
   exact hk o' (by simp [ho'])
  obtain ⟨m3,β3,p1,p2,p3⟩:=ih2 hnj (S.dels (o::i)) hkj m2 β2 w r q1 ⟨h2.1,fun a x u hx hu=>q2.rep (k2.rep (h2.2 a x u hx hu))⟩
  refine ⟨m3,β3, ?_,(k2.trans q2).trans p2,p3.cons (p2.rep q3)⟩
  rw [show o::(i++j)=(o::i)++j from rfl,dels_app]
  exact p1
theorem jaG (n s:Nat):reps n (List.replicate s .c)=List.replicate (n*s) .c:=by
 induction n with
 | zero=>simp [reps]
 | succ n ih=>rw [Je,ih,List.replicate_append_replicate,Nat.succ_mul,Nat.add_comm]
theorem za {α:Type} (enc:α→V) (ls:List α):(ls.map enc).flatMap V.cells=jq enc ls:=by simp [jq,List.flatMap_map]
theorem OwL.flat {α:Type} {enc:α→V} {s:Nat} (hs : ∀ a,(enc a).cells.length=s) (hc : ∀ a,(enc a).closed=true) {S:Store} (ls:List α):OwL S (reps ls.length (List.replicate s .c)) (jq enc ls) (jq enc ls) []:=by
 have h:=OwL.all_c (S:=S) (xs:=jq enc ls) (by simpa using Yv hc ls)
 rwa [Kl hs, ←jaG] at h
theorem OwL.slice {α:Type} {enc:α→V} {s:Nat} (hs : ∀ a,(enc a).cells.length=s) (hc : ∀ a,(enc a).closed=true) {S:Store} {o:Nat} (ls:List α) (hg:S.get o=some (s,jq enc ls)) {ts:List Ty} {rs xs:List V} {j:List Nat} (t:OwL S ts rs xs j) :
  OwL S (.s (List.replicate s .c)::ts) (.slice o 0 ls.length::rs) (vl enc ls::xs) (o::j):=by
 have:=OwL.s (S:=S) (o:=o) (tys:=List.replicate s .c) (cells:=jq enc ls) (ys:=ls.map enc) (i:=[]) (by rw [List.length_replicate]; exact hg)
  (fun y hy=>by obtain ⟨a,_,rfl⟩:=List.mem_map.1 hy; exact ⟨by rw [hs,List.length_replicate],hc a⟩) (by rw [List.length_map,za]; exact OwL.flat hs hc ls) t
 rw [List.length_map] at this
 exact this
theorem OwL.old {S:Store} {n:Nat} {ts:List Ty} {rs xs:List V} {ids:List Nat} (h:OwL S ts rs xs ids) (hn : ∀ o∈ids,o<n) (ks:List Nat):V.idsL (gcP n ks) rs=true∧V.renL (gcTo n ks) rs=rs:=by
 induction h with
 | nil=>exact ⟨by simp [V.idsL],by simp [V.renL]⟩
 | @c ts rs xs j x h _ ih =>
  obtain ⟨h1,h2⟩:=ih hn
  have e1:x.ids (gcP n ks)=true:=by cases x<;>first | (simp [V.ids]; done) | (simp [V.closed1] at h)
  have e2:x.ren (gcTo n ks)=x:=by cases x<;>first | (simp [V.ren]; done) | (simp [V.closed1] at h)
  exact ⟨by simp [V.idsL,e1,h1],by simp [V.renL,e2,h2]⟩
 | @s tys ts rs xs cells ys i j o h hs d t ih1 ih2 =>
  obtain ⟨h1,h2⟩:=ih2 fun o ho=>hn o (by simp [ho])
  have ho:=hn o (by simp)
  exact ⟨by simp [V.idsL,V.ids,zA ks ho,h1],by simp [V.renL,V.ren,qX ks ho,h2]⟩
theorem closed1_ids {x:V} (h:x.closed1=true) (p:Nat→Bool):x.ids p=true:=by cases x<;>first | (simp [V.ids]; done) | (simp [V.closed1] at h)
theorem OwL.ids_lt {S:Store} {p:Nat→Bool} {ts:List Ty} {rs xs:List V} {ids:List Nat} (h:OwL S ts rs xs ids) (hn : ∀ o∈ids,p o=true):V.idsL p rs=true:=by
 induction h with
 | nil=>simp [V.idsL]
 | c h _ ih=>simp [V.idsL,closed1_ids h,ih hn]
 | @s tys ts rs xs cells ys i j o h hs d t ih1 ih2=>simp [V.idsL,V.ids,hn o (by simp),ih2 fun o ho=>hn o (by simp [ho])]
theorem vseg_nil {P:Program} {z:Option ZZ} {r:List CO} {K:Fr→Store→Prop} {σ:Fr} {T:Store} (h:T.Wf) (k:jM P z r K σ (St T [] [])):jM P z r K σ T:=by rwa [qF h] at k
theorem jaw {P:Program} {N b:Nat} {Q:Exit→Fr→Store→Prop} {σ:Fr} {T:Store} {c:Code} (h:T.Wf) (k:VWp P N b c Q σ (St T [] [])):VWp P N b c Q σ T:=by rwa [qF h] at k
theorem lid_lt (b j k:Nat):(lid b j<lid b k)=(j<k):=by simp [lid]
theorem upd_wf {S:Store} (h:S.Wf) {o:Nat} {c:Nat × List V} (ho:o<S.nx) (hc:V.idsL (fun o=>decide (o<S.nx)) c.2=true):(S.upd o c).Wf:=by
 refine ⟨fun o' ho' => ?_,fun o' c' hc' => ?_⟩
 ·have h1:S.nx≤o':=ho'
  rw [qf,if_neg (by omega)]; exact h.gone o' h1
 ·rw [qf] at hc'
  split at hc'
  ·cases hc'; exact hc
  ·exact h.ids o' c' hc'
theorem done_gc {S:Store} {l l':List (Option (Nat × List V))} {r r':V} {R:V→Store→Prop} (ks:List Nat) (hw:S.Wf) (h1:ks.Nodup) (h2:(YG S.nx ks l ks&&r.ids (gcP S.nx ks))=true) (hl:gcL S.nx ks l ks=l') (hr:r.ren (gcTo S.nx ks)=r') (hR:R r' (St S [] l')):YI S.nx R r (St S [] l):=by
 obtain ⟨h3,h4⟩:=Bool.and_eq_true_iff.1 h2
 have h:=gc_ren (u:=[]) hw h1 rfl h3
 subst hl
 subst hr
 exact ⟨_,_,GhostB.ren h (JG (fun o ho=>gc_back o ho) r h4).symm,hR⟩
theorem Jb {S:Store} : ∀ {n:Nat} {rs xs:List V} {ids:List Nat},OwL S (List.replicate n .c) rs xs ids→rs=xs∧ids=[]
 | 0,rs,xs,ids,h=>by
  generalize hr:List.replicate 0 Ty.c=ts at h
  cases h with
  | nil=>exact ⟨rfl,rfl⟩
  | c _ _=>cases hr
  | s _ _ _ _=>cases hr
 | n+1,rs,xs,ids,h=>by
  rw [List.replicate_succ] at h
  cases h with
  | c h t =>
   obtain ⟨rfl,rfl⟩:=Jb t
   exact ⟨rfl,rfl⟩
theorem ghost_agg {rs xs:List V} {S S':Store} (h:GhostArgs rs S xs S'):Ghost (.agg rs) S (.agg xs) S':=by
 intro m β w v hS hr
 obtain ⟨vs,rfl,hl,hr,hone⟩:=hr.inv_agg
 obtain ⟨m',β',h1,h2,h3⟩:=h m β w vs hS ⟨hl,hr⟩
 exact ⟨m',β',h1,h2, .agg xs vs h3.1 h3.2 hone⟩
end Go.Vw

/-
 Is a slice nil? Only where it is empty.
-/
namespace Go.Vw
open Go.RowKit
section
variable {P:Program} {N b:Nat} {Q:Exit→Fr→Store→Prop} {σ:Fr} {S:Store}
theorem list_addr {m:Imm} {β:Objs} {l:List V} {v:Value} (h:Rep m β (.list l) v) : ∃ ad len cap,v = .slice ad len cap∧(ad=none→l=[]):=by
 have:=h.inv_list
 generalize hl:V.list l=x at this
 cases this with
 | list0 a cap hc=>cases hl; exact ⟨a,0,cap,rfl,fun _=>rfl⟩
 | list xs vs b off cap s arr T fz hm hl' hc hcm hs hr hcells=>cases hl; exact ⟨some ⟨b,off,none⟩,_,cap,rfl,fun h=>by cases h⟩
 | _=>cases hl
theorem equal_nil {t e:TypeId} (ht:P.underlying t=some (.slice e)) (ad:Option Addr) (len cap:Nat) (w:World):(Op.equal t (.slice ad len cap) (.slice none 0 0)).run P w = .ok ad.isNone w:=by
 have hd:Op.maxDepth=9999+1:=rfl
 unfold Op.equal
 rw [hd]
 unfold Op.equalIn
 cases ad<;>simp [run_underlying ht]
theorem vw_isnil {c:Code} {o1 o2:Oper} {d1 d2 s:Nat} {t t' e:TypeId} {y u:Operand} {l:List V} (h:Code.kind c=1) (hops:(Code.ops c).toList=[o1,o2]) (h1:KW P N (Code.ops c) o1=some ⟨some d1,none, .move (.tmp s)⟩) (hg1:o1.guard=none)
  (hop:o2.op = .binOp .eql t y u t') (hg:o2.guard=none) (hd:o2.dst=some d2) (hlt:decide (d2<N)=true) (hy:js y=some (.tmp d1)) (hu:u = .const (.slice none 0 0)) (ht:P.underlying t=some (.slice e)) (hv:σ.look s = .list l)
  (H : ∀ b:Bool,(b=true→l=[])→Q .normal ((σ.set d1 (.list l)).set d2 (.bool b)) S):VWp P N b c Q σ S:=by
 cases c with
 | region id ops dr =>
  cases dr
  ·intro m β w a hS hF
   refine wp_region_list ?_
   simp only [Code.ops] at hops h1
   rw [hops]
   simp only [wpList]
   have hw1:Region.wanted o1 (yielded ops a.tmps)=true:=by simp [Region.wanted,hg1]
   rw [if_pos hw1]
   refine .inl ?_
   obtain ⟨c1,c2,c3,c4⟩:=Yz h1
   simp only at c2
   refine Zh (N:=N) (b:=b) (m0:=m) (β0:=β) (w0:=w) (k:=fun x S'=>x = .list l∧S'=S) c1 c4 (by simp [vop,jm,ev,hv]) hS hF (ExtB.refl _ _ _ _) ?_
   rintro x S' m' β' w' a' ⟨rfl,rfl⟩ k2 k3 k4
   rw [←c2] at k3
   have hw2:Region.wanted o2 (yielded ops a'.tmps)=true:=by simp [Region.wanted,hg]
   rw [if_pos hw2]
   refine .inl ?_
   have hF':FrameRep N m' β' (σ.set d1 (.list l)) a':=k3
   have hr:=jK hF' hy
   have hl:ev (σ.set d1 (.list l)) (.tmp d1) = .list l:=by simp [ev,Fr.look_set]
   rw [hl] at hr
   obtain ⟨ad,len,cap,e1,e2⟩:=list_addr hr
   have e3:a'.eval u = .slice none 0 0:=by rw [hu]; rfl
   have hgd:(eqGuard .eql t y u (.slice ad len cap) (.slice none 0 0)).run P w' = .ok () w':=rfl
   have hrun:(execOp a'.eval o2).run P w' = .ok (.value (.bool ad.isNone)) w':=by
    simp [execOp,hop,e1,e3,hgd,binOp,equal_nil ht]
   unfold Oper.wp
   rw [hrun]
   refine ⟨_,S',m',β',H ad.isNone (fun hn=>e2 (by simpa using hn)),k2, ?_,k4⟩
   have:=hF'.put o2.dst (fun t ht=>by rw [hd] at ht; cases ht; exact of_decide_eq_true hlt) (x := .bool ad.isNone) (v := .bool ad.isNone) (.imm (.bool _))
   rw [hd] at this ⊢
   exact this
  ·simp [Code.kind] at h
 | _=>simp [Code.kind] at h
end
section
variable {P:Program} {N b:Nat} {Q:Exit→Fr→Store→Prop} {σ:Fr} {S:Store}
theorem KZ {c c2:Code} {cs:List CO} {Q2:Exit→Fr→Store→Prop} (zc zs:Store) (es:List Nat) (n0 i j:Nat) (ord1 ord2:List Nat) (h:Code.kind c=2) (hm:P.follows .mixedOrders=true) (hc:qm P N (Code.ops c)=some cs) (hnc:callsOk cs i j n0=true) (hij:i≠j)
  (hp:ZK es (qR (Code.ops c)) (Code.ops c) cs n0 0 (Array.replicate (Code.ops c).size false)=true)
  (hi:(zn n0 0 (Array.replicate (Code.ops c).size false)).getD i true=false) (hj:(zn n0 0 (Array.replicate (Code.ops c).size false)).getD j true=false)
  (hu:(List.range n0).all (fun k=>(zn n0 0 (Array.replicate (Code.ops c).size false)).getD k true)=true)
  (hB1:lexO es (qR (jx (Code.ops c) j i)) (jx (Code.ops c) j i) cs ord1 (zn n0 0 (Array.replicate (Code.ops c).size false))=true) (hB2:lexO es (qR (jx (Code.ops c) i j)) (jx (Code.ops c) i j) cs ord2 (zn n0 0 (Array.replicate (Code.ops c).size false))=true)
  (hn0:decide (n0≤(Code.ops c).size)=true) (hn1:ord1.length+n0=(Code.ops c).size) (hn2:ord2.length+n0=(Code.ops c).size) (hE:zC (qR (Code.ops c)) cs es=true) (hz:(ZZ.mk S zc zs es).ok S)
  {cs0 cs1 cs2:List CO} (hp0:cs.take n0=cs0) (hp1:YF cs ord1=cs1) (hp2:YF cs ord2=cs2)
  (H:jM P (some (ZZ.mk S zc zs es)) cs0 (fun σ1 S1 => ∃ σm Sm,VWp P N b c2 Q2 σm Sm∧jM P (some (ZZ.mk S zc zs es)) cs1 (fun σ S=>Reach N b σ S σm Sm) σ1 S1∧jM P (some (ZZ.mk S zc zs es)) cs2 (fun σ S=>Reach N b σ S σm Sm) σ1 S1) σ S):VWp P N b c (Ka (VWp P N b c2 Q2) Q) σ S :=
 vw_drawSplit (ZZ.mk S zc zs es) n0 i j ord1 ord2 h hm hc hnc hij hp hi hj hu hB1 hB2 hn0 hn1 hn2 hE hz S.sub_refl hp0 hp1 hp2 H
end
end Go.Vw

/-
 Pure calls on what is owned: it stays owned. What is owned may be written to.
-/
namespace Go.Vw
open Go.RowKit
theorem VPure.thaw {P:Program} {f:FuncId} {xs xs':List V} {S S':Store} {b:Bool} (h:VPure P f xs' (.bool b)) (hg:GhostArgs xs S xs' S') (hcl : ∀ x∈xs',x.closed=true):VCalls P f xs S fun r T=>r = .bool b∧T=S:=by
 intro m β w vs hS hr
 obtain ⟨m1,β1,h1,h2,h3⟩:=hg m β w vs hS hr
 have h0:Holds ⟨fun _=>none,0⟩ m1 (fun _ => .fresh) w :=
  ⟨h1.imm,fun o b hb=>by simp [Loc.block?] at hb,fun o o' b hb=>by simp [Loc.block?] at hb,fun o=>by simp,fun o _=>rfl,fun o ho=>absurd ho (Nat.not_lt_zero _),fun o c hc=>by cases hc⟩
 have hr0:RepL m1 (fun _ => .fresh) xs' vs:=⟨h3.1,fun i x v hx hv => .imm ((h3.2 i x v hx hv).closed (hcl x (List.mem_of_getElem? hx)))⟩
 refine (h ⟨fun _=>none,0⟩ m1 _ w vs h0 hr0).mono ?_
 rintro e w' ⟨v,x,S2,m2,β2,he,⟨rfl,rfl⟩,k1,k2,k3⟩
 have hheap : ∀ b,b<w.heap.size→w'.heap[b]? = w.heap[b]? := by
  intro b hb
  cases hm:m1 b with
  | some ob=>rw [h1.imm b ob hm,k2.imm b ob (k3.imm b ob hm)]
  | none=>exact (k3.keep b hb hm fun o=>by simp [Loc.block?]).1
 have hsome : ∀ {b:Nat} {ob:Obj},w.heap[b]? = some ob→w'.heap[b]? = some ob:=by
  intro b ob hb
  have hlt:b<w.heap.size:=by
   rcases Nat.lt_or_ge b w.heap.size with h | h
   ·exact h
   ·rw [Array.getElem?_eq_none h] at hb; cases hb
  rw [hheap b hlt,hb]
 have hbool:v = .bool b:=k1.inv_bool
 refine ⟨v, .bool b,S,m,β,he,⟨rfl,rfl⟩,by rw [hbool]; exact .imm (.bool _),⟨fun b o hb=>hsome (hS.imm b o hb),hS.apart,hS.inj,hS.fresh,hS.gone,hS.dead,fun o c hc => ?_⟩,⟨fun _ _ h=>h,fun o _ => .inl rfl,k3.size,fun b hb hm hβ=>⟨hheap b hb,hm,hβ⟩,k3.os.trans (by rfl),k3.tape,k3.output⟩⟩
 have hl:=hS.live o c hc
 cases hβ:β o with
 | fresh=>rw [hβ] at hl; exact hl.elim
 | dead=>rw [hβ] at hl; exact hl.elim
 | void=>rw [hβ] at hl; exact hl
 | lies b base s n =>
  rw [hβ] at hl
  obtain ⟨e0,arr,T,e1,e2,e3,e4⟩:=hl
  exact ⟨e0,arr,T,hsome e1,e2,e3,e4⟩
 | mp b =>
  rw [hβ] at hl
  obtain ⟨es,clock,e1,e2,e3⟩:=hl
  exact ⟨es,clock,hsome e1,e2,e3⟩
theorem OwL.elem {S:Store} {tys:List Ty} {cells xs:List V} {ids:List Nat} {n i:Nat} (h:OwL S (reps n tys) cells xs ids) (hi:i<n) : ∃ (c1 r c2 x1 x x2:List V) (i1 ii i2:List Nat),cells=c1++(r++c2)∧c1.length=i*tys.length∧xs=x1++(x++x2)∧ids=i1++(ii++i2)∧OwL S (reps i tys) c1 x1 i1∧OwL S tys r x ii∧OwL S (reps (n-i-1) tys) c2 x2 i2:=by
 have e1:reps n tys=reps i tys++(tys++reps (n-i-1) tys):=by
  rw [←Je, ←reps_add]; congr 1; omega
 rw [e1] at h
 obtain ⟨r1,r2,x1,x2,i1,i2,rfl,rfl,rfl,k1,k2⟩:=h.split
 obtain ⟨r3,r4,x3,x4,i3,i4,rfl,rfl,rfl,k3,k4⟩:=k2.split
 exact ⟨r1,r3,r4,x1,x3,x4,i1,i3,i4,rfl,by rw [k1.len.1,Jm],rfl,rfl,k1,k3,k4⟩
end Go.Vw

namespace Go.Vw
open Go.RowKit
def flat1:V→Bool
 | .bool _ | .int _ _ | .nils | .slice _ _ _=>true
 | _=>false
def flatV:V→Bool
 | .tuple xs=>xs.all flat1
 | x=>flat1 x
def Wc (n:Nat):V→V
 | .slice o off len => .slice (n+o) off len
 | x=>x
def jaA (n:Nat):V→V
 | .tuple xs => .tuple (xs.map (Wc n))
 | x=>Wc n x
def plus (S T:Store):Store:=⟨fun o=>if o<S.nx then S.get o else (T.get (o-S.nx)).map fun c=>(c.1,c.2.map (Wc S.nx)),S.nx+T.nx⟩
def joinB (n:Nat) (β β2:Objs):Objs:=fun o=>if o<n then β o else β2 (o-n)
theorem WO {m m2:Imm} {β β2:Objs} {n:Nat} {x:V} {v:Value} (hf:flat1 x=true) (h:Rep m2 β2 x v):Rep m (joinB n β β2) (Wc n x) v:=by
 have hj : ∀ o,joinB n β β2 (n+o)=β2 o:=fun o=>by
  unfold joinB; rw [if_neg (by omega),Nat.add_sub_cancel_left]
 cases h with
 | imm h=>cases h with
  | bool b=>exact .imm (.bool b)
  | int k i=>exact .imm (.int k i)
  | nils a=>exact .imm (.nils a)
  | str | nilp | nilf | nilm | agg | list0 | list | ref=>simp [flat1] at hf
 | sliceDead o off len v h h1=>exact .sliceDead _ off len v ((hj o).trans h) h1
 | sliceVoid o off a h=>exact .sliceVoid _ off a ((hj o).trans h)
 | slice o off len b base s n' cap a h hc hcm ha=>exact .slice _ off len b base s n' cap a ((hj o).trans h) hc hcm ha
 | agg | tuple | func | ptrDead | ptr | mapDead | map | junk=>simp [flat1] at hf
theorem rep_shift {m m2:Imm} {β β2:Objs} {n:Nat} {x:V} {v:Value} (hf:flatV x=true) (h:Rep m2 β2 x v):Rep m (joinB n β β2) (jaA n x) v:=by
 by_cases ht : ∃ xs,x = .tuple xs
 ·obtain ⟨xs,rfl⟩:=ht
  simp only [flatV,List.all_eq_true] at hf
  cases h with
  | imm h=>cases h
  | tuple xs vs hl hr =>
   refine .tuple _ vs (by simpa using hl) fun i y u hy hu => ?_
   simp only [List.getElem?_map,Option.map_eq_some_iff] at hy
   obtain ⟨z,hz,rfl⟩:=hy
   exact WO (hf z (List.mem_of_getElem? hz)) (hr i z u hz hu)
 ·have e1:flatV x=flat1 x:=by cases x<;>first | rfl | exact absurd ⟨_,rfl⟩ ht
  have e2:jaA n x=Wc n x:=by cases x<;>first | rfl | exact absurd ⟨_,rfl⟩ ht
  rw [e2]
  exact WO (e1▸hf) h
theorem VCalls.thaw {P:Program} {f:FuncId} {xs xs':List V} {S S':Store} {Q:V→Store→Prop} (h:VCalls P f xs' ⟨fun _=>none,0⟩ Q) (hg:GhostArgs xs S xs' S') (hcl : ∀ x∈xs',x.closed=true)
  (hfl : ∀ r T,Q r T→flatV r=true ∧ ∀ o c,T.get o=some c → ∀ x∈c.2,flat1 x=true):VCalls P f xs S fun r T => ∃ r0 T0,Q r0 T0∧r=jaA S.nx r0∧T=plus S T0:=by
 intro m β w vs hS hr
 obtain ⟨m1,β1,h1,h2,h3⟩:=hg m β w vs hS hr
 have h0:Holds ⟨fun _=>none,0⟩ m1 (fun _ => .fresh) w :=
  ⟨h1.imm,fun o b hb=>by simp [Loc.block?] at hb,fun o o' b hb=>by simp [Loc.block?] at hb,fun o=>by simp,fun o _=>rfl,fun o ho=>absurd ho (Nat.not_lt_zero _),fun o c hc=>by cases hc⟩
 have hr0:RepL m1 (fun _ => .fresh) xs' vs:=⟨h3.1,fun i x v hx hv => .imm ((h3.2 i x v hx hv).closed (hcl x (List.mem_of_getElem? hx)))⟩
 refine (h m1 _ w vs h0 hr0).mono ?_
 rintro e w' ⟨v,x,T0,m2,β2,he,hQ,k1,k2,k3⟩
 obtain ⟨hf1,hf2⟩:=hfl x T0 hQ
 have hheap : ∀ b,b<w.heap.size→w'.heap[b]? = w.heap[b]? := by
  intro b hb
  cases hm:m1 b with
  | some ob=>rw [h1.imm b ob hm,k2.imm b ob (k3.imm b ob hm)]
  | none=>exact (k3.keep b hb hm fun o=>by simp [Loc.block?]).1
 have hnob : ∀ b,b<w.heap.size → ∀ o,(β2 o).block? ≠ some b:=by
  intro b hb o
  cases hm:m1 b with
  | some ob =>
   intro hc
   have:=k2.apart o b hc
   rw [k3.imm b ob hm] at this; cases this
  | none=>exact (k3.keep b hb hm fun o=>by simp [Loc.block?]).2.2 o
 have hlt : ∀ {b:Nat} {ob:Obj},w.heap[b]? = some ob→b<w.heap.size:=by
  intro b ob hb
  rcases Nat.lt_or_ge b w.heap.size with h | h
  ·exact h
  ·rw [Array.getElem?_eq_none h] at hb; cases hb
 have hsome : ∀ {b:Nat} {ob:Obj},w.heap[b]? = some ob→w'.heap[b]? = some ob:=fun {b ob} hb=>by rw [hheap b (hlt hb),hb]
 have hblk : ∀ o b,(β o).block? = some b→b<w.heap.size:=by
  intro o b hb
  have hon:o<S.nx:=by
   rcases Nat.lt_or_ge o S.nx with h | h
   ·exact h
   ·rw [(hS.fresh o).2 h] at hb; cases hb
  cases hg:S.get o with
  | none=>rw [hS.dead o hon hg] at hb; cases hb
  | some c =>
   have hl:=hS.live o c hg
   cases hβ:β o with
   | fresh=>rw [hβ] at hb; cases hb
   | dead=>rw [hβ] at hb; cases hb
   | void=>rw [hβ] at hb; cases hb
   | lies b' base s n =>
    rw [hβ] at hl hb
    cases hb
    obtain ⟨_,arr,T,e1,_⟩:=hl
    exact hlt e1
   | mp b' =>
    rw [hβ] at hl hb
    cases hb
    obtain ⟨es,clock,e1,_⟩:=hl
    exact hlt e1
 have jl : ∀ {o},o<S.nx→joinB S.nx β β2 o=β o:=fun h=>if_pos h
 have jr : ∀ {o}, ¬ o<S.nx→joinB S.nx β β2 o=β2 (o-S.nx):=fun h=>if_neg h
 have hstep:Step β (joinB S.nx β β2):=fun o ho=>by
  have hon:o<S.nx:=by
   rcases Nat.lt_or_ge o S.nx with h | h
   ·exact h
   ·exact absurd ((hS.fresh o).2 h) ho
  exact .inl (jl hon)
 refine ⟨v,jaA S.nx x,plus S T0,m,joinB S.nx β β2,he,⟨x,T0,hQ,rfl,rfl⟩,rep_shift hf1 k1,⟨fun b o hb=>hsome (hS.imm b o hb),fun o b hb => ?_,fun o o' b hb hb' => ?_,fun o => ?_,fun o ho => ?_,fun o ho hn => ?_,fun o c hc => ?_⟩,⟨fun _ _ h=>h,hstep,k3.size,fun b hb hm hβ=>⟨hheap b hb,hm,fun o => ?_⟩,k3.os.trans (by rfl),k3.tape,k3.output⟩⟩
 ·by_cases hon:o<S.nx
  ·rw [jl hon] at hb; exact hS.apart o b hb
  ·rw [jr hon] at hb
   have h5:=k2.apart _ b hb
   cases hm:m b with
   | none=>rfl
   | some ob=>rw [k3.imm b ob (h2.imm b ob hm)] at h5; cases h5
 ·by_cases hon:o<S.nx
  ·rw [jl hon] at hb
   by_cases hon':o'<S.nx
   ·rw [jl hon'] at hb'; exact hS.inj o o' b hb hb'
   ·rw [jr hon'] at hb'; exact absurd hb' (hnob b (hblk o b hb) _)
  ·rw [jr hon] at hb
   by_cases hon':o'<S.nx
   ·rw [jl hon'] at hb'; exact absurd hb (hnob b (hblk o' b hb') _)
   ·rw [jr hon'] at hb'
    have:=k2.inj _ _ b hb hb'
    omega
 ·show _↔S.nx+T0.nx≤o
  by_cases hon:o<S.nx
  ·rw [jl hon,hS.fresh]; omega
  ·rw [jr hon,k2.fresh]; omega
 ·have ho':S.nx+T0.nx≤o:=ho
  show (if o<S.nx then S.get o else (T0.get (o-S.nx)).map _)=none
  rw [if_neg (by omega),k2.gone _ (by omega)]; rfl
 ·have ho':o<S.nx+T0.nx:=ho
  have hn':(if o<S.nx then S.get o else (T0.get (o-S.nx)).map fun c=>(c.1,c.2.map (Wc S.nx)))=none:=hn
  by_cases hon:o<S.nx
  ·rw [if_pos hon] at hn'
   rw [jl hon]; exact hS.dead o hon hn'
  ·rw [if_neg hon,Option.map_eq_none_iff] at hn'
   rw [jr hon]; exact k2.dead _ (by omega) hn'
 ·have hc':(if o<S.nx then S.get o else (T0.get (o-S.nx)).map fun c=>(c.1,c.2.map (Wc S.nx)))=some c:=hc
  by_cases hon:o<S.nx
  ·rw [if_pos hon] at hc'
   rw [jl hon]
   have hl:=hS.live o c hc'
   cases hβ:β o with
   | fresh=>rw [hβ] at hl; exact hl.elim
   | dead=>rw [hβ] at hl; exact hl.elim
   | void=>rw [hβ] at hl; exact hl
   | lies b base s n =>
    rw [hβ] at hl
    obtain ⟨e0,arr,T,e1,e2,e3,e4⟩:=hl
    refine ⟨e0,arr,T,hsome e1,e2,e3,fun i x hx => ?_⟩
    obtain ⟨v,a1,a2,a3⟩:=e4 i x hx
    exact ⟨v,a1,a2.mono (fun _ _ h=>h) hstep,a3⟩
   | mp b =>
    rw [hβ] at hl
    obtain ⟨es,clock,e1,e2,e3⟩:=hl
    refine ⟨es,clock,hsome e1,e2,fun i x en hx hen => ?_⟩
    obtain ⟨k,v,a1,a2,a3⟩:=e3 i x en hx hen
    exact ⟨k,v,a1,a2,a3.mono (fun _ _ h=>h) hstep⟩
  ·rw [if_neg hon] at hc'
   rw [jr hon]
   obtain ⟨c0,hc0,rfl⟩:=Option.map_eq_some_iff.1 hc'
   have hl:=k2.live _ c0 hc0
   have hfc:=hf2 _ c0 hc0
   cases hβ:β2 (o-S.nx) with
   | fresh=>rw [hβ] at hl; exact hl.elim
   | dead=>rw [hβ] at hl; exact hl.elim
   | void =>
    rw [hβ] at hl
    have hl':c0.2=[]:=hl
    show c0.2.map _=[]
    rw [hl']; rfl
   | lies b base s n =>
    rw [hβ] at hl
    obtain ⟨e0,arr,T,e1,e2,e3,e4⟩:=hl
    refine ⟨e0,arr,T,e1,e2,by simpa using e3,fun i x hx => ?_⟩
    simp only [List.getElem?_map,Option.map_eq_some_iff] at hx
    obtain ⟨y,hy,rfl⟩:=hx
    obtain ⟨v,a1,a2,a3⟩:=e4 i y hy
    exact ⟨v,a1,WO (hfc y (List.mem_of_getElem? hy)) a2,a3⟩
   | mp b =>
    rw [hβ] at hl
    obtain ⟨es,clock,e1,e2,e3⟩:=hl
    have:c0.2=[]:=by
     cases hcl:c0.2 with
     | nil=>rfl
     | cons y r =>
      rw [hcl] at e2
      have hlt:0<es.size:=by rw [←e2]; simp
      obtain ⟨k,v,a1,_⟩:=e3 0 y es[0] (by rw [hcl]; rfl) (by simp [hlt])
      have:=hfc y (by rw [hcl]; simp)
      rw [a1] at this
      simp [flat1] at this
    refine ⟨es,clock,e1,by simpa using e2,fun i x en hx _ => ?_⟩
    rw [this] at hx
    simp at hx
 ·by_cases hon:o<S.nx
  ·rw [jl hon]; exact hβ o
  ·rw [jr hon]; exact hnob b hb _
end Go.Vw

/-
 Functions in SSA form: how long their lists are.
-/
namespace Ss
def shortL (ls:List (List Int)):Bool:=ls.all fun l=>decide (l.length≤4096)
def Ins.small (x:Ins):Bool:=decide (x.args.length≤4096)&&decide (x.outs.length≤4096)
def Edge.small (x:Edge):Bool:=decide (x.args.length≤4096)
def Block.small (b:Block):Bool:=decide (b.params.length≤4096)&&decide (b.term.to.length≤4096)&&decide (b.term.args.length≤4096)&&b.code.all Ins.small&&b.term.to.all Edge.small
def smallFrom (n:Nat):List Block→Bool
 | []=>true
 | b::bs=>decide (n+b.code.length≤4096)&&b.small&&smallFrom (n+b.code.length) bs
def Fn.heads (f:Fn):Bool:=decide (f.types.length≤4096)&&decide (f.blocks.length≤4096)&&decide (f.sig.inn.length≤4096)&&decide (f.sig.out.length≤4096)
def Fn.small (f:Fn):Bool:=f.heads&&smallFrom 0 f.blocks
def count (bs:List Block):Nat:=(bs.map fun b=>b.code.length).sum
theorem Wb : ∀ {bs:List Block} {n:Nat},smallFrom n bs=true→(∀ b∈bs,b.small=true)∧(n≤4096→n+count bs≤4096)
 | [],n,_=>⟨by simp,by simp [count]⟩
 | b::bs,n,h=>by
  simp only [smallFrom,Bool.and_eq_true,decide_eq_true_eq] at h
  obtain ⟨⟨h1,h2⟩,h3⟩:=h
  obtain ⟨k1,k2⟩:=Wb h3
  refine ⟨fun x hx => ?_,fun _ => ?_⟩
  ·rcases List.mem_cons.1 hx with rfl | hx
   ·exact h2
   ·exact k1 x hx
  ·have:=k2 h1
   simp only [count,List.map_cons,List.sum_cons] at this ⊢
   omega
theorem Yp : ∀ {bs:List Block} {n:Nat},(∀ b∈bs,b.small=true)→n+count bs≤4096→smallFrom n bs=true
 | [],n,_,_=>rfl
 | b::bs,n,h,hn=>by
  simp only [count,List.map_cons,List.sum_cons] at hn
  simp only [smallFrom,Bool.and_eq_true,decide_eq_true_eq]
  exact ⟨⟨by omega,h b (by simp)⟩,Yp (fun x hx=>h x (by simp [hx])) (by simp only [count]; omega)⟩
theorem small_iff (f:Fn):f.small=true↔f.heads=true∧(∀ b∈f.blocks,b.small=true)∧count f.blocks≤4096:=by
 simp only [Fn.small,Bool.and_eq_true]
 constructor
 ·rintro ⟨h1,h2⟩
  obtain ⟨k1,k2⟩:=Wb h2
  exact ⟨h1,k1,by simpa using k2 (by omega)⟩
 ·rintro ⟨h1,h2,h3⟩
  exact ⟨h1,Yp h2 (by simpa using h3)⟩
theorem drop_all {α:Type} (p:α→Bool) {l:List α} {k:Nat} (h:k<l.length):(l.drop k).all p=(p l[k]&&(l.drop (k+1)).all p):=by
 rw [List.drop_eq_getElem_cons h,List.all_cons]
theorem drop_all_end {α:Type} (p:α→Bool) {l:List α} {k:Nat} (h : ¬ k<l.length):(l.drop k).all p=true:=by
 have:l.drop k=[]:=by rw [List.drop_eq_nil_iff]; omega
 rw [this]; rfl
theorem drop_small {n:Nat} {l:List Block} {k:Nat} (h:k<l.length):smallFrom n (l.drop k)=(decide (n+l[k].code.length≤4096)&&l[k].small&&smallFrom (n+l[k].code.length) (l.drop (k+1))):=by
 rw [List.drop_eq_getElem_cons h,smallFrom]
theorem drop_small_end {n:Nat} {l:List Block} {k:Nat} (h : ¬ k<l.length):smallFrom n (l.drop k)=true:=by
 have:l.drop k=[]:=by rw [List.drop_eq_nil_iff]; omega
 rw [this]; rfl
end Ss

namespace Ss
abbrev on (need:List Bool) (v:Int):Bool:=need.getD v.toNat false
def dfs (asks:List (List Int)):Nat→List Bool→List Int→List Bool
 | 0,need,_=>need
 | _+1,need,[]=>need
 | n+1,need,v::r=>if on need v then dfs asks (n+1) need r else dfs asks (n+1) (dfs asks n (need.set v.toNat true) (asks.getD v.toNat [])) r
termination_by n _ l=>(n,l.length)
def off (need:List Bool):Nat:=need.countP fun b => !b
structure Marks (asks:List (List Int)) (need:List Bool) (l:List Int) (R:List Bool):Prop where
 len:R.length=need.length
 mono : ∀ i:Nat,need[i]? = some true→R[i]? = some true
 all : ∀ v∈l,on R v=true
 shut : ∀ i:Nat,R[i]? = some true→need[i]? = some true ∨ ∀ u∈asks.getD i [],on R u=true
 least : ∀ P:Nat→Prop,(∀ i:Nat,need[i]? = some true→P i)→(∀ v∈l,P v.toNat)→(∀ i:Nat,P i → ∀ u∈asks.getD i [],P u.toNat) → ∀ i:Nat,R[i]? = some true→P i
end Ss
