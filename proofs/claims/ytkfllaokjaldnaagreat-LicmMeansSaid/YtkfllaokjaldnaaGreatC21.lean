import Derived.Test.YtkfllaokjaldnaaGreatC15
import Derived.Deep.RegionLaw
import Derived.Lib.SliceRun
/- Part of the proof. -/
set_option linter.unusedVariables false
set_option linter.unusedSimpArgs false
set_option maxRecDepth 10000
set_option maxHeartbeats 4000000
namespace Go.Vw
open Go.RowKit
def flat1:V->Bool
 | .bool _ | .int _ _ | .nils | .slice _ _ _=>true
 | _=>false
def flatV:V->Bool
 | .tuple xs=>xs.all flat1
 | x=>flat1 x
def WG (n:Nat):V->V
 | .slice o off len => .slice (n+o) off len
 | x=>x
def jbK (n:Nat):V->V
 | .tuple xs => .tuple (xs.map (WG n))
 | x=>WG n x
def plus (S T:Store):Store:=⟨fun o=>if o<S.nx then S.get o else (T.get (o-S.nx)).map fun c=>(c.1,c.2.map (WG S.nx)),S.nx+T.nx⟩
def joinB (n:Nat) (β β2:Objs):Objs:=fun o=>if o<n then β o else β2 (o-n)
theorem YA {m m2:Imm} {β β2:Objs} {n:Nat} {x:V} {v:Value} (hf:flat1 x=true) (h:Rep m2 β2 x v):Rep m (joinB n β β2) (WG n x) v:=by
 have hj : ∀ o,joinB n β β2 (n+o)=β2 o:=fun o=>by
  unfold joinB; rw [if_neg (by omega),Nat.add_sub_cancel_left]
 cases h with
 | imm h=>cases h with
  | bool b=>exact .imm (.bool b)
  | int k i=>exact .imm (.int k i)
  | nils a=>exact .imm (.nils a)
  | str | nilp | nilf | nilm | agg | list0 | list | ref=>simp [flat1] at hf
 | sliceDead o off len v h h1=>exact .sliceDead _ off len v ((hj o).trans h) h1
 | sliceVoid o off a h=>exact .sliceVoid _ off a ((hj o).trans h)
 | slice o off len b base s n' cap a h hc hcm ha=>exact .slice _ off len b base s n' cap a ((hj o).trans h) hc hcm ha
 | agg | tuple | func | ptrDead | ptr | mapDead | map | junk=>simp [flat1] at hf
theorem ao5 {m m2:Imm} {β β2:Objs} {n:Nat} {x:V} {v:Value} (hf:flatV x=true) (h:Rep m2 β2 x v):Rep m (joinB n β β2) (jbK n x) v:=by
 by_cases ht : ∃ xs,x = .tuple xs
 .obtain ⟨xs,rfl⟩:=ht;simp only [flatV,aD] at hf
  cases h with
  | imm h=>cases h
  | tuple xs vs hl hr =>
   refine .tuple _ vs (by simpa using hl) fun i y u hy hu => ?_
   simp only [a6,av] at hy;obtain ⟨z,hz,rfl⟩:=hy;exact YA (hf z (aA hz)) (hr i z u hz hu)
 .have e1:flatV x=flat1 x:=by cases x<;>first | rfl | exact absurd ⟨_,rfl⟩ ht
  have e2:jbK n x=WG n x:=by cases x<;>first | rfl | exact absurd ⟨_,rfl⟩ ht
  rw [e2];exact YA (e1▸hf) h
theorem VCalls.thaw {P:Program} {f:FuncId} {xs xs':List V} {S S':Store} {Q:V->Store->Prop} (h:VCalls P f xs' ⟨fun _=>none,0⟩ Q) (hg:GhostArgs xs S xs' S') (hcl : ∀ x∈xs',x.closed=true)
  (hfl : ∀ r T,Q r T->flatV r=true /\ ∀ o c,T.get o=some c -> ∀ x∈c.2,flat1 x=true):VCalls P f xs S fun r T => ∃ r0 T0,Q r0 T0/\r=jbK S.nx r0/\T=plus S T0:=by
 intro m β w vs hS hr;obtain ⟨m1,β1,h1,h2,h3⟩:=hg m β w vs hS hr;have h0:Holds ⟨fun _=>none,0⟩ m1 (fun _ => .fresh) w :=
  ⟨h1.imm,fun o b hb=>by simp [Loc.block?] at hb,fun o o' b hb=>by simp [Loc.block?] at hb,fun o=>by simp,fun o _=>rfl,fun o ho=>absurd ho (Nat.not_lt_zero _),fun o c hc=>by cases hc⟩
 have hr0:RepL m1 (fun _ => .fresh) xs' vs:=⟨h3.1,fun i x v hx hv => .imm ((h3.2 i x v hx hv).closed (hcl x (aA hx)))⟩
 refine (h m1 _ w vs h0 hr0).mono ?_;rintro e w' ⟨v,x,T0,m2,β2,he,hQ,k1,k2,k3⟩;obtain ⟨hf1,hf2⟩:=hfl x T0 hQ;have hheap : ∀ b,b<w.heap.size->w'.heap[b]? = w.heap[b]? := by
  intro b hb
  cases hm:m1 b with
  | some ob=>rw [h1.imm b ob hm,k2.imm b ob (k3.imm b ob hm)]
  | none=>exact (k3.keep b hb hm fun o=>by simp [Loc.block?]).1
 have hnob : ∀ b,b<w.heap.size -> ∀ o,(β2 o).block? ≠ some b:=by
  intro b hb o
  cases hm:m1 b with
  | some ob =>
   intro hc;have:=k2.apart o b hc;rw [k3.imm b ob hm] at this; cases this
  | none=>exact (k3.keep b hb hm fun o=>by simp [Loc.block?]).2.2 o
 have hlt : ∀ {b:Nat} {ob:Obj},w.heap[b]? = some ob->b<w.heap.size:=by
  intro b ob hb;rcases bt b w.heap.size with h | h
  .exact h
  .rw [Array.getElem?_eq_none h] at hb; cases hb
 have hsome : ∀ {b:Nat} {ob:Obj},w.heap[b]? = some ob->w'.heap[b]? = some ob:=fun {b ob} hb=>by rw [hheap b (hlt hb),hb]
 have hblk : ∀ o b,(β o).block? = some b->b<w.heap.size:=by
  intro o b hb;have hon:o<S.nx:=by
   rcases bt o S.nx with h | h
   .exact h
   .rw [(hS.fresh o).2 h] at hb; cases hb
  cases hg:S.get o with
  | none=>rw [hS.dead o hon hg] at hb; cases hb
  | some c =>
   have hl:=hS.live o c hg
   cases hβ:β o with
   | fresh=>rw [hβ] at hb; cases hb
   | dead=>rw [hβ] at hb; cases hb
   | void=>rw [hβ] at hb; cases hb
   | lies b' base s n =>
    rw [hβ] at hl hb
    cases hb
    obtain ⟨_,arr,T,e1,_⟩:=hl;exact hlt e1
   | mp b' =>
    rw [hβ] at hl hb
    cases hb
    obtain ⟨es,clock,e1,_⟩:=hl;exact hlt e1
 have jl : ∀ {o},o<S.nx->joinB S.nx β β2 o=β o:=fun h=>if_pos h
 have jr : ∀ {o}, ¬ o<S.nx->joinB S.nx β β2 o=β2 (o-S.nx):=fun h=>if_neg h
 have hstep:Step β (joinB S.nx β β2):=fun o ho=>by
  have hon:o<S.nx:=by
   rcases bt o S.nx with h | h
   .exact h
   .exact absurd ((hS.fresh o).2 h) ho
  exact .inl (jl hon)
 refine ⟨v,jbK S.nx x,plus S T0,m,joinB S.nx β β2,he,⟨x,T0,hQ,rfl,rfl⟩,ao5 hf1 k1,⟨fun b o hb=>hsome (hS.imm b o hb),fun o b hb => ?_,fun o o' b hb hb' => ?_,fun o => ?_,fun o ho => ?_,fun o ho hn => ?_,fun o c hc => ?_⟩,⟨fun _ _ h=>h,hstep,k3.size,fun b hb hm hβ=>⟨hheap b hb,hm,fun o => ?_⟩,k3.os.trans (by rfl),k3.tape,k3.output⟩⟩
 .by_cases hon:o<S.nx
  .rw [jl hon] at hb; exact hS.apart o b hb
  .rw [jr hon] at hb;have h5:=k2.apart _ b hb
   cases hm:m b with
   | none=>rfl
   | some ob=>rw [k3.imm b ob (h2.imm b ob hm)] at h5; cases h5
 .by_cases hon:o<S.nx
  .rw [jl hon] at hb
   by_cases hon':o'<S.nx
   .rw [jl hon'] at hb'; exact hS.inj o o' b hb hb'
   .rw [jr hon'] at hb'; exact absurd hb' (hnob b (hblk o b hb) _)
  .rw [jr hon] at hb
   by_cases hon':o'<S.nx
   .rw [jl hon'] at hb'; exact absurd hb (hnob b (hblk o' b hb') _)
   .rw [jr hon'] at hb';have:=k2.inj _ _ b hb hb';omega
 .show _↔S.nx+T0.nx<=o
  by_cases hon:o<S.nx
  .rw [jl hon,hS.fresh]; omega
  .rw [jr hon,k2.fresh]; omega
 .have ho':S.nx+T0.nx<=o:=ho;show (if o<S.nx then S.get o else (T0.get (o-S.nx)).map _)=none;rw [if_neg (by omega),k2.gone _ (by omega)]; rfl
 .have ho':o<S.nx+T0.nx:=ho;have hn':(if o<S.nx then S.get o else (T0.get (o-S.nx)).map fun c=>(c.1,c.2.map (WG S.nx)))=none:=hn
  by_cases hon:o<S.nx
  .rw [if_pos hon] at hn';rw [jl hon]; exact hS.dead o hon hn'
  .rw [if_neg hon,Option.map_eq_none_iff] at hn';rw [jr hon]; exact k2.dead _ (by omega) hn'
 .have hc':(if o<S.nx then S.get o else (T0.get (o-S.nx)).map fun c=>(c.1,c.2.map (WG S.nx)))=some c:=hc
  by_cases hon:o<S.nx
  .rw [if_pos hon] at hc';rw [jl hon];have hl:=hS.live o c hc'
   cases hβ:β o with
   | fresh=>rw [hβ] at hl; exact hl.elim
   | dead=>rw [hβ] at hl; exact hl.elim
   | void=>rw [hβ] at hl; exact hl
   | lies b base s n =>
    rw [hβ] at hl;obtain ⟨e0,arr,T,e1,e2,e3,e4⟩:=hl;refine ⟨e0,arr,T,hsome e1,e2,e3,fun i x hx => ?_⟩;obtain ⟨v,a1,a2,a3⟩:=e4 i x hx;exact ⟨v,a1,a2.mono (fun _ _ h=>h) hstep,a3⟩
   | mp b =>
    rw [hβ] at hl;obtain ⟨es,clock,e1,e2,e3⟩:=hl;refine ⟨es,clock,hsome e1,e2,fun i x en hx hen => ?_⟩;obtain ⟨k,v,a1,a2,a3⟩:=e3 i x en hx hen;exact ⟨k,v,a1,a2,a3.mono (fun _ _ h=>h) hstep⟩
  .rw [if_neg hon] at hc';rw [jr hon];obtain ⟨c0,hc0,rfl⟩:=av.1 hc';have hl:=k2.live _ c0 hc0;have hfc:=hf2 _ c0 hc0
   cases hβ:β2 (o-S.nx) with
   | fresh=>rw [hβ] at hl; exact hl.elim
   | dead=>rw [hβ] at hl; exact hl.elim
   | void =>
    rw [hβ] at hl;have hl':c0.2=[]:=hl;show c0.2.map _=[]
    rw [hl']; rfl
   | lies b base s n =>
    rw [hβ] at hl;obtain ⟨e0,arr,T,e1,e2,e3,e4⟩:=hl;refine ⟨e0,arr,T,e1,e2,by simpa using e3,fun i x hx => ?_⟩;simp only [a6,av] at hx;obtain ⟨y,hy,rfl⟩:=hx;obtain ⟨v,a1,a2,a3⟩:=e4 i y hy;exact ⟨v,a1,YA (hfc y (aA hy)) a2,a3⟩
   | mp b =>
    rw [hβ] at hl;obtain ⟨es,clock,e1,e2,e3⟩:=hl;have:c0.2=[]:=by
     cases hcl:c0.2 with
     | nil=>rfl
     | cons y r =>
      rw [hcl] at e2;have hlt:0<es.size:=by rw [<-e2]; simp
      obtain ⟨k,v,a1,_⟩:=e3 0 y es[0] (by rw [hcl]; rfl) (by simp [hlt]);have:=hfc y (by rw [hcl]; simp);rw [a1] at this;simp [flat1] at this
    refine ⟨es,clock,e1,by simpa using e2,fun i x en hx _ => ?_⟩;rw [this] at hx;simp at hx
 .by_cases hon:o<S.nx
  .rw [jl hon]; exact hβ o
  .rw [jr hon]; exact hnob b hb _
end Go.Vw
namespace Go.Vw
open Go.Proofs Go.RowKit
/-! A table of lists, each one's own. -/
abbrev rowD:List Ty:=[.s [.c]]
theorem avw {T:Store} {l:List Int} {r:List V} {ii:List Nat} (h:OwL T rowD r (vl cj l).cells ii) : ∃ o,r=[.slice o 0 l.length]/\ii=[o]/\T.get o=some (1,l.map cj):=by
 rw [Yh] at h;generalize hA:vl cj l=A at h
 cases h with
 | @s _ _ _ _ ca ys i j op ho hs d h=>cases h with
  | nil =>
   have e1:ys=l.map cj:=by
    have:V.list (l.map cj)=V.list ys:=hA;exact (V.list.inj this).symm
   subst e1;have c1:=Jk (n:=(l.map cj).length*1) (by rw [<-jbR]; exact d);rw [zj,qA] at c1;refine ⟨op,by simp, ?_, ?_⟩
   .rw [c1.2]; rfl
   .rw [ho,c1.1]; rfl
theorem ayu {T:Store} {l:List Int} {o:Nat} (h:T.get o=some (1,l.map cj)):OwL T rowD [.slice o 0 l.length] (vl cj l).cells [o]:=by
 rw [Yh];exact OwL.slice (enc:=cj) (fun _=>rfl) (fun _=>rfl) l (by rw [qA]; exact h) .nil
/-! Blocks of one's own, of which one is turned at a time. -/
structure BInv (S H:Store) (hs:List Nat) (ob:Nat) (bs:List Ss.Block) (T:Store) (rs:List (List V)) (ids:List Nat):Prop where
 old:Agree S T
 hd : ∀ o∈hs,T.get o=H.get o
 al : ∀ o∈hs,(H.get o).isSome=true
 cb:T.get ob=some (6,rs.flatten)
 own:Rows T blkD je bs rs ids
 nd:(hs++ob::ids).Nodup
 lt : ∀ o∈hs++ob::ids,S.nx<=o
theorem av7 {T:Store} (hw:T.Wf) {o:Nat} (h:(T.get o).isSome=true):o<T.nx:=by
 cases hg:T.get o with
 | none=>rw [hg] at h; cases h
 | some c=>exact ju hw hg
theorem BInv.all_lt {S H:Store} {hs:List Nat} {ob:Nat} {bs:List Ss.Block} {T:Store} {rs:List (List V)} {ids:List Nat} (h:BInv S H hs ob bs T rs ids) (hw:T.Wf) : ∀ o∈hs++ob::ids,o<T.nx:=fun o ho=>by
 refine av7 hw ?_;rcases aG.1 ho with ho | ho
 .rw [h.hd o ho]; exact h.al o ho
 .rcases aL.1 ho with rfl | ho
  .rw [h.cb]; rfl
  .exact h.own.owl.alive o ho
theorem BInv.at {S H:Store} {hs:List Nat} {ob:Nat} {bs:List Ss.Block} {T:Store} {rs:List (List V)} {ids:List Nat} (h:BInv S H hs ob bs T rs ids) (hw:T.Wf) {i:Nat} (hi:i<bs.length) :
  ∃ (r1:List (List V)) (r2:List (List V)) (i1 i2:List Nat) (op oc oe:Nat) (rc:List (List V)) (ce:List V) (ip ic ie:List Nat),rs=r1++[.slice op 0 bs[i].params.length, .slice oc 0 bs[i].code.length,cj bs[i].term.kind,cj bs[i].term.arg, .slice oe 0 bs[i].term.to.length,vl cj bs[i].term.args]::r2/\(∀ s∈r1,s.length=6)/\r1.length=i /\
   T.get op=some (1,bs[i].params.map cj)/\T.get oc=some (4,rc.flatten)/\Rows T insD js bs[i].code rc ic/\T.get oe=some (2,ce)/\OwL T (reps bs[i].term.to.length KZ) ce (jq ji bs[i].term.to) ie /\
   ids=i1++((op::oc::(ic++oe::ie))++i2)/\(hs++ob::(op::oc::(ic++oe::ie))).Nodup /\
   ∀ (T':Store) (r':List V) (b':Ss.Block) (ii':List Nat),T.nx<=T'.nx->(∀ o,o<T.nx->o≠ob->o∉op::oc::(ic++oe::ie)->T'.get o=T.get o)->T'.get ob=some (6,(r1++r'::r2).flatten)->OwL T' blkD r' (je b').cells ii'->ii'.Nodup->(∀ o∈ii',o∈op::oc::(ic++oe::ie)\/T.nx<=o) ->
    BInv S H hs ob (bs.set i b') T' (r1++r'::r2) (i1++(ii'++i2)):=by
 have hlt:=h.all_lt hw;obtain ⟨old,hd,al,cb,own,nd,lt⟩:=h;obtain ⟨r1,r,r2,i1,ii,i2,rfl,hl,rfl,hb,hput⟩:=own.at (ac hi);have hr6:=own.len.2;obtain ⟨op,oc,oe,rc,ce,ip,ic,ie,rfl,rfl,hop,hoc,hrc,hoe,hie⟩:=adj hb;have sub:List.Sublist (op::oc::(ic++oe::ie)) (i1++((op::oc::(ic++oe::ie))++i2)):=(List.sublist_append_left _ _).trans (List.sublist_append_right _ _);refine ⟨r1,r2,i1,i2,op,oc,oe,rc,ce,ip,ic,ie,rfl,fun s hs=>hr6 s (by simp [hs]),hl,hop,hoc,hrc,hoe,hie,rfl,List.Sublist.nodup ((List.Sublist.refl hs).append (sub.cons_cons ob)) nd, ?_⟩;intro T' r' b' ii' hnx hk hcb how hnd hin;generalize op::oc::(ic++oe::ie)=ii at *
 have cnt : ∀ o,(hs++ob::(i1++(ii++i2))).count o<=1:=fun o=>List.nodup_iff_count.1 nd o
 simp only [List.count_append,List.count_cons] at cnt;have pos : ∀ {o:Nat} {l:List Nat},o∈l->1<=l.count o:=fun h=>List.count_pos_iff.2 h
 have nob : ∀ o,o∈hs\/o∈i1\/o∈ii\/o∈i2->o≠ob:=by
  rintro o ho rfl;have c:=cnt o;simp only [beq_self_eq_true,if_true] at c;rcases ho with ho | ho | ho | ho<;>(have:=pos ho; omega)
 have nii : ∀ o,o∈hs\/o∈i1\/o∈i2->o∉ii:=by
  intro o ho hm;have c:=cnt o;have:=pos hm;rcases ho with ho | ho | ho<;>(have:=pos ho; omega)
 have keep : ∀ o,o∈hs\/o∈i1\/o∈i2->T'.get o=T.get o:=fun o ho=>by
  refine hk o (hlt o ?_) (nob o ?_) (nii o ho)
  .rcases ho with ho | ho | ho<;>simp [ho]
  .rcases ho with ho | ho | ho<;>simp [ho]
 refine ⟨⟨bd old.1 hnx,fun o ho => ?_⟩,fun o ho=>(keep o (.inl ho)).trans (hd o ho),al,hcb,hput T' r' b' ii' (fun o ho=>keep o ?_) how, ?_,fun o ho => ?_⟩
 .rw [hk o (aS ho old.1) ?_ ?_]
  .exact old.2 o ho
  .rintro rfl;have:=lt o (by simp); omega
  .intro hm;have:=lt o (by simp [hm]); omega
 .rcases aG.1 ho with ho | ho
  .exact .inr (.inl ho)
  .exact .inr (.inr ho)
 .refine List.nodup_iff_count.2 fun o => ?_
  simp only [List.count_append,List.count_cons];have c:=cnt o
  by_cases hm:o∈ii'
  .have h1:=List.nodup_iff_count.1 hnd o;rcases hin o hm with hm2 | hge
   .have:=pos hm2; omega
   .have z1:hs.count o=0:=List.count_eq_zero.2 fun h=>by have:=hlt o (by simp [h]); omega
    have z2:i1.count o=0:=List.count_eq_zero.2 fun h=>by have:=hlt o (by simp [h]); omega
    have z3:i2.count o=0:=List.count_eq_zero.2 fun h=>by have:=hlt o (by simp [h]); omega
    have z4:(if (ob==o)=true then 1 else 0)=0:=by
     have:=hlt ob (by simp);rw [if_neg];simp only [beq_iff_eq]; omega
    omega
  .have:ii'.count o=0:=List.count_eq_zero.2 hm;omega
 .simp only [aG,aL] at ho;rcases ho with ho | ho | ho | ho | ho
  .exact lt o (by simp [ho])
  .exact lt o (by simp [ho])
  .exact lt o (by simp [ho])
  .rcases hin o ho with h | h
   .exact lt o (by simp [h])
   .have:=old.1; omega
  .exact lt o (by simp [ho])
theorem adh {hs:List Nat} {ob op oc oe:Nat} {ic ie:List Nat} (hd:(hs++ob::(op::oc::(ic++oe::ie))).Nodup):(∀ o∈hs,o≠ob/\o≠op/\o≠oc/\o≠oe/\o∉ic/\o∉ie)/\ob≠op/\ob≠oc/\ob≠oe/\ob∉ic/\ob∉ie/\op≠oc/\op≠oe/\op∉ic/\op∉ie/\oc≠oe/\oc∉ic/\oc∉ie/\oe∉ic/\oe∉ie/\(∀ o∈ic,o∉ie)/\ic.Nodup/\ie.Nodup:=by
 obtain ⟨h1,h2,h3⟩:=List.nodup_append.1 hd;simp only [List.nodup_cons,aL,aG,not_or,List.nodup_append] at h2;obtain ⟨⟨a1,a2,a3,a4,a5⟩,⟨b1,b2,b3,b4⟩,⟨c1,c2,c3⟩,d1,⟨e1,e2⟩,d3⟩:=h2;refine ⟨fun o ho=>⟨h3 o ho ob (by simp),h3 o ho op (by simp),h3 o ho oc (by simp),h3 o ho oe (by simp),fun hm=>h3 o ho o (by simp [hm]) rfl,fun hm=>h3 o ho o (by simp [hm]) rfl⟩,a1,a2,a4,a3,a5,b1,b3,b2,b4,c2,c1,c3, ?_,e1, ?_,d1,e2⟩
 .exact fun hm=>d3 oe hm oe (by simp) rfl
 .exact fun o ho hm=>d3 o ho o (by simp [hm]) rfl
theorem Rows.cut {α:Type} {T:Store} {tys:List Ty} {enc:α->V} {xs:List α} {rs:List (List V)} {ids:List Nat} (h:Rows T tys enc xs rs ids) : ∀ {k:Nat} {x:α},xs[k]? = some x -> ∃ (r:List V) (i1 ii i2:List Nat),rs[k]? = some r/\ids=i1++(ii++i2)/\OwL T tys r (enc x).cells ii/\Rows T tys enc (xs.eraseIdx k) (rs.eraseIdx k) (i1++i2):=by
 induction h with
 | nil=>intro k x hx; simp at hx
 | @cons y r ii xs rs ids h t ih =>
  intro k x hx
  cases k with
  | zero =>
   simp only [aK,ay] at hx;subst hx;exact ⟨r,[],ii,ids,rfl,rfl,h,t⟩
  | succ k =>
   obtain ⟨s,i1,jj,i2,e1,e2,e3,e4⟩:=ih (k:=k) (x:=x) (by simpa using hx);subst e2;refine ⟨s,ii++i1,jj,i2,e1,by simp,e3, ?_⟩;have:=Rows.cons (x:=y) h e4;simpa using this
theorem Rows.snoc {α:Type} {T:Store} {tys:List Ty} {enc:α->V} {xs:List α} {rs:List (List V)} {ids:List Nat} (h:Rows T tys enc xs rs ids) {x:α} {r:List V} {ii:List Nat} (hr:OwL T tys r (enc x).cells ii):Rows T tys enc (xs++[x]) (rs++[r]) (ids++ii):=by
 induction h with
 | nil=>have:=Rows.cons (x:=x) hr .nil; simpa using this
 | @cons y s jj xs rs ids h t ih=>have:=Rows.cons (x:=y) h ih; simpa using this
theorem ay8 {T:Store} {x:Ss.Ins} {oa ou:Nat} (h1:T.get oa=some (1,x.args.map cj)) (h2:T.get ou=some (1,x.outs.map cj)):OwL T insD [cj x.op,vu x.n, .slice oa 0 x.args.length, .slice ou 0 x.outs.length] (js x).cells [oa,ou]:=by
 rw [zr];have hB:=ayu h2;rw [Yh] at hB;have hA:OwL T (.s [.c]::[.s [.c]]) (.slice oa 0 x.args.length::[.slice ou 0 x.outs.length]) (vl cj x.args::[vl cj x.outs]) (oa::[ou]) :=
  OwL.slice (s:=1) (enc:=cj) (fun _=>rfl) (fun _=>rfl) x.args (by rw [qA]; exact h1) hB
 exact .c (x:=cj x.op) rfl (.c (x:=vu x.n) rfl hA)
section
variable {S H:Store} {hs:List Nat} {ob:Nat} {bs:List Ss.Block} {T:Store} {rs:List (List V)} {ids:List Nat} {i:Nat}
theorem BInv.at2 {jj:List Nat} (h:BInv S H (jj++hs) ob bs T rs ids) (hw:T.Wf) {i:Nat} (hi:i<bs.length) :
  ∃ (r1:List (List V)) (r2:List (List V)) (i1 i2:List Nat) (op oc oe:Nat) (rc:List (List V)) (ce:List V) (ip ic ie:List Nat),rs=r1++[.slice op 0 bs[i].params.length, .slice oc 0 bs[i].code.length,cj bs[i].term.kind,cj bs[i].term.arg, .slice oe 0 bs[i].term.to.length,vl cj bs[i].term.args]::r2/\(∀ s∈r1,s.length=6)/\r1.length=i /\
   T.get op=some (1,bs[i].params.map cj)/\T.get oc=some (4,rc.flatten)/\Rows T insD js bs[i].code rc ic/\T.get oe=some (2,ce)/\OwL T (reps bs[i].term.to.length KZ) ce (jq ji bs[i].term.to) ie /\
   ids=i1++((op::oc::(ic++oe::ie))++i2)/\((jj++hs)++ob::(op::oc::(ic++oe::ie))).Nodup /\
   ∀ (T':Store) (r':List V) (b':Ss.Block) (ii':List Nat),T.nx<=T'.nx->(∀ o,o<T.nx->o≠ob->o∉op::oc::(ic++oe::ie)->T'.get o=T.get o)->T'.get ob=some (6,(r1++r'::r2).flatten)->OwL T' blkD r' (je b').cells ii'->ii'.Nodup->(∀ o∈ii',o∈op::oc::(ic++oe::ie)\/o∈jj\/T.nx<=o) ->
    BInv S H hs ob (bs.set i b') T' (r1++r'::r2) (i1++(ii'++i2)):=by
 have hlt:=h.all_lt hw;obtain ⟨old,hd,al,cb,own,nd,lt⟩:=h;obtain ⟨r1,r,r2,i1,ii,i2,rfl,hl,rfl,hb,hput⟩:=own.at (ac hi);have hr6:=own.len.2;obtain ⟨op,oc,oe,rc,ce,ip,ic,ie,rfl,rfl,hop,hoc,hrc,hoe,hie⟩:=adj hb;have sub:List.Sublist (op::oc::(ic++oe::ie)) (i1++((op::oc::(ic++oe::ie))++i2)):=(List.sublist_append_left _ _).trans (List.sublist_append_right _ _);refine ⟨r1,r2,i1,i2,op,oc,oe,rc,ce,ip,ic,ie,rfl,fun s hs=>hr6 s (by simp [hs]),hl,hop,hoc,hrc,hoe,hie,rfl,List.Sublist.nodup ((List.Sublist.refl (jj++hs)).append (sub.cons_cons ob)) nd, ?_⟩;intro T' r' b' ii' hnx hk hcb how hnd hin;generalize op::oc::(ic++oe::ie)=ii at *
 have cnt : ∀ o,((jj++hs)++ob::(i1++(ii++i2))).count o<=1:=fun o=>List.nodup_iff_count.1 nd o
 simp only [List.count_append,List.count_cons] at cnt;have pos : ∀ {o:Nat} {l:List Nat},o∈l->1<=l.count o:=fun h=>List.count_pos_iff.2 h
 have nob : ∀ o,o∈jj\/o∈hs\/o∈i1\/o∈ii\/o∈i2->o≠ob:=by
  rintro o ho rfl;have c:=cnt o;simp only [beq_self_eq_true,if_true] at c;rcases ho with ho | ho | ho | ho | ho<;>(have:=pos ho; omega)
 have nii : ∀ o,o∈hs\/o∈i1\/o∈i2->o∉ii:=by
  intro o ho hm;have c:=cnt o;have:=pos hm;rcases ho with ho | ho | ho<;>(have:=pos ho; omega)
 have keep : ∀ o,o∈hs\/o∈i1\/o∈i2->T'.get o=T.get o:=fun o ho=>by
  refine hk o (hlt o ?_) (nob o ?_) (nii o ho)
  .rcases ho with ho | ho | ho<;>simp [ho]
  .rcases ho with ho | ho | ho<;>simp [ho]
 refine ⟨⟨bd old.1 hnx,fun o ho => ?_⟩,fun o ho=>(keep o (.inl ho)).trans (hd o (by simp [ho])),fun o ho=>al o (by simp [ho]),hcb,hput T' r' b' ii' (fun o ho=>keep o ?_) how, ?_,fun o ho => ?_⟩
 .rw [hk o (aS ho old.1) ?_ ?_]
  .exact old.2 o ho
  .rintro rfl;have:=lt o (by simp); omega
  .intro hm;have:=lt o (by simp [hm]); omega
 .rcases aG.1 ho with ho | ho
  .exact .inr (.inl ho)
  .exact .inr (.inr ho)
 .refine List.nodup_iff_count.2 fun o => ?_
  simp only [List.count_append,List.count_cons];have c:=cnt o
  by_cases hm:o∈ii'
  .have h1:=List.nodup_iff_count.1 hnd o;rcases hin o hm with hm2 | hm2 | hge
   .have:=pos hm2; omega
   .have z4:(if (ob==o)=true then 1 else 0)=0:=by
     rw [if_neg];simp only [beq_iff_eq]; exact fun e=>nob o (.inl hm2) e.symm
    have:=pos hm2; omega
   .have z1:hs.count o=0:=List.count_eq_zero.2 fun h=>by have:=hlt o (by simp [h]); omega
    have z2:i1.count o=0:=List.count_eq_zero.2 fun h=>by have:=hlt o (by simp [h]); omega
    have z3:i2.count o=0:=List.count_eq_zero.2 fun h=>by have:=hlt o (by simp [h]); omega
    have z4:(if (ob==o)=true then 1 else 0)=0:=by
     have:=hlt ob (by simp);rw [if_neg];simp only [beq_iff_eq]; omega
    omega
  .have:ii'.count o=0:=List.count_eq_zero.2 hm;omega
 .simp only [aG,aL] at ho;rcases ho with ho | ho | ho | ho | ho
  .exact lt o (by simp [ho])
  .exact lt o (by simp [ho])
  .exact lt o (by simp [ho])
  .rcases hin o ho with h | h | h
   .exact lt o (by simp [h])
   .exact lt o (by simp [h])
   .have:=old.1; omega
  .exact lt o (by simp [ho])
theorem BInv.hold (h:BInv S H hs ob bs T rs ids) {jj:List Nat} (hj : ∀ o∈jj,(T.get o).isSome=true) (hn:(jj++(hs++ob::ids)).Nodup) (hl : ∀ o∈jj,S.nx<=o):BInv S T (jj++hs) ob bs T rs ids:=by
 obtain ⟨old,hd,al,cb,own,nd,lt⟩:=h;refine ⟨old,fun o _=>rfl,fun o ho => ?_,cb,own,by simpa using hn,fun o ho => ?_⟩
 .rcases aG.1 ho with ho | ho
  .exact hj o ho
  .rw [hd o ho]; exact al o ho
 .simp only [List.append_assoc,aG] at ho;rcases ho with ho | ho
  .exact hl o ho
  .exact lt o (by simpa using ho)
theorem BInv.cut (h:BInv S H hs ob bs T rs ids) (hw:T.Wf) {n i:Nat} (hn:n<bs.length) (hi:i<bs[n].code.length) :
  ∃ (oc:Nat) (rc:List (List V)) (oa ou:Nat),rs.flatten[n*6+1]? = some (.slice oc 0 bs[n].code.length)/\T.get oc=some (4,rc.flatten)/\(∀ r∈rc,r.length=4)/\rc.length=bs[n].code.length/\rc[i]? = some [cj bs[n].code[i].op,vu bs[n].code[i].n, .slice oa 0 bs[n].code[i].args.length, .slice ou 0 bs[n].code[i].outs.length] /\
   T.get oa=some (1,bs[n].code[i].args.map cj)/\T.get ou=some (1,bs[n].code[i].outs.map cj)/\ob≠oc/\(∀ o∈hs,o≠oc/\o≠ob)/\oa≠oc/\ou≠oc/\oa≠ob/\ou≠ob /\
   ∀ T':Store,T'=(T.upd oc (4,(rc.eraseIdx i).flatten)).upd ob (6,rs.flatten.set (n*6+1) (.slice oc 0 (bs[n].code.length-1))) -> ∃ rs' ids',rs'.flatten=rs.flatten.set (n*6+1) (.slice oc 0 (bs[n].code.length-1))/\BInv S T' ([oa,ou]++hs) ob (bs.set n (Ss.cutAt bs[n] i)) T' rs' ids':=by
 have hlt:=h.all_lt hw;have hnd0:=h.nd;have hlt0:=h.lt;obtain ⟨r1,r2,i1,i2,op,oc,oe,rc,ce,ip,ic,ie,rfl,h6,hl,hop,hoc,hrc,hoe,hie,rfl,hnd,hput⟩:=BInv.at2 (jj:=[]) h hw hn;simp only [bm] at hnd;obtain ⟨n0,n1,n2,n3,n4,n5,n6,n7,n8,n9,n10,n11,n12,n13,n14,n15,n16,n17⟩:=adh hnd;obtain ⟨r,j1,jj,j2,hrcg,hic,hrow,hcut⟩:=hrc.cut (ac hi);obtain ⟨oa,ou,hr,hjj,hoa,hou⟩:=aj1 hrow;subst hr; subst hjj;have hc4:=hrc.len;have hoai:oa∈ic:=by rw [hic]; simp
 have houi:ou∈ic:=by rw [hic]; simp
 refine ⟨oc,rc,oa,ou,jda h6 hl rfl,hoc,fun r hr=>hc4.2 r hr,hc4.1,hrcg,hoa,hou,n2,fun o ho=>⟨(n0 o ho).2.2.1,(n0 o ho).1⟩,fun e=>n11 (e▸hoai),fun e=>n11 (e▸houi),fun e=>n4 (e▸hoai),fun e=>n4 (e▸houi), ?_⟩;intro T' hT';have hsub : ∀ o∈j1++j2,o∈ic:=fun o ho=>by
  rw [hic]; rcases aG.1 ho with h | h<;>simp [h]
 have hfs:=aex (m:=6) (r:=[V.slice op 0 bs[n].params.length, .slice oc 0 bs[n].code.length,cj bs[n].term.kind,cj bs[n].term.arg, .slice oe 0 bs[n].term.to.length,vl cj bs[n].term.args]) (r2:=r2) (q:=1) (w := .slice oc 0 (bs[n].code.length-1)) h6 hl (by simp);have g : ∀ o,o≠ob->o≠oc->T'.get o=T.get o:=fun o h1 h2=>by rw [hT',qw h1,qw h2]
 have gb:T'.get ob=some (6,(r1++[V.slice op 0 bs[n].params.length, .slice oc 0 (bs[n].code.length-1),cj bs[n].term.kind,cj bs[n].term.arg, .slice oe 0 bs[n].term.to.length,vl cj bs[n].term.args]::r2).flatten):=by
  rw [hT',JR,hfs]; rfl
 have hcl:(Ss.cutAt bs[n] i).code.length=bs[n].code.length-1:=by simp [Ss.cutAt,List.length_eraseIdx_of_lt hi]
 have hblk:OwL T' blkD [V.slice op 0 bs[n].params.length, .slice oc 0 (bs[n].code.length-1),cj bs[n].term.kind,cj bs[n].term.arg, .slice oe 0 bs[n].term.to.length,vl cj bs[n].term.args] (je (Ss.cutAt bs[n] i)).cells (op::oc::((j1++j2)++oe::ie)):=by
  have:=af2 (T:=T') (b:=Ss.cutAt bs[n] i) (op:=op) (oc:=oc) (oe:=oe) (rs:=rc.eraseIdx i) (ce:=ce) (ic:=j1++j2) (ie:=ie) ?_ ?_ ?_ ?_ ?_
  .rw [hcl] at this; exact this
  .rw [g op (Ne.symm n1) n6]; exact hop
  .rw [hT',qw (Ne.symm n2),JR]
  .exact hcut.mono fun o ho=>g o (fun e=>n4 (e▸hsub o ho)) (fun e=>n11 (e▸hsub o ho))
  .rw [g oe (Ne.symm n3) (Ne.symm n10)]; exact hoe
  .exact hie.mono fun o ho=>g o (fun e=>n5 (e▸ho)) (fun e=>n12 (e▸ho))
 have cnt : ∀ o,(hs++ob::(i1++((op::oc::(ic++oe::ie))++i2))).count o<=1:=fun o=>List.nodup_iff_count.1 hnd0 o
 rw [hic] at cnt;have hnew:=hput T' _ (Ss.cutAt bs[n] i) (op::oc::((j1++j2)++oe::ie)) (by rw [hT']; exact a9 _) (fun o _ h1 h2=>g o h1 (fun e=>h2 (by simp [e]))) gb hblk (by
  refine List.nodup_iff_count.2 fun o => ?_
  have c:=cnt o;simp only [List.count_append,List.count_cons,List.count_nil] at c ⊢;omega) (fun o ho => .inl (by
   simp only [aL,aG] at ho ⊢;rcases ho with h | h | h | h
   .exact .inl h
   .exact .inr (.inl h)
   .exact .inr (.inr (.inl (hsub o (aG.2 h))))
   .exact .inr (.inr (.inr h))))
 refine ⟨_,_,hfs.symm,hnew.hold (fun o ho => ?_) (List.nodup_iff_count.2 fun o => ?_) (fun o ho => ?_)⟩
 .simp only [aL,List.not_mem_nil,or_false] at ho;rcases ho with rfl | rfl
  .rw [g _ (fun e=>n4 (e▸hoai)) (fun e=>n11 (e▸hoai)),hoa]; rfl
  .rw [g _ (fun e=>n4 (e▸houi)) (fun e=>n11 (e▸houi)),hou]; rfl
 .have c:=cnt o;simp only [List.count_append,List.count_cons,List.count_nil] at c ⊢;omega
 .refine hlt0 o ?_;simp only [aL,List.not_mem_nil,or_false] at ho;rcases ho with rfl | rfl
  .simp [hoai]
  .simp [houi]
theorem BInv.push {oa ou:Nat} (h:BInv S H ([oa,ou]++hs) ob bs T rs ids) (hw:T.Wf) {p:Nat} (hp:p<bs.length) {x:Ss.Ins} (hoa:T.get oa=some (1,x.args.map cj)) (hou:T.get ou=some (1,x.outs.map cj)) :
  ∃ (oc:Nat) (cells:List V),rs.flatten[p*6+1]? = some (.slice oc 0 bs[p].code.length)/\T.get oc=some (4,cells)/\cells.length=bs[p].code.length*4/\ob≠oc/\(∀ o∈hs,o≠oc/\o≠ob)/\oa≠oc/\ou≠oc/\oa≠ob/\ou≠ob /\
   ∀ (T':Store) (on:Nat),T.nx<=on->T.nx<=T'.nx->(∀ o,o<T.nx->o≠ob->o≠oc->T'.get o=T.get o)->T'.get on=some (4,cells++[cj x.op,vu x.n, .slice oa 0 x.args.length, .slice ou 0 x.outs.length])->T'.get ob=some (6,rs.flatten.set (p*6+1) (.slice on 0 (bs[p].code.length+1))) ->
    ∃ rs' ids',rs'.flatten=rs.flatten.set (p*6+1) (.slice on 0 (bs[p].code.length+1))/\BInv S H hs ob (bs.set p (Ss.cC bs[p] x)) T' rs' ids':=by
 have hlt:=h.all_lt hw;obtain ⟨r1,r2,i1,i2,op,oc,oe,rc,ce,ip,ic,ie,rfl,h6,hl,hop,hoc,hrc,hoe,hie,rfl,hnd,hput⟩:=BInv.at2 h hw hp;obtain ⟨n0,n1,n2,n3,n4,n5,n6,n7,n8,n9,n10,n11,n12,n13,n14,n15,n16,n17⟩:=adh hnd;have hc4:=hrc.len;have a0:=n0 oa (by simp);have u0:=n0 ou (by simp);have hcl:rc.flatten.length=bs[p].code.length*4:=by rw [zp hc4.2,hc4.1]; rfl
 refine ⟨oc,rc.flatten,jda h6 hl rfl,hoc,hcl,n2,fun o ho=>⟨(n0 o (by simp [ho])).2.2.1,(n0 o (by simp [ho])).1⟩,a0.2.2.1,u0.2.2.1,a0.1,u0.1, ?_⟩;intro T' on hon hnx hk hgn hgb;have hfs:=aex (m:=6) (r:=[V.slice op 0 bs[p].params.length, .slice oc 0 bs[p].code.length,cj bs[p].term.kind,cj bs[p].term.arg, .slice oe 0 bs[p].term.to.length,vl cj bs[p].term.args]) (r2:=r2) (q:=1) (w := .slice on 0 (bs[p].code.length+1)) h6 hl (by simp);rw [hfs] at hgb ⊢;have hin : ∀ o∈op::oc::(ic++oe::ie),o<T.nx:=fun o ho=>hlt o (by
  simp only [aG,aL] at ho ⊢;rcases ho with h | h | h | h | h<;>simp [h])
 have ltm : ∀ o∈op::oc::(ic++oe::ie),o≠ob->o≠oc->T'.get o=T.get o:=fun o ho h1 h2=>hk o (hin o ho) h1 h2
 have lta:oa<T.nx:=hlt oa (by simp);have ltu:ou<T.nx:=hlt ou (by simp);have hcode:(Ss.cC bs[p] x).code.length=bs[p].code.length+1:=by simp [Ss.cC]
 have hblk:OwL T' blkD [V.slice op 0 bs[p].params.length, .slice on 0 (bs[p].code.length+1),cj bs[p].term.kind,cj bs[p].term.arg, .slice oe 0 bs[p].term.to.length,vl cj bs[p].term.args] (je (Ss.cC bs[p] x)).cells (op::on::((ic++[oa,ou])++oe::ie)):=by
  have:=af2 (T:=T') (b:=Ss.cC bs[p] x) (op:=op) (oc:=on) (oe:=oe) (rs:=rc++[[cj x.op,vu x.n, .slice oa 0 x.args.length, .slice ou 0 x.outs.length]]) (ce:=ce) (ic:=ic++[oa,ou]) (ie:=ie) ?_ ?_ ?_ ?_ ?_
  .rw [hcode] at this; exact this
  .rw [ltm op (by simp) (Ne.symm n1) n6]; exact hop
  .rw [hgn]; simp
  .refine Rows.snoc (hrc.mono fun o ho=>ltm o (by simp [ho]) (fun e=>n4 (e▸ho)) (fun e=>n11 (e▸ho))) (ay8 ?_ ?_)
   .rw [hk oa lta a0.1 a0.2.2.1]; exact hoa
   .rw [hk ou ltu u0.1 u0.2.2.1]; exact hou
  .rw [ltm oe (by simp) (Ne.symm n3) (Ne.symm n10)]; exact hoe
  .exact hie.mono fun o ho=>ltm o (by simp [ho]) (fun e=>n5 (e▸ho)) (fun e=>n12 (e▸ho))
 refine ⟨_,_,rfl,hput T' _ (Ss.cC bs[p] x) (op::on::((ic++[oa,ou])++oe::ie)) hnx (fun o ho h1 h2=>hk o ho h1 (fun e=>h2 (by simp [e]))) hgb hblk (List.nodup_iff_count.2 fun o => ?_) (fun o ho => ?_)⟩
 .have c:=List.nodup_iff_count.1 hnd o;have hno:o=on->(op::oc::(ic++oe::ie)).count o=0/\([oa,ou]:List Nat).count o=0:=fun e=>by
   subst e;refine ⟨List.count_eq_zero.2 fun h=>by have:=hin o h; omega,List.count_eq_zero.2 fun h => ?_⟩;simp only [aL,List.not_mem_nil,or_false] at h;rcases h with h | h<;>omega
  simp only [List.count_append,List.count_cons,List.count_nil] at c hno ⊢
  by_cases e:o=on
  .obtain ⟨z1,z2⟩:=hno e;subst e;simp only [beq_self_eq_true,if_true];omega
  .have e2:(if (on==o)=true then 1 else 0)=0:=by
    rw [if_neg];simp only [beq_iff_eq]; exact fun h=>e h.symm
   omega
 .simp only [aL,aG,List.not_mem_nil,or_false] at ho ⊢;rcases ho with h | h | (h | h | h) | h
  .exact .inl (.inl h)
  .exact .inr (.inr (by omega))
  .exact .inl (.inr (.inr (.inl h)))
  .exact .inr (.inl (.inl h))
  .exact .inr (.inl (.inr h))
  .exact .inl (.inr (.inr (.inr h)))
theorem BInv.held (h:BInv S H hs ob bs T rs ids) (hw:T.Wf) {o:Nat} (ho:o∈hs) (c:Nat × List V):BInv S (H.upd o c) hs ob bs (T.upd o c) rs ids:=by
 obtain ⟨old,hd,al,cb,own,nd,lt⟩:=h;have hne : ∀ q∈ob::ids,q≠o:=fun q hq e=>(List.nodup_append.1 nd).2.2 o ho q hq e.symm
 refine ⟨⟨old.1,fun q hq => ?_⟩,fun q hq => ?_,fun q hq => ?_, ?_,own.mono fun q hq => ?_,nd,lt⟩
 .have:=lt o (by simp [ho]);rw [qw (by omega)]; exact old.2 q hq
 .rw [qf,qf,hd q hq]
 .rw [qf]; split
  .rfl
  .exact al q hq
 .rw [qw (hne ob (by simp))]; exact cb
 .exact qw (hne q (by simp [hq]))
end
end Go.Vw
namespace Go.Vw
open Go.Proofs Go.RowKit
attribute [-simp] List.map_set
theorem apk {T:Store} {e:Ss.Edge} {r:List V} {ii:List Nat} (h:OwL T KZ r (ji e).cells ii) : ∃ oa,r=[cj e.to, .slice oa 0 e.args.length]/\ii=[oa]/\T.get oa=some (1,e.args.map cj):=by
 rw [zB] at h
 cases h with
 | c h1 h =>
  obtain ⟨o,rfl,h2,h3⟩:=avw (l:=e.args) (by rw [Yh]; exact h);exact ⟨o,rfl,h2,h3⟩
section
variable {S H:Store} {hs:List Nat} {ob:Nat} {bs:List Ss.Block} {T:Store} {rs:List (List V)} {ids:List Nat} {i:Nat}
theorem BInv.row (h:BInv S H hs ob bs T rs ids) (hw:T.Wf) (hi:i<bs.length) : ∃ (op oc oe:Nat) (rc re:List (List V)),
  (rs.flatten.drop (i*6)).take 6=[.slice op 0 bs[i].params.length, .slice oc 0 bs[i].code.length,cj bs[i].term.kind,cj bs[i].term.arg, .slice oe 0 bs[i].term.to.length,vl cj bs[i].term.args]/\(i+1)*6<=rs.flatten.length/\rs.flatten[i*6+1]? = some (.slice oc 0 bs[i].code.length) /\
  T.get op=some (1,bs[i].params.map cj)/\T.get oc=some (4,rc.flatten)/\(∀ r∈rc,r.length=4)/\rc.length=bs[i].code.length/\T.get oe=some (2,re.flatten)/\re.length=bs[i].term.to.length/\re.flatten.length=bs[i].term.to.length*2 /\
  (∀ (k:Nat) (hk:k<bs[i].term.to.length), ∃ oa,(re.flatten.drop (k*2)).take 2=[cj bs[i].term.to[k].to, .slice oa 0 bs[i].term.to[k].args.length]) /\
  ∀ (k:Nat) (hk:k<bs[i].code.length), ∃ oa ou,(rc.flatten.drop (k*4)).take 4=[cj bs[i].code[k].op,vu bs[i].code[k].n, .slice oa 0 bs[i].code[k].args.length, .slice ou 0 bs[i].code[k].outs.length]/\T.get oa=some (1,bs[i].code[k].args.map cj)/\T.get ou=some (1,bs[i].code[k].outs.map cj):=by
 obtain ⟨r1,r2,i1,i2,op,oc,oe,rc,ce,ip,ic,ie,rfl,h6,hl,hop,hoc,hrc,hoe,hie,rfl,hnd,hput⟩:=h.at hw hi;obtain ⟨re,rfl,hrl,hre⟩:=jcH (enc:=ji) (tys:=KZ) (fun x=>by rw [zB]; rfl) hie;have he2:=hre.len;have hc4:=hrc.len;have hall:=h.own.len;have hfl:=zp hall.2;have hil:i<(r1++[V.slice op 0 bs[i].params.length, .slice oc 0 bs[i].code.length,cj bs[i].term.kind,cj bs[i].term.arg, .slice oe 0 bs[i].term.to.length,vl cj bs[i].term.args]::r2).length:=by rw [hall.1]; exact hi
 refine ⟨op,oc,oe,rc,re, ?_, ?_,jda h6 hl rfl,hop,hoc,hc4.2,hc4.1,hoe,he2.1, ?_,fun k hk => ?_,fun k hk => ?_⟩
 .have:=ZX (m:=6) hall.2 hil;rw [this];subst hl;simp
 .rw [hfl];have:blkD.length=6:=rfl;rw [this];exact Nat.mul_le_mul_right 6 hil
 .rw [zp he2.2,he2.1]; rfl
 .obtain ⟨e1,e,e2,j1,jj,j2,rfl,hel,rfl,hrow,hep⟩:=hre.at (ac hk);obtain ⟨oa,rfl,rfl,hoa⟩:=apk hrow;have:=ZX (m:=2) he2.2 (k:=k) (by rw [he2.1]; exact hk);refine ⟨oa, ?_⟩;rw [this];subst hel;simp
 .obtain ⟨e1,e,e2,j1,jj,j2,rfl,hel,rfl,hrow,hep⟩:=hrc.at (ac hk);obtain ⟨oa,ou,rfl,rfl,hoa,hou⟩:=aj1 hrow;have:=ZX (m:=4) hc4.2 (k:=k) (by rw [hc4.1]; exact hk);refine ⟨oa,ou, ?_,hoa,hou⟩;rw [this];subst hel;simp
end
theorem avc {S H:Store} {hs:List Nat} {ob:Nat} {bs:List Ss.Block} {T:Store} {rs:List (List V)} {ids:List Nat} (hI:BInv S H hs ob bs T rs ids) {fi fo:List Int} {ot nt:Nat}
  (cs' : ∀ l,b9 64 [.agg [vl cj fi,vl cj fo, .slice ot 0 nt, .slice ob 0 bs.length]] (St T [] l) fun r T'=>r = .bool true/\T'=St T [] l) (hbl:bs.length<=4096) (htl : ∀ b∈bs,b.term.to.length<=4096) :
  b9 26 [.agg [vl cj fi,vl cj fo, .slice ot 0 nt, .slice ob 0 bs.length]] T fun r T'=>r=vl (vl cj) (Ss.succs bs)/\T'=T:=by
 refine b7 Tryz.func26 Tryz.ntmps26 fun hwf=>?_
 have hcb:=hI.cb;have lb:=ju hwf hcb;have bb:=fun u l => @jk T u l ob lb
 refine bz ?_
 refine QP ?_;refine jK rfl (cs' _) ?_;rintro X T9 ⟨rfl,rfl⟩;refine QW ?_;refine QT ?_;refine jD rfl rfl rfl ?_;refine QT ?_;refine jz rfl ?_;refine QY ?_;refine qZ 3 1 rfl (by conv=>lhs; simp [Fr.set]) ?_
 refine bF bb hcb ?_
 refine QO [3,13,14,15] ?_;have bP:=fun ks=>qW (n:=T.nx) ks lb
 have bT:=fun ks=>qu (n:=T.nx) ks lb
 refine Yq [1] hwf (by decide) (by simp [bP,bT]) (by conv=>lhs; simp [bP,bT]) (by conv=>lhs; simp [bP,bT]) (by conv=>lhs; simp [bP,bT]) ?_;refine bX [3,13,14,15] (fun c σ S' => ∃ (k:Nat) (out:List (List Int)),k<=bs.length/\c=bs.length-k/\out.length=k/\out=(bs.take k).map Ss.rowOf/\σ=[(3, .slice (lid T.nx 0) 0 k),(13, .slice ob 0 bs.length),(14,cu bs.length),(15,cu k)]/\S'=St T [] [some (1,out.map (vl cj))]) bs.length ?_ ?_
 .exact ⟨0,[],by omega,rfl,rfl,by simp,by simp [Fr.oy],by simp⟩
 .rintro c σ T9 ⟨k,out,hk,rfl,hol,ho,rfl,rfl⟩
  by_cases hkt:k<bs.length
  .have hw:=jg hkt (by omega);obtain ⟨op,oc,oe,rc,re,hrow,hlen,_,_,_,_,_,hge,hrel,hrel2,hre,_⟩:=hI.row hwf hkt;have htl':=htl _ (ah hkt);obtain ⟨⟨ps,code,⟨tk,ta,to,az⟩⟩,hx⟩ : ∃ b,bs[k]=b:=⟨_,rfl⟩
   rw [hx] at htl';simp only [hx] at hrow hrel hrel2 hre;simp only at htl';have le:=ju hwf hge;have be:=fun u l => @jk T u l oe le
   have htk:bs.take (k+1)=bs.take k++[⟨ps,code,⟨tk,ta,to,az⟩⟩]:=by rw [List.take_add_one,ac hkt,hx]; rfl
   obtain ⟨cells,hcells⟩ : ∃ c,c=rs.flatten:=⟨_,rfl⟩
   obtain ⟨ce,hce⟩ : ∃ c,c=re.flatten:=⟨_,rfl⟩
   rw [<-hcells] at hcb hrow hlen;rw [<-hce] at hge hrel2 hre;have hl2:k*6+6<=cells.length:=by omega
   refine bR hkt ?_;refine QT ?_;refine jC rfl rfl rfl ?_;refine QT ?_;refine jz rfl ?_;refine QT ?_;refine jL 1 rfl rfl ?_;refine QY ?_ (r:=by conv=>lhs;simp[QV,hkt,bb,hcb,hrow,hl2]);have eP:=fun ks=>qW (n:=T.nx) ks le
   have eT:=fun ks=>qu (n:=T.nx) ks le
   refine QY ?_;refine qZ 6 1 rfl (by conv=>lhs; simp [Fr.set]) ?_
   refine bF be hge ?_
   refine QO [3,6,13,14,15,21,22,23] ?_;refine Yq [0,2] hwf (by decide) (by simp [bP,bT,eP,eT]) (by conv=>lhs; simp [bP,bT,eP,eT]) (by conv=>lhs; simp [bP,bT,eP,eT]) (by conv=>lhs; simp [bP,bT,eP,eT]) ?_;refine bX [3,6,13,14,15,21,22,23] (fun c σ S' => ∃ (j:Nat) (r:List Int),j<=to.length/\c=to.length-j/\r.length=j/\r=(to.take j).map Ss.Edge.to/\σ=[(3, .slice (lid T.nx 0) 0 k),(6, .slice (lid T.nx 1) 0 j),(13, .slice ob 0 bs.length),(14,cu bs.length),(15,cu k),(21, .slice oe 0 to.length),(22,cu to.length),(23,cu j)]/\S'=St T [] [some (1,out.map (vl cj)),some (1,r.map cj)]) to.length ?_ ?_
   .exact ⟨0,[],by omega,rfl,rfl,by simp,by simp [Fr.oy],by simp⟩
   .rintro c σ T9 ⟨j,r,hj,rfl,hrl,hr,rfl,rfl⟩
    by_cases hjt:j<to.length
    .have hwj:=jg hjt (by omega);have hb:(j+1)*8<=140737488355328:=by omega
     have hb':j+1<=140737488355328:=by omega
     obtain ⟨oa,hre2⟩:=hre j hjt;have hl3:j*2+2<=ce.length:=by omega
     obtain ⟨⟨xt,xa⟩,hx2⟩ : ∃ b,to[j]=b:=⟨_,rfl⟩
     rw [hx2] at hre2;simp only at hre2;have htj:to.take (j+1)=to.take j++[⟨xt,xa⟩]:=by rw [List.take_add_one,ac hjt,hx2]; rfl
     repeat first|refine QG ?_|refine QY ?_ (r:=by conv=>lhs;simp[QV,hjt,be,hge,hre2,hl3,hb,hb',hrl])
     refine qh [0,4] (by conv=>lhs; simp [Fr.oy]) hwf (by decide) (by simp [bP,bT,eP,eT]) (by conv=>lhs; simp [bP,bT,eP,eT]) (by conv=>lhs; simp [bP,bT,eP,eT]) (by conv=>lhs; simp [bP,bT,eP,eT]) ⟨?_,j+1,r++[xt],hjt,rfl,by simp [hrl],by rw [htj,List.map_append,hr]; rfl,by simp [hwj],by simp⟩;omega
    .have hje:j=to.length:=by omega
     subst hje;rw [List.take_length] at hr;have hb:(k+1)*24<=140737488355328:=by omega
     have hb':k+1<=140737488355328:=by omega
     refine bR hjt ?_;refine QT ?_;refine jD rfl rfl rfl ?_;refine QT ?_;refine jP 2 rfl rfl ?_;refine jy 6 rfl ((frz1 (k:=1) (len:=to.length) (by simp) (by rfl) (jo cj (fun _=>rfl) _) (by simpa using hrl))) (by conv=>lhs; simp [Fr.set]) ?_;simp only [aq,au]
     refine bG hb hb' hol ?_
     refine qh [3] (by conv=>lhs; simp [Fr.oy]) hwf (by decide) (by simp [bP,bT,eP,eT]) (by conv=>lhs; simp [bP,bT,eP,eT]) (by conv=>lhs; simp [bP,bT,eP,eT]) (by conv=>lhs; simp [bP,bT,eP,eT]) ⟨?_,k+1,out++[r],hkt,rfl,by simp [hol],by rw [htk,List.map_append, <-ho,hr]; rfl,by simp [hw],by simp [vl]⟩;omega
  .have hke:k=bs.length:=by omega
   subst hke;rw [List.take_length] at ho
   refine bD hkt ?_
   rw [Ss.succs, <-ho];exact jf hwf ((frz1 (by simp) (by rfl) (jo (vl cj) (fun _=>rfl) _) (by simpa using hol)).toB _) rfl
theorem au2 (f:Ss.Fn) (hf:f.Fits) (hs:f.small=true) (hp : ∀ b∈f.blocks, ∀ v∈b.params,Ss.InR f.types.length v) (ho : ∀ b∈f.blocks, ∀ x∈b.code, ∀ v∈x.outs,Ss.InR f.types.length v) (S:Store) (hwf0:S.Wf) :
  b9 27 [jM f] S fun r T=>r = .slice S.nx 0 f.types.length/\T=St S [] [some (1,(Ss.homesI f).map cj)]:=by
 obtain ⟨hb0,hb1,hb2,_⟩:=qn hs;have hfb:=hf.2.2.2;unfold Ss.homesI;obtain ⟨⟨fi,fo⟩,ts,bs⟩:=f;simp only at *
 generalize hN:ts.length=N at *
 generalize hz:List.replicate N (0:Int)=z0;have hzl:z0.length=N:=by rw [<-hz]; simp
 have e3:List.replicate N (V.int IntKind.i64 0)=z0.map cj:=by rw [<-hz]; simp
 refine b7 Tryz.func27 Tryz.ntmps27 fun hwf=>?_
 refine QY ?_;refine QH 1 0 ?_;have e1:N*8<=140737488355328:=by omega
 have e2:N<=140737488355328:=by omega
 refine bG hN e1 e2 ?_
 rw [e3];refine QO [3,17,18,19] ?_;refine QK [1] ?_;refine bX [3,17,18,19] (fun c σ S' => ∃ (k:Nat) (out:List Int),k<=bs.length/\c=bs.length-k/\out.length=N/\Ss.hmAll k (bs.drop k) out=Ss.hmAll 0 bs z0/\σ=[(3, .slice (lid S.nx 0) 0 N),(17,vl je bs),(18,cu bs.length),(19,cu k)]/\S'=St S [] [some (1,out.map cj)]) bs.length ?_ ?_
 .exact ⟨0,_,by omega,rfl,hzl,rfl,by simp [Fr.oy],rfl⟩
 .rintro c σ T ⟨k,out,hk,rfl,hol,hout,rfl,rfl⟩
  by_cases hkt:k<bs.length
  .have hw:=jg hkt (by omega);have hbm:bs[k]∈bs:=ah hkt;obtain ⟨hbp,_,_,hbc⟩:=hb2 _ hbm;have hpk:=hp _ hbm;have hok:=ho _ hbm;have hfk:=hfb _ hbm;rw [am hkt,Ss.hmAll] at hout;obtain ⟨⟨ps,code,⟨tk,ta,to,az⟩⟩,hx⟩ : ∃ b,bs[k]=b:=⟨_,rfl⟩
   rw [hx] at hout hbp hbc hpk hok hfk;simp only at hbp hbc hpk hok;have hcf:=hfk.2.1.2;simp only at hcf;have hout0:Ss.hmAll (k+1) (bs.drop (k+1)) (Ss.hmCode (k:Int) (Ss.hmPut (k:Int) out (ps.drop 0)) code)=Ss.hmAll 0 bs z0:=hout;refine QY ?_ (r:=by conv=>lhs;simp[QV,hkt,hx]);refine QT ?_;refine jC rfl rfl rfl ?_;refine QT ?_;refine jz rfl ?_;refine QT ?_;refine jL 1 rfl rfl ?_;refine QY ?_ (r:=by conv=>lhs;simp[QV,hkt,hx])
   refine bz ?_
   refine QO [3,4,5,17,18,19,25,26,27] ?_;refine bX [3,4,5,17,18,19,25,26,27] (fun c σ S' => ∃ (j:Nat) (out:List Int),j<=ps.length/\c=ps.length-j/\out.length=N/\Ss.hmAll (k+1) (bs.drop (k+1)) (Ss.hmCode (k:Int) (Ss.hmPut (k:Int) out (ps.drop j)) code)=Ss.hmAll 0 bs z0/\σ=[(3, .slice (lid S.nx 0) 0 N),(4,cu k),(5, .ptr (lid S.nx 1) 0),(17,vl je bs),(18,cu bs.length),(19,cu k),(25,vl cj ps),(26,cu ps.length),(27,cu j)]/\S'=St S [] [some (1,out.map cj),some (6,[vl cj ps,vl js code,cj tk,cj ta,vl ji to,vl cj az])]) ps.length ?_ ?_
   .exact ⟨0,out,by omega,rfl,hol,hout0,by simp [Fr.oy,Fr.lk],rfl⟩
   .rintro c σ T ⟨j,out,hj,rfl,hol,hout,rfl,rfl⟩
    by_cases hjt:j<ps.length
    .have hwj:=jg hjt (by omega);obtain ⟨m,hm⟩ : ∃ m:Nat,ps[j]=(m:Int):=⟨ps[j].toNat,by have:=(hpk _ (ah hjt)).1; omega⟩
     have hmN:m<N:=by have:=(hpk _ (ah hjt)).2; omega
     have hmo:m<out.length:=by omega
     rw [am hjt] at hout;have hout2:Ss.hmAll (k+1) (bs.drop (k+1)) (Ss.hmCode (k:Int) (Ss.hmPut (k:Int) (out.set m (k:Int)) (ps.drop (j+1))) code)=Ss.hmAll 0 bs z0:=by
      rw [<-hout,hm]; rfl
     refine bO hjt hm hmN hmo hwj ?_
     show jx _ _ _ _ _ _ _;exact again ⟨ao hjt (aW j),j+1,out.set m (k:Int),hjt,rfl,by rw [List.length_set]; exact hol,hout2,by simp [Fr.oy,Fr.lk],rfl⟩
    .have e:ps.drop j=[]:=by rw [aH]; omega
     rw [e] at hout;have hout3:Ss.hmAll (k+1) (bs.drop (k+1)) (Ss.hmCode (k:Int) out (code.drop 0))=Ss.hmAll 0 bs z0:=hout;clear hout hout0 e
     refine bD hjt ?_
     refine QO [3,4,17,18,19,37,38,39] ?_;refine QK [0] ?_;refine bX [3,4,17,18,19,37,38,39] (fun c σ S' => ∃ (i:Nat) (out:List Int),i<=code.length/\c=code.length-i/\out.length=N/\Ss.hmAll (k+1) (bs.drop (k+1)) (Ss.hmCode (k:Int) out (code.drop i))=Ss.hmAll 0 bs z0/\σ=[(3, .slice (lid S.nx 0) 0 N),(4,cu k),(17,vl je bs),(18,cu bs.length),(19,cu k),(37,vl js code),(38,cu code.length),(39,cu i)]/\S'=St S [] [some (1,out.map cj)]) code.length ?_ ?_
     .exact ⟨0,out,by omega,rfl,hol,hout3,by simp [Fr.oy,Fr.lk],rfl⟩
     .rintro c σ T ⟨i,out,hi,rfl,hol,hout,rfl,rfl⟩
      by_cases hit:i<code.length
      .have hwi:=jg hit (by omega);rw [am hit] at hout;have hoi:=hok _ (ah hit);have hci:=hcf _ (ah hit);obtain ⟨⟨xo,xn,xa,xs⟩,hx2⟩ : ∃ b,code[i]=b:=⟨_,rfl⟩
       rw [hx2] at hout hoi hci;simp only at hoi;have hxl:xs.length<2^62:=by
        have:=hci.2.2.2.1;simp only at this;omega
       have hout4:Ss.hmAll (k+1) (bs.drop (k+1)) (Ss.hmCode (k:Int) (Ss.hmPut (k:Int) out (xs.drop 0)) (code.drop (i+1)))=Ss.hmAll 0 bs z0:=hout;clear hout hout3;refine QY ?_ (r:=by conv=>lhs;simp[QV,hit,hx2]);refine QT ?_;refine jC rfl rfl rfl ?_;refine QT ?_;refine jz rfl ?_;refine QT ?_;refine jL 5 rfl rfl ?_;refine QY ?_ (r:=by conv=>lhs;simp[QV,hit,hx2])
       refine bz ?_
       refine QO [3,4,17,18,19,37,38,39,44,45,46] ?_;refine QK [0] ?_;refine bX [3,4,17,18,19,37,38,39,44,45,46] (fun c σ S' => ∃ (q:Nat) (out:List Int),q<=xs.length/\c=xs.length-q/\out.length=N/\Ss.hmAll (k+1) (bs.drop (k+1)) (Ss.hmCode (k:Int) (Ss.hmPut (k:Int) out (xs.drop q)) (code.drop (i+1)))=Ss.hmAll 0 bs z0/\σ=[(3, .slice (lid S.nx 0) 0 N),(4,cu k),(17,vl je bs),(18,cu bs.length),(19,cu k),(37,vl js code),(38,cu code.length),(39,cu i),(44,vl cj xs),(45,cu xs.length),(46,cu q)]/\S'=St S [] [some (1,out.map cj)]) xs.length ?_ ?_
       .exact ⟨0,out,by omega,rfl,hol,hout4,by simp [Fr.oy,Fr.lk],rfl⟩
       .rintro c σ T ⟨q,out,hq,rfl,hol,hout,rfl,rfl⟩
        by_cases hqt:q<xs.length
        .have hwq:=jg hqt (by omega);obtain ⟨m,hm⟩ : ∃ m:Nat,xs[q]=(m:Int):=⟨xs[q].toNat,by have:=(hoi _ (ah hqt)).1; omega⟩
         have hmN:m<N:=by have:=(hoi _ (ah hqt)).2; omega
         have hmo:m<out.length:=by omega
         rw [am hqt] at hout;have hout2:Ss.hmAll (k+1) (bs.drop (k+1)) (Ss.hmCode (k:Int) (Ss.hmPut (k:Int) (out.set m (k:Int)) (xs.drop (q+1))) (code.drop (i+1)))=Ss.hmAll 0 bs z0:=by
          rw [<-hout,hm]; rfl
         refine bO hqt hm hmN hmo hwq ?_
         show jx _ _ _ _ _ _ _;exact again ⟨ao hqt (aW q),q+1,out.set m (k:Int),hqt,rfl,by rw [List.length_set]; exact hol,hout2,by simp [Fr.oy,Fr.lk],rfl⟩
        .have e:xs.drop q=[]:=by rw [aH]; omega
         rw [e] at hout;have hout5:Ss.hmAll (k+1) (bs.drop (k+1)) (Ss.hmCode (k:Int) out (code.drop (i+1)))=Ss.hmAll 0 bs z0:=hout
         refine bF hqt hwi ?_
         show jx _ _ _ _ _ _ _;exact again ⟨ao hit (aW i),i+1,out,hit,rfl,hol,hout5,by simp [Fr.oy,Fr.lk],rfl⟩
      .have e:code.drop i=[]:=by rw [aH]; omega
       rw [e] at hout;have hout5:Ss.hmAll (k+1) (bs.drop (k+1)) out=Ss.hmAll 0 bs z0:=hout
       refine bF hit hw ?_
       show jx _ _ _ _ _ _ _;exact again ⟨ao hkt (aW k),k+1,out,hkt,rfl,hol,hout5,by simp [Fr.oy,Fr.lk],rfl⟩
  .have hke:bs.drop k=[]:=by rw [aH]; omega
   rw [hke] at hout;have hout5:out=Ss.hmAll 0 bs z0:=hout;rw [<-hout5]
   refine bD hkt ?_
   exact zM ⟨by simp [lid],rfl⟩
theorem ax3 (S:Store) {ph oh:Nat} {hm:List Int} {h:Int} {nodes:List Int} (hp:S.get ph=some (1,[.slice oh 0 hm.length])) (ho:S.get oh=some (1,hm.map cj)) (hs:nodes.Pairwise (· < ·)) (hl:nodes.length<4611686018427387904) {m:Nat} (hmN:m<hm.length) :
  b9 29 [cj (m:Int), .ref (.agg [cj h,vl cj nodes]), .ptr ph 0] S fun r T=>r = .bool (decide (hm[m]∈nodes))/\T=S:=by
 have cb:=ai1 nodes hm[m] hl hs;refine b7 Tryz.func29 Tryz.ntmps29 fun hwf=>?_
 have lp:=ju hwf hp;have lo:=ju hwf ho;have bp:=fun u l => @jk S u l ph lp
 have bo:=fun u l => @jk S u l oh lo
 refine bz ?_
 refine bY (r:=by conv=>lhs;simp[QV,bp,bo,hp,ho,hmN]) (k:=?_);refine QL cb ?_;refine bV ?_
 exact zM ⟨rfl,qv hwf⟩
theorem axl {S:Store} {l:List Int} {oc:Nat} {fid:FuncId} {caps:List V} {p:Int->Bool} (hc:jT Tryz.prog fid=true) (hlim:l.length<2^62) (hclo : ∀ v∈l,b9 fid (cj v::caps) S fun r T=>r = .bool (p v)/\T=S) (hg:S.get oc=some (1,l.map cj)) :
  b9 84 [.slice oc 0 l.length, .func fid caps] S fun v T=>v=cj (qm p l 0)/\T=S:=by
 refine b7 Tryz.func84 Tryz.ntmps84 fun hwf=>?_
 have lo:=ju hwf hg;have b0:=fun u m => @jk S u m oc lo
 refine bF b0 hg ?_
 refine bX [0,1,7,8] (fun c σ S' => ∃ (k:Nat),k<=l.length/\c=l.length-k/\qm p (l.drop k) k=qm p l 0/\σ=[(0, .slice oc 0 l.length),(1, .func fid caps),(7,cu l.length),(8,cu k)]/\S'=St S [] []) l.length ?_ ?_
 .exact ⟨0,by omega,rfl,rfl,by simp [Fr.oy],rfl⟩
 .rintro c σ T ⟨k,hk,rfl,hd,rfl,rfl⟩
  by_cases hkt:k<l.length
  .have hst:qm p (l.drop k) k=if p l[k]=true then (k:Int) else qm p (l.drop (k+1)) (k+1):=by rw [am hkt,qm]
   have hw:=jg hkt (by omega);have cc:=hclo l[k] (ah hkt);rw [<-qv hwf] at cc
   refine bG hkt b0 hg ?_
   refine QP ?_ (r:=by conv=>lhs;simp[QV,hkt,b0,hg]);refine zH rfl hc rfl cc ?_;rintro X T9 ⟨rfl,rfl⟩
   cases hp:p l[k] with
   | true =>
    rw [hp,if_pos rfl] at hst;refine bV ?_
    exact zM ⟨by rw [<-hd,hst]; rfl,by first | exact qv hwf | (rw [qv hwf]; exact qv hwf)⟩
   | false =>
    rw [hp,if_neg (by simp)] at hst;refine QW ?_
    refine bD hw ?_
    show jx _ _ _ _ _ _ _;exact again ⟨ao hkt (aW k),k+1,hkt,rfl,by rw [<-hst,hd],by simp [Fr.oy,Fr.lk],by first | rfl | (rw [qv hwf]; rfl)⟩
  .have e:l.drop k=[]:=by rw [aH]; omega
   rw [e] at hd;simp only [qm] at hd
   refine bD hkt ?_
   exact zM ⟨congrArg cj hd,qv hwf⟩
theorem ayi {S:Store} {l:List Int} {oc:Nat} {fid:FuncId} {caps:List V} {p:Int->Bool} (hc:jT Tryz.prog fid=true) (hlim:l.length<2^62) (hclo : ∀ v∈l,b9 fid (cj v::caps) S fun r T=>r = .bool (p v)/\T=S) (hg:S.get oc=some (1,l.map cj)) :
  b9 32 [.slice oc 0 l.length, .func fid caps] S fun v T=>v = .bool (l.any p)/\T=S:=by
 have ci:=axl hc hlim hclo hg;rw [<-zY p l 0];refine b7 Tryz.func32 Tryz.ntmps32 fun hwf=>?_
 rw [<-qv hwf] at ci
 refine bz ?_
 refine QP ?_;refine jK rfl ci ?_;rintro X T9 ⟨rfl,rfl⟩;refine bV ?_
 exact zM ⟨rfl,by first | exact qv hwf | (rw [qv hwf]; exact qv hwf)⟩
end Go.Vw
namespace Go.Vw
open Go.Proofs Go.RowKit
theorem ap8 {S:Store} (h:S.Wf):plus S ⟨fun _=>none,0⟩=S:=by
 refine Store.ext' (funext fun o => ?_) rfl;simp only [plus];split
 .rfl
 .rw [h.gone o (by omega)]; rfl
theorem VPure.thawF {P:Program} {f:FuncId} {xs xs':List V} {S S':Store} {X:V} (h:VPure P f xs' X) (hg:GhostArgs xs S xs' S') (hcl : ∀ x∈xs',x.closed=true) (hf:flatV X=true) (hsx : ∀ n,jbK n X=X):VCalls P f xs S fun r T=>r=X/\T=S:=by
 refine Jm fun hw => ?_
 refine ((h ⟨fun _=>none,0⟩).thaw hg hcl ?_).mono ?_
 .rintro r T ⟨rfl,rfl⟩;exact ⟨hf,fun o c hc=>by cases hc⟩
 .rintro r T ⟨r0,T0,⟨rfl,rfl⟩,rfl,rfl⟩;exact ⟨hsx _,ap8 hw⟩
theorem aso {S:Store} (h:S.Wf) (l:List Int):plus S (St ⟨fun _=>none,0⟩ [] [some (1,l.map cj)])=St S [] [some (1,l.map cj)]:=by
 refine Store.ext' (funext fun o => ?_) ?_
 .simp only [plus,St]
  by_cases ho:o<S.nx
  .simp [ho,uGet]
  .rw [if_neg ho,if_neg ho];simp only [Nat.not_lt_zero,if_false,Nat.sub_zero]
   cases hk:o-S.nx with
   | zero=>simp [WG,cj]
   | succ k=>simp
 .simp [plus,St,lid]
def y1 (o:Nat) (c:Nat × List V):Store:=⟨fun q=>if q=o then some c else none,0⟩
theorem aqi {o:Nat} {c:Nat × List V} {S:Store} (h:S.get o=some c):(y1 o c).Sub S:=fun q d hd=>by
 simp only [y1] at hd; split at hd
 .rename_i e; subst e; cases hd; exact h
 .cases hd
theorem ap6 {o:Nat} {c:Nat × List V}:(y1 o c).get o=some c:=by simp [y1]
def y2 (o:Nat) (c:Nat × List V) (p:Nat) (d:Nat × List V):Store:=⟨fun q=>if q=o then some c else if q=p then some d else none,0⟩
theorem axy {o p:Nat} {c d:Nat × List V} {S:Store} (h:S.get o=some c) (h2:S.get p=some d):(y2 o c p d).Sub S:=fun q e he=>by
 simp only [y2] at he; split at he
 .rename_i e2; subst e2; cases he; exact h
 .split at he
  .rename_i e2; subst e2; cases he; exact h2
  .cases he
theorem anr {o p:Nat} {c d c' d':Nat × List V} {S:Store} (h:S.get o=some c') (hc:c'.1=c.1) (h2:S.get p=some d') (hd:d'.1=d.1):(y2 o c p d).Shp S:=fun q e he=>by
 simp only [y2] at he; split at he
 .rename_i e2; subst e2; cases he; exact ⟨c',h,hc⟩
 .split at he
  .rename_i e2; subst e2; cases he; exact ⟨d',h2,hd⟩
  .cases he
theorem agy {o p:Nat} {c d:Nat × List V}:(y2 o c p d).get o=some c:=by simp [y2]
theorem ac0 {o p:Nat} {c d:Nat × List V} (h:p≠o):(y2 o c p d).get p=some d:=by simp [y2,h]
def y3 (o:Nat) (c:Nat × List V) (p:Nat) (d:Nat × List V) (q:Nat) (e:Nat × List V):Store:=⟨fun r=>if r=o then some c else if r=p then some d else if r=q then some e else none,0⟩
theorem ayl {o p q:Nat} {c d e c' d' e':Nat × List V} {S:Store} (h:S.get o=some c') (hc:c'.1=c.1) (h2:S.get p=some d') (hd:d'.1=d.1) (h3:S.get q=some e') (he:e'.1=e.1):(y3 o c p d q e).Shp S:=fun r x hx=>by
 simp only [y3] at hx; split at hx
 .rename_i e2; subst e2; cases hx; exact ⟨c',h,hc⟩
 .split at hx
  .rename_i e2; subst e2; cases hx; exact ⟨d',h2,hd⟩
  .split at hx
   .rename_i e2; subst e2; cases hx; exact ⟨e',h3,he⟩
   .cases hx
theorem ay7 {o p q:Nat} {c d e:Nat × List V}:(y3 o c p d q e).get o=some c:=by simp [y3]
theorem awg {o p q:Nat} {c d e:Nat × List V} (h:p≠o):(y3 o c p d q e).get p=some d:=by simp [y3,h]
theorem av0 {o p q:Nat} {c d e:Nat × List V} (h:q≠o) (h2:q≠p):(y3 o c p d q e).get q=some e:=by simp [y3,h,h2]
section
variable {S H:Store} {hs:List Nat} {ob:Nat} {bs:List Ss.Block} {T:Store} {rs:List (List V)} {ids:List Nat}
theorem BInv.ext (h:BInv S H hs ob bs T rs ids) (hw:T.Wf) {T':Store} (hn:T.nx<=T'.nx) (hk : ∀ o,o<T.nx->T'.get o=T.get o):BInv S H hs ob bs T' rs ids:=by
 have hlt:=h.all_lt hw;obtain ⟨old,hd,al,cb,own,nd,lt⟩:=h;exact ⟨⟨bd old.1 hn,fun o ho=>(hk o (aS ho old.1)).trans (old.2 o ho)⟩,fun o ho=>(hk o (hlt o (by simp [ho]))).trans (hd o ho),al,(hk ob (hlt ob (by simp))).trans cb,own.mono fun o ho=>hk o (hlt o (by simp [ho])),nd,lt⟩
theorem BInv.st (h:BInv S H hs ob bs T rs ids) (hw:T.Wf) (l:List (Option (Nat × List V))):BInv S H hs ob bs (St T [] l) rs ids :=
 h.ext hw (by rw [jR,lid]; omega) fun o ho=>by rw [jk ho]; rfl
theorem BInv.ghost (h:BInv S H hs ob bs T rs ids) {fi fo ts:List Int} {ot:Nat} (hot:ot∈hs) (ht:T.get ot=some (1,ts.map cj)) (post:List V) :
  ∃ S',GhostArgs (.agg [vl cj fi,vl cj fo, .slice ot 0 ts.length, .slice ob 0 bs.length]::post) T (jM ⟨⟨fi,fo⟩,ts,bs⟩::post) S':=by
 have hnd:(ot::ob::ids).Nodup:=List.Sublist.nodup ((List.singleton_sublist.2 hot).append (List.Sublist.refl (ob::ids))) h.nd;exact ⟨_,GhostArgs.one [] post (ac9 (fi:=fi) (fo:=fo) h.own.owl h.cb rfl ht rfl hnd)⟩
end
theorem aj0:(Tryz.prog.info? 65).map (fun i=>(i.zero,i.size,i.bytes))=some (some (.agg #[.int .i64 0, .int .u64 0, .slice none 0 0, .slice none 0 0]),4,64):=by kernel_rfl
set_option maxHeartbeats 1600000 in
set_option maxRecDepth 1000000 in
theorem agq (b off n cap i:Nat) (cells:List Value) (w:World) (hl:cells.length=n*4) (hi:i<n) (hcap:n<=cap) (hm:cap<=9223372036854775807)
  (hc : ∀ t,t<cells.length->w.cell? ⟨b,off+t,none⟩=cells[t]?) (hf : ∀ t,t<cells.length->w.frozen? ⟨b,off+t,none⟩=false) (h1 : ∀ u∈cells,u.oneCell'=true)
  (W1:World) (hW1:W1=w.drew.setCells b (off+i*4) (cells.drop ((i+1)*4))) (W2:World)
  (hcl : ∀ ty,(Builtin.clear_ #[57] ty #[.slice (some ⟨b,off+(i+(n-(i+1)))*4,none⟩) (n-(i+(n-(i+1)))) (cap-(i+(n-(i+1))))]).run Tryz.prog W1 = .ok (.tuple #[]) W2) :
  Calls Tryz.prog 33 #[.slice (some ⟨b,off,none⟩) n cap, .int .i64 i, .int .i64 ((i:Int)+1)] w fun e w'=>e = .returned (.slice (some ⟨b,off,none⟩) (i+(n-(i+1))) cap)/\w'=W2:=by
 obtain ⟨i0,hi0,hz0,hz1,hz2⟩:=info_parts aj0;obtain ⟨news,hnews⟩ : ∃ news,news=cells.drop ((i+1)*4):=⟨_,rfl⟩
 have hlen:news.length=(n-(i+1))*4:=by rw [hnews,List.length_drop,hl]; omega
 have hget : ∀ t,t<(n-(i+1))*4->news[t]? = cells[(i+1)*4+t]? := fun t ht=>by rw [hnews,List.getElem?_drop]
 obtain ⟨A,hA,hsrc⟩ : ∃ A:Addr,(if cap=i+1 then some (⟨b,off,none⟩:Addr) else some ⟨b,off+(i+1)*4,none⟩)=some A/\Hid (∀ t u,news[t]? = some u->w.drew.cell? (A.add t)=some u):=by
  by_cases h:cap=i+1
  .refine ⟨⟨b,off,none⟩,by simp [h],fun t u hu => ?_⟩;have h0:news.length=0:=by rw [hlen]; omega
   rw [List.length_eq_zero_iff.1 h0] at hu;simp at hu
  .refine ⟨⟨b,off+(i+1)*4,none⟩,by simp [h],fun t u hu => ?_⟩;have ht:t<(n-(i+1))*4:=by
    have:=(ae.1 hu).1
    rwa [hlen] at this
   rw [hget t ht] at hu;rw [Addr.add_lit,show off+(i+1)*4+t=off+((i+1)*4+t) by omega];exact (hc ((i+1)*4+t) (by omega)).trans hu
 have s1:Hid (news.length=(n-(i+1))*4):=hlen;have s2:Hid (∀ u∈news,u.oneCell'=true):=by
  intro u hu;rw [hnews] at hu;exact h1 u (List.mem_of_mem_drop hu)
 have s3:Hid (∀ t,t<news.length->(w.drew.cell? ⟨b,off+i*4+t,none⟩).isSome=true/\w.drew.frozen? ⟨b,off+i*4+t,none⟩=false):=by
  intro t ht;rw [hlen] at ht;rw [Nat.add_assoc];have hlt:i*4+t<cells.length:=by omega
  exact ⟨by show (w.cell? _).isSome=true; rw [hc _ hlt,ac hlt]; rfl,hf _ hlt⟩
 have hW:Hid (W1=w.drew.setCells b (off+i*4) news):=hW1.trans (by rw [hnews]);have hic:i<=cap:=by omega
 have hp0:(0:Int)<=(i:Int)+1:=by omega
 have hp1:(i:Int)+1<=(n:Int):=by omega
 have hp2:((i:Int)+1).toNat=i+1:=by omega
 have hp3:(i:Int)<=(i:Int)+1:=by omega
 have hp4 : ¬ (i:Int)=(i:Int)+1:=by omega
 have hp5:(i:Int)+1<=(cap:Int):=by omega
 clear hc hf hget hnews hlen hW1
 go_enter Tryz.func33,Tryz.ntmps33
 go_wp2_with fail
 go_region_law (refine step_append_room rfl (.tmp 22) (.tmp 25) 57 rfl 65 i0 4 Tryz.underlying57 hi0 hz1 b off i cap (by simp [Act.eval,Act.put]) A (n-(i+1)) (cap-(i+1)) news (by simp [Act.eval,Act.put]) s1.out hsrc.out s2.out (by omega) s3.out ?_; rw [<-hW.out])
 go_wp2
 go_ret
 exact ⟨rfl,rfl⟩
theorem zX {m:Nat} : ∀ {rows:List (List V)},(∀ r∈rows,r.length=m)->rows.flatten.length=rows.length*m
 | [],_=>by simp
 | r::rows,h=>by rw [List.flatten_cons,List.length_append,h r (by simp),zX fun x hx=>h x (by simp [hx]),aC,Nat.add_mul,Nat.one_mul,Nat.add_comm]
theorem YR {m:Nat} : ∀ {rows:List (List V)} (k:Nat),(∀ r∈rows,r.length=m)->rows.flatten.take (k*m)=(rows.take k).flatten
 | [],_,_=>by simp
 | r::rows,0,h=>by simp
 | r::rows,k+1,h=>by
  have hr:=h r (by simp);rw [List.flatten_cons,List.take_append,hr,List.take_of_length_le (by rw [hr,Nat.add_mul]; omega),show (k+1)*m-m=k*m by rw [Nat.add_mul]; omega,YR k fun x hx=>h x (by simp [hx]),List.take_succ_cons,List.flatten_cons]
theorem amp {m:Nat} {rows:List (List V)} (k:Nat) (h : ∀ r∈rows,r.length=m):rows.flatten.drop (k*m)=(rows.drop k).flatten:=by
 have h1:=List.take_append_drop (k*m) rows.flatten;rw [YR k h] at h1;have h2:rows.flatten=(rows.take k).flatten++(rows.drop k).flatten:=by rw [<-List.flatten_append,List.take_append_drop]
 exact List.append_cancel_left (h1.trans h2)
theorem ae3 {rows:List (List V)} (h : ∀ r∈rows,r.length=4) {i:Nat} (hi:i<rows.length) {z:List V} (hz:z.length=4) :
  qg (qg rows.flatten (i*4) (rows.flatten.drop ((i+1)*4))) ((rows.length-1)*4) z=(rows.eraseIdx i).flatten++z:=by
 have e0:(rows.eraseIdx i).flatten=(rows.take i).flatten++(rows.drop (i+1)).flatten:=by rw [List.eraseIdx_eq_take_drop_succ,List.flatten_append]
 have l1:((rows.take i).flatten).length=i*4:=by rw [zX fun r hr=>h r (List.mem_of_mem_take hr),List.length_take,Nat.min_eq_left (by omega)]
 have l2:((rows.drop (i+1)).flatten).length=(rows.length-(i+1))*4:=by rw [zX fun r hr=>h r (List.mem_of_mem_drop hr),List.length_drop]
 have l3:((rows.take i).flatten++(rows.drop (i+1)).flatten).length=(rows.length-1)*4:=by rw [List.length_append,l1,l2]; omega
 rw [e0];unfold qg;rw [YR i h,amp (i+1) h,List.take_append,List.take_of_length_le (by rw [l3]; omega),l3,Nat.sub_self,List.take_zero,List.append_nil];have l4:((List.take i rows).flatten++(List.drop (i+1) rows).flatten++List.drop (i*4+(List.drop (i+1) rows).flatten.length) rows.flatten).length=rows.length*4:=by
  rw [List.length_append,l3,List.length_drop,zX h,l2]; omega
 rw [List.drop_eq_nil_of_le (i:=(rows.length-1)*4+z.length) (by rw [l4,hz]; omega),List.append_nil]
def zIns:List V:=[.int .i64 0, .int .u64 0, .nils, .nils]
theorem clear1 {S:Store} {m:Imm} {β:Objs} {w:World} (hS:Holds S m β w) {o b base s n:Nat} {c:Nat × List V} (ho:S.get o=some c) (hob:β o = .lies b base s n) (off cap:Nat) (hle:off+4<=c.2.length) :
  ∃ w',(∀ ty,(Builtin.clear_ #[57] ty #[.slice (some ⟨b,base+off,none⟩) 1 cap]).run Tryz.prog w = .ok (.tuple #[]) w')/\Holds (S.upd o (c.1,qg c.2 off zIns)) m β w'/\Ext m β w m β w':=by
 obtain ⟨i0,hi0,hz0,hz1,hz2⟩:=info_parts aj0;obtain ⟨w',h1,h2,h3⟩:=hS.store (P:=Tryz.prog) ho hob off zIns [.int .i64 0, .int .u64 0, .slice none 0 0, .slice none 0 0]
  (.cons (.imm (.int _ _)) (.cons (.imm (.int _ _)) (.cons (.imm (.nils _)) (.cons (.imm (.nils _)) (.nil _ _))))) (by simp [Value.oneCell']) (by simpa [zIns] using hle)
 refine ⟨w',fun ty => ?_,h2,h3⟩;have hzv:(zeroValue 65).run Tryz.prog w = .ok (.agg #[.int .i64 0, .int .u64 0, .slice none 0 0, .slice none 0 0]) w:=by simp [zeroValue,typeInfo,hi0,hz0]
 have hzc:(Builtin.zeroCells (Value.agg #[.int .i64 0, .int .u64 0, .slice none 0 0, .slice none 0 0]).cells 1).toList=[.int .i64 0, .int .u64 0, .slice none 0 0, .slice none 0 0]:=by simp [Builtin.zeroCells,Value.cells,List.range_succ]
 simp [Builtin.clear_,run_underlying Tryz.underlying57,Result.andThen,hzv,hzc,h1]
theorem Holds.trim {S:Store} {m:Imm} {β:Objs} {w:World} (hS:Holds S m β w) {o s:Nat} {a z:List V} (hc:S.get o=some (s,a++z)) {b base s2 n2:Nat} (hob:β o = .lies b base s2 n2):Holds (S.upd o (s,a)) m β w:=by
 refine ⟨hS.imm,hS.apart,hS.inj,hS.fresh,fun o' ho' => ?_,fun o' ho' hn => ?_,fun o' c' hc' => ?_⟩
 .have:=hS.lt hc;rw [qf];have:S.nx<=o':=ho';rw [if_neg (by omega)]; exact hS.gone o' ho'
 .rw [qf] at hn
  by_cases e:o'=o
  .rw [if_pos e] at hn; cases hn
  .rw [if_neg e] at hn; exact hS.dead o' ho' hn
 .rw [qf] at hc'
  by_cases e:o'=o
  .rw [if_pos e] at hc'
   cases hc'
   subst e;have hl:=hS.live o' _ hc;rw [hob] at hl ⊢;obtain ⟨h1,arr,TT,h2,h3,h4,h5⟩:=hl;refine ⟨h1,arr,TT,h2,h3, ?_,fun i x hx => ?_⟩
   .simp only [List.length_append] at h4; simp only; omega
   .have hi:=(ae.1 hx).1;exact h5 i x (by simp only; rw [aT hi]; exact hx)
  .rw [if_neg e] at hc';exact hS.live o' c' hc'
theorem atr {S:Store} {oc i:Nat} {rows:List (List V)} (hg:S.get oc=some (4,rows.flatten)) (h4 : ∀ r∈rows,r.length=4) (hi:i<rows.length) :
  b9 33 [.slice oc 0 rows.length,cj i,cj (i+1)] S fun r T=>r = .slice oc 0 (rows.length-1)/\T=S.upd oc (4,(rows.eraseIdx i).flatten):=by
 intro m β w vs hS hr;obtain ⟨v0,v1,v2,rfl⟩ : ∃ v0 v1 v2,vs=[v0,v1,v2]:=by
  have:=hr.1
  match vs,this with
  | [a,b,c],_=>exact ⟨a,b,c,rfl⟩
 have r0:=hr.2 0 _ _ rfl rfl;have r1:=hr.2 1 _ _ rfl rfl;have r2:=hr.2 2 _ _ rfl rfl;have e1:v1 = .int .i64 i:=by cases r1 with | imm h=>cases h; rfl
 have e2:v2 = .int .i64 ((i:Int)+1):=by cases r2 with | imm h=>cases h; rfl
 subst e1 e2;obtain ⟨a,cap,rfl,hlc,hcm,hcase⟩:=r0.inv_slice (hS.alive hg);rcases hcase with ⟨_,h0,_⟩ | ⟨b,base,s,n,hob,hcase⟩
 .omega
 rcases hcase with h0 | ⟨rfl,hroom⟩
 .omega
 have hfl:=zX h4;obtain ⟨hs4,arr,TT,ha1,ha2,ha3,ha4⟩:=hS.cells_at hg hob;simp only at hs4 ha3 ha4;subst hs4;obtain ⟨cells,hc1,hc2,hc3,hc4⟩:=zO ha4 0 (rows.length*4) (by simp [hfl]);rw [List.drop_zero,List.take_of_length_le (by rw [hfl]; exact a9 _)] at hc3;have hcell : ∀ t,t<cells.length->w.cell? ⟨b,base+0+t,none⟩=cells[t]? := fun t ht=>by
  have:=hc2 t cells[t] (ac ht);simp [World.cell?,ha1,this,ac ht];simpa using this
 have hfz : ∀ t,t<cells.length->w.frozen? ⟨b,base+0+t,none⟩=false:=fun t ht=>by simp [World.frozen?,ha1]
 have hdl:(rows.flatten.drop ((i+1)*4)).length=(rows.length-(i+1))*4:=by rw [List.length_drop,hfl]; omega
 have hrd:RepL m β (rows.flatten.drop ((i+1)*4)) (cells.drop ((i+1)*4)):=by
  refine ⟨by rw [List.length_drop,List.length_drop,hc3.1],fun k x v hx hv => ?_⟩;rw [List.getElem?_drop] at hx hv;exact hc3.2 _ x v hx hv
 obtain ⟨w1,hst,hS1,hE1⟩:=(hS.drew).store (P:=Tryz.prog) hg hob (i*4) (rows.flatten.drop ((i+1)*4)) (cells.drop ((i+1)*4)) hrd (fun v hv=>hc4 v (List.mem_of_mem_drop hv)) (by simp only; rw [hdl,hfl]; omega);have hw1:w1=w.drew.setCells b (base+0+i*4) (cells.drop ((i+1)*4)):=by
  have k:=run_storeCells_cells (P:=Tryz.prog) b (base+i*4) (cells.drop ((i+1)*4)) 0 w.drew
   (fun j hj=>by
    rw [List.length_drop] at hj;have:=hcell (i*4+j) (by omega);show (w.cell? _).isSome=true;rw [show base+i*4+0+j=base+0+(i*4+j) by omega,this,ac (by omega)]; rfl)
   (fun j hj=>by
    rw [List.length_drop] at hj;have:=hfz (i*4+j) (by omega);show w.frozen? _=false;rw [show base+i*4+0+j=base+0+(i*4+j) by omega]; exact this)
   (fun v hv=>hc4 v (List.mem_of_mem_drop hv))
  rw [hst] at k;have:=congrArg (fun r=>match r with | .ok _ w=>some w | _=>none) k;simpa using this
 have hl1:(qg rows.flatten (i*4) (rows.flatten.drop ((i+1)*4))).length=rows.length*4:=by rw [Jc _ _ _ (by rw [hdl,hfl]; omega),hfl]
 obtain ⟨w2,hcl,hS2,hE2⟩:=clear1 hS1 (o:=oc) (c:=(4,qg rows.flatten (i*4) (rows.flatten.drop ((i+1)*4)))) (by simp [Store.upd]) hob ((rows.length-1)*4) (cap-(rows.length-1)) (by simp only; rw [hl1]; omega);have hn1:i+(rows.length-(i+1))=rows.length-1:=by omega
 have hd:=agq b (base+0) rows.length cap i cells w (by rw [hc1]) hi hlc hcm hcell hfz hc4 w1 hw1 w2 (by
  intro ty;rw [hn1,show rows.length-(rows.length-1)=1 by omega];exact hcl ty)
 refine hd.mono ?_;rintro e w' ⟨rfl,rfl⟩;refine ⟨_, .slice oc 0 (rows.length-1),_,m,β,rfl,⟨rfl,rfl⟩, ?_, ?_, ?_⟩
 .rw [hn1];exact .slice oc 0 _ b base 4 n cap _ hob (by omega) hcm (.inr ⟨rfl,hroom⟩)
 .have e3:(S.upd oc (4,qg rows.flatten (i*4) (rows.flatten.drop ((i+1)*4)))).upd oc (4,qg (qg rows.flatten (i*4) (rows.flatten.drop ((i+1)*4))) ((rows.length-1)*4) zIns)=S.upd oc (4,(rows.eraseIdx i).flatten++zIns):=by
   rw [ae3 h4 hi rfl];refine Store.ext' (funext fun o2 => ?_) rfl;simp only [Store.upd];split<;>rfl
  rw [e3] at hS2;have h:=hS2.trim (o:=oc) (s:=4) (a:=(rows.eraseIdx i).flatten) (z:=zIns) (by simp [Store.upd]) hob;have e5:(S.upd oc (4,(rows.eraseIdx i).flatten++zIns)).upd oc (4,(rows.eraseIdx i).flatten)=S.upd oc (4,(rows.eraseIdx i).flatten):=by
   refine Store.ext' (funext fun o2 => ?_) rfl;simp only [Store.upd];split<;>rfl
  rw [<-e5];exact h
 .exact (Ext.drew m β w).trans (hE1.trans hE2)
end Go.Vw
