import Derived.Test.YtkfllaokjaldnaaGreatC15
import Derived.Test.YtkfllaokjaldnaaGreatC14
import Derived.Test.YtkfllaokjaldnaaGreatC9
import Derived.Test.YtkfllaokjaldnaaGreatC12
import Derived.Test.YtkfllaokjaldnaaGreatC10
import Derived.Test.YtkfllaokjaldnaaGreatC7
import Derived.Test.YtkfllaokjaldnaaGreatC8
/- Part of the proof. -/
set_option linter.unusedVariables false
set_option linter.unusedSimpArgs false
set_option maxRecDepth 10000
set_option maxHeartbeats 8000000
namespace Go.Vw
open Go.Proofs Go.RowKit
inductive Rows {α:Type} (T:Store) (tys:List Ty) (enc:α→V):List α→List (List V)→List Nat→Prop
 | nil:Rows T tys enc [] [] []
 | cons {x:α} {r:List V} {ii:List Nat} {xs:List α} {rs:List (List V)} {ids:List Nat} (h:OwL T tys r (enc x).cells ii) (t:Rows T tys enc xs rs ids):Rows T tys enc (x::xs) (r::rs) (ii++ids)
section
variable {α:Type} {T T':Store} {tys:List Ty} {enc:α→V}
theorem ZW (hs : ∀ x,(enc x).cells.length=tys.length) : ∀ {xs:List α} {cells:List V} {ids:List Nat},OwL T (reps xs.length tys) cells (je enc xs) ids → ∃ rs,cells=rs.flatten∧rs.length=xs.length∧Rows T tys enc xs rs ids
 | [],cells,ids,h=>by
  rw [List.length_nil,reps_zero] at h
  cases h with
  | nil=>exact ⟨[],rfl,rfl, .nil⟩
 | x::xs,cells,ids,h=>by
  rw [List.length_cons,zI] at h;obtain ⟨r1,r2,x1,x2,i1,i2,rfl,hx,rfl,k1,k2⟩:=h.split;have e:je enc (x::xs)=(enc x).cells++je enc xs:=by simp [je]
  rw [e] at hx;obtain ⟨rfl,rfl⟩:=List.append_inj hx (by rw [hs,k1.len.2]);obtain ⟨rs,rfl,hl,hr⟩:=ZW hs k2;exact ⟨r1::rs,rfl,by simp [hl], .cons k1 hr⟩
theorem Rows.owl {xs:List α} {rs:List (List V)} {ids:List Nat} (h:Rows T tys enc xs rs ids):OwL T (reps xs.length tys) rs.flatten (je enc xs) ids:=by
 induction h with
 | nil=>exact .nil
 | @cons x r ii xs rs ids h t ih =>
  have e:je enc (x::xs)=(enc x).cells++je enc xs:=by simp [je]
  rw [List.length_cons,zI,List.flatten_cons,e];exact h.append ih
theorem Rows.mono {xs:List α} {rs:List (List V)} {ids:List Nat} (h:Rows T tys enc xs rs ids):(∀ o∈ids,T'.get o=T.get o)→Rows T' tys enc xs rs ids:=by
 induction h with
 | nil=>exact fun _ => .nil
 | cons h t ih=>exact fun hk => .cons (h.mono fun o ho=>hk o (by simp [ho])) (ih fun o ho=>hk o (by simp [ho]))
theorem Rows.len {xs:List α} {rs:List (List V)} {ids:List Nat} (h:Rows T tys enc xs rs ids):rs.length=xs.length ∧ ∀ r∈rs,r.length=tys.length:=by
 induction h with
 | nil=>simp
 | cons h t ih=>exact ⟨by simp [ih.1],fun r hr=>by rcases List.mem_cons.1 hr with rfl | hr; exact h.len.1; exact ih.2 r hr⟩
theorem Rows.del {κ:Type} (p:κ→List V→Bool) (nx:κ→List V→κ) (q:κ→α→Bool) (ny:κ→α→κ) {xs:List α} {rs:List (List V)} {ids:List Nat} (h:Rows T tys enc xs rs ids) :
  (∀ x r ii,x∈xs→OwL T tys r (enc x).cells ii→(∀ o∈ii,o∈ids) → ∀ a,p a r=q a x∧nx a r=ny a x) → ∀ a, ∃ ids',Rows T tys enc (delG q ny a xs).1 (delG p nx a rs).1 ids'∧ids'.Sublist ids∧(delG p nx a rs).2=(delG q ny a xs).2:=by
 induction h with
 | nil=>exact fun _ a=>⟨[], .nil,List.Sublist.refl _,rfl⟩
 | @cons x r ii xs rs ids h t ih =>
  intro hk a;obtain ⟨h1,h2⟩:=hk x r ii (by simp) h (fun o ho=>by simp [ho]) a;obtain ⟨ids',k1,k2,k3⟩:=ih (fun y s jj hy ho hs=>hk y s jj (by simp [hy]) ho fun o h=>by simp [hs o h]) (ny a x);simp only [delG,h1,h2]
  by_cases hq:q a x=true
  ·rw [if_pos hq,if_pos hq];exact ⟨ids',k1,k2.trans (List.sublist_append_right _ _),k3⟩
  ·rw [if_neg hq,if_neg hq];exact ⟨ii++ids', .cons h k1,(List.Sublist.refl ii).append k2,k3⟩
end
theorem Rows.at {α:Type} {T:Store} {tys:List Ty} {enc:α→V} {xs:List α} {rs:List (List V)} {ids:List Nat} (h:Rows T tys enc xs rs ids) : ∀ {k:Nat} {x:α},xs[k]? = some x → ∃ (r1:List (List V)) (r:List V) (r2:List (List V)) (i1 ii i2:List Nat),rs=r1++r::r2∧r1.length=k∧ids=i1++(ii++i2)∧OwL T tys r (enc x).cells ii ∧
  ∀ (T':Store) (r':List V) (x':α) (ii':List Nat),(∀ o∈i1++i2,T'.get o=T.get o)→OwL T' tys r' (enc x').cells ii'→Rows T' tys enc (xs.set k x') (r1++r'::r2) (i1++(ii'++i2)):=by
 induction h with
 | nil=>intro k x hx; simp at hx
 | @cons y r ii xs rs ids h t ih =>
  intro k x hx
  cases k with
  | zero =>
   simp only [List.getElem?_cons_zero,Option.some.injEq] at hx;subst hx;exact ⟨[],r,rs,[],ii,ids,rfl,rfl,rfl,h,fun T' r' x' ii' hk ho=>Rows.cons (ids:=ids) ho (t.mono fun o hm=>hk o (by simpa using hm))⟩
  | succ k =>
   obtain ⟨r1,s,r2,i1,jj,i2,e1,e2,e3,e4,e5⟩:=ih (k:=k) (x:=x) (by simpa using hx);subst e1; subst e3;refine ⟨r::r1,s,r2,ii++i1,jj,i2,rfl,by simp [e2],by simp,e4,fun T' r' x' ii' hk ho => ?_⟩;have:=Rows.cons (x:=y) (h.mono fun o hm=>hk o (by simp [hm])) (e5 T' r' x' ii' (fun o hm=>hk o (by
    rcases List.mem_append.1 hm with hm | hm<;>simp [hm])) ho)
   simpa using this
theorem Jm {m:Nat} {r1:List (List V)} {r:List V} {r2:List (List V)} {k q:Nat} {w:V} (h1 : ∀ s∈r1,s.length=m) (hk:r1.length=k) (hr:r[q]? = some w):(r1++r::r2).flatten[k*m+q]? = some w:=by
 have hq:q<r.length:=(List.getElem?_eq_some_iff.1 hr).1;have hl:=qY h1;rw [hk] at hl;rw [List.flatten_append,List.flatten_cons, ←hl,List.getElem?_append_right (by omega),Nat.add_sub_cancel_left,List.getElem?_append_left hq];exact hr
theorem JY {m:Nat} {r1:List (List V)} {r:List V} {r2:List (List V)} {k q:Nat} {w:V} (h1 : ∀ s∈r1,s.length=m) (hk:r1.length=k) (hq:q<r.length):(r1++r::r2).flatten.set (k*m+q) w=(r1++r.set q w::r2).flatten:=by
 have hl:=qY h1;rw [hk] at hl;rw [List.flatten_append,List.flatten_cons, ←hl,List.set_append_right _ _ (by omega),Nat.add_sub_cancel_left,List.set_append_left _ _ hq,List.flatten_append,List.flatten_cons]
theorem ins_row {T:Store} {x:Ss.Ins} {r:List V} {ii:List Nat} (h:OwL T insD r (jg x).cells ii) : ∃ oa ou,r=[vint x.op,vu x.n, .slice oa 0 x.args.length, .slice ou 0 x.outs.length]∧ii=[oa,ou]∧T.get oa=some (1,x.args.map vint)∧T.get ou=some (1,x.outs.map vint):=by
 rw [jJ] at h;generalize hA:vl vint x.args=A at h;generalize hB:vl vint x.outs=B at h
 cases h with
 | c h1 h=>cases h with
  | c h2 h=>cases h with
   | @s _ _ _ _ ca ys i j oa ho hs d h=>cases h with
    | @s _ _ _ _ cb zs i2 j2 ou ho2 hs2 d2 h=>cases h with
     | nil =>
      have e1:ys=x.args.map vint:=by
       have:V.list (x.args.map vint)=V.list ys:=hA;exact (V.list.inj this).symm
      have e2:zs=x.outs.map vint:=by
       have:V.list (x.outs.map vint)=V.list zs:=hB;exact (V.list.inj this).symm
      subst e1; subst e2;have c1:=zf (n:=(x.args.map vint).length*1) (by rw [←KW]; exact d);have c2:=zf (n:=(x.outs.map vint).length*1) (by rw [←KW]; exact d2);rw [qN,qu] at c1 c2;refine ⟨oa,ou,by simp, ?_, ?_, ?_⟩
      ·rw [c1.2,c2.2]; rfl
      ·rw [ho,c1.1]; rfl
      ·rw [ho2,c2.1]; rfl
theorem block_row {T:Store} {b:Ss.Block} {r:List V} {ii:List Nat} (h:OwL T blkD r (jb b).cells ii) : ∃ (op oc oe:Nat) (rs:List (List V)) (ce:List V) (ip ic ie:List Nat),r=[.slice op 0 b.params.length, .slice oc 0 b.code.length,vint b.term.kind,vint b.term.arg, .slice oe 0 b.term.to.length,vl vint b.term.args]∧ii=op::oc::(ic++oe::ie) ∧
  T.get op=some (1,b.params.map vint)∧T.get oc=some (4,rs.flatten)∧Rows T insD jg b.code rs ic∧T.get oe=some (2,ce)∧OwL T (reps b.term.to.length Ko) ce (je jf b.term.to) ie:=by
 rw [jz] at h;generalize hA:vl vint b.params=A at h;generalize hB:vl jg b.code=B at h;generalize hC:vl jf b.term.to=C at h
 cases h with
 | @s _ _ _ _ ca ys i j op ho hs d h=>cases h with
  | @s _ _ _ _ cb zs i2 j2 oc ho2 hs2 d2 h=>cases h with
   | c h1 h=>cases h with
    | c h2 h=>cases h with
     | @s _ _ _ _ cc us i3 j3 oe ho3 hs3 d3 h=>cases h with
      | c h3 h=>cases h with
       | nil =>
        have e1:ys=b.params.map vint:=by
         have:V.list (b.params.map vint)=V.list ys:=hA;exact (V.list.inj this).symm
        have e2:zs=b.code.map jg:=by
         have:V.list (b.code.map jg)=V.list zs:=hB;exact (V.list.inj this).symm
        have e3:us=b.term.to.map jf:=by
         have:V.list (b.term.to.map jf)=V.list us:=hC;exact (V.list.inj this).symm
        subst e1; subst e2; subst e3;have c1:=zf (n:=(b.params.map vint).length*1) (by rw [←KW]; exact d);rw [qN,qu] at c1;rw [List.length_map,qN] at d2 d3;obtain ⟨rs,rfl,hl,hr⟩:=ZW (fun x=>by rw [jJ]; rfl) d2;refine ⟨op,oc,oe,rs,cc,[],i2,i3,by simp, ?_, ?_,ho2,hr,ho3,d3⟩
        ·rw [c1.2]; simp
        ·rw [ho,c1.1]; rfl
theorem jcC {T:Store} {b:Ss.Block} {op oc oe:Nat} {rs:List (List V)} {ce:List V} {ic ie:List Nat} (h1:T.get op=some (1,b.params.map vint)) (h2:T.get oc=some (4,rs.flatten)) (h3:Rows T insD jg b.code rs ic) (h4:T.get oe=some (2,ce)) (h5:OwL T (reps b.term.to.length Ko) ce (je jf b.term.to) ie) :
  OwL T blkD [.slice op 0 b.params.length, .slice oc 0 b.code.length,vint b.term.kind,vint b.term.arg, .slice oe 0 b.term.to.length,vl vint b.term.args] (jb b).cells (op::oc::(ic++oe::ie)):=by
 rw [jz];have hP:OwL T (.s [.c]::[.s insD, .c, .c, .s Ko, .c]) (.slice op 0 b.params.length::[.slice oc 0 b.code.length,vint b.term.kind,vint b.term.arg, .slice oe 0 b.term.to.length,vl vint b.term.args]) (vl vint b.params::[vl jg b.code,vint b.term.kind,vint b.term.arg,vl jf b.term.to,vl vint b.term.args]) (op::oc::(ic++oe::ie)):=by
  refine OwL.slice (s:=1) (enc:=vint) (fun _=>rfl) (fun _=>rfl) b.params (by rw [qu]; exact h1) ?_;have h6:=h3.owl;have t1:OwL T [.s Ko, .c] [.slice oe 0 b.term.to.length,vl vint b.term.args] [vl jf b.term.to,vl vint b.term.args] (oe::ie):=by
   have:=OwL.s (S:=T) (o:=oe) (tys:=Ko) (cells:=ce) (ys:=b.term.to.map jf) (i:=ie) (j:=[]) h4 (fun y hy=>(by
    obtain ⟨e,_,rfl⟩:=List.mem_map.1 hy;exact ⟨by rw [qq]; rfl,qp e⟩)) (by rw [List.length_map,qN]; exact h5) (.c (x:=vl vint b.term.args) rfl .nil)
   rw [List.length_map,List.append_nil] at this;exact this
  have:=OwL.s (S:=T) (o:=oc) (tys:=insD) (cells:=rs.flatten) (ys:=b.code.map jg) (i:=ic) (j:=oe::ie) h2 (fun y hy=>(by
   obtain ⟨e,_,rfl⟩:=List.mem_map.1 hy;exact ⟨by rw [jJ]; rfl,qo e⟩)) (by rw [List.length_map,qN]; exact h6) (.c (x:=vint b.term.kind) rfl (.c (x:=vint b.term.arg) rfl t1))
  rw [List.length_map] at this;exact this
 exact hP
/-! A table of lists, each one's own. -/
abbrev rowD:List Ty:=[.s [.c]]
theorem row_row {T:Store} {l:List Int} {r:List V} {ii:List Nat} (h:OwL T rowD r (vl vint l).cells ii) : ∃ o,r=[.slice o 0 l.length]∧ii=[o]∧T.get o=some (1,l.map vint):=by
 rw [Ya] at h;generalize hA:vl vint l=A at h
 cases h with
 | @s _ _ _ _ ca ys i j op ho hs d h=>cases h with
  | nil =>
   have e1:ys=l.map vint:=by
    have:V.list (l.map vint)=V.list ys:=hA;exact (V.list.inj this).symm
   subst e1;have c1:=zf (n:=(l.map vint).length*1) (by rw [←KW]; exact d);rw [qN,qu] at c1;refine ⟨op,by simp, ?_, ?_⟩
   ·rw [c1.2]; rfl
   ·rw [ho,c1.1]; rfl
theorem row_mk {T:Store} {l:List Int} {o:Nat} (h:T.get o=some (1,l.map vint)):OwL T rowD [.slice o 0 l.length] (vl vint l).cells [o]:=by
 rw [Ya];exact OwL.slice (enc:=vint) (fun _=>rfl) (fun _=>rfl) l (by rw [qu]; exact h) .nil
def Tab (T:Store) (N oa:Nat) (t:List (List Int)):Prop := ∃ (rs:List (List V)) (ids:List Nat),T.get oa=some (1,rs.flatten)∧Rows T rowD (vl vint) t rs ids∧ids.Nodup ∧ ∀ o∈ids,N≤o
theorem Tab.mono {T T':Store} {N oa:Nat} {t:List (List Int)} (h:Tab T N oa t) (h0:T'.get oa=T.get oa) (h1 : ∀ o,N≤o→(T.get o).isSome=true→T'.get o=T.get o):Tab T' N oa t:=by
 obtain ⟨rs,ids,g,hr,hn,hi⟩:=h;exact ⟨rs,ids,h0.trans g,hr.mono fun o ho=>h1 o (hi o ho) (hr.owl.alive o ho),hn,hi⟩
theorem rows1_flat {T:Store} {t:List (List Int)} {rs:List (List V)} {ids:List Nat} (h:Rows T rowD (vl vint) t rs ids):rs.flatten.length=t.length:=by
 have h1:=h.len;rw [qY (m:=1) fun r hr=>h1.2 r hr,h1.1]; omega
theorem Tab.at {T:Store} {N oa:Nat} {t:List (List Int)} (h:Tab T N oa t) {v:Nat} (hv:v<t.length) : ∃ (cells:List V) (o:Nat),T.get oa=some (1,cells)∧cells.length=t.length∧cells[v]? = some (.slice o 0 t[v].length)∧T.get o=some (1,t[v].map vint)∧N≤o ∧
  ∀ (T':Store) (o':Nat) (l':List Int),N≤o'→(T.get o'=none∨o'=o)→(∀ x,N≤x→x≠o→(T.get x).isSome=true→T'.get x=T.get x)→T'.get o'=some (1,l'.map vint)→T'.get oa=some (1,cells.set v (.slice o' 0 l'.length))→Tab T' N oa (t.set v l'):=by
 obtain ⟨rs,ids,g,hr,hn,hi⟩:=h;obtain ⟨r1,r,r2,i1,ii,i2,rfl,hl,rfl,hrow,hput⟩:=hr.at (List.getElem?_eq_getElem hv);obtain ⟨o,rfl,rfl,ho⟩:=row_row hrow;have hlen:=hr.len;have h1 : ∀ s∈r1,s.length=1:=fun s hs=>hlen.2 s (by simp [hs])
 have hg:=Jm (m:=1) (r1:=r1) (r:=[.slice o 0 t[v].length]) (r2:=r2) (q:=0) (w := .slice o 0 t[v].length) h1 hl rfl;have alive:=hr.owl.alive;refine ⟨_,o,g,rows1_flat hr,by simpa using hg,ho,hi o (by simp),fun T' o' l' hN ho' hk hg' hga => ?_⟩;have hs:=JY (m:=1) (r1:=r1) (r:=[.slice o 0 t[v].length]) (r2:=r2) (q:=0) (w := .slice o' 0 l'.length) h1 hl (by simp);simp only [Nat.mul_one,Nat.add_zero,List.set_cons_zero] at hs;rw [hs] at hga;have hno : ∀ x∈i1++i2,x≠o:=by
  rintro x hx rfl;have hc:=List.nodup_iff_count.1 hn x;have hc1:1≤(i1++i2).count x:=List.count_pos_iff.2 hx;simp only [List.count_append,List.count_cons,beq_self_eq_true,if_true,List.count_nil] at hc hc1;omega
 refine ⟨_,i1++([o']++i2),hga,hput T' [.slice o' 0 l'.length] l' [o'] (fun x hx => ?_) (row_mk hg'), ?_,fun x hx => ?_⟩
 ·have hxm:x∈i1++([o]++i2):=by
   rcases List.mem_append.1 hx with h | h<;>simp [h]
  exact hk x (hi x hxm) (hno x hx) (alive x hxm)
 ·rcases ho' with ho' | rfl
  ·have hnm : ∀ x∈i1++i2,x≠o':=by
    rintro x hx rfl;have:=alive x (by rcases List.mem_append.1 hx with h | h<;>simp [h]);rw [ho'] at this; cases this
   refine List.nodup_iff_count.2 fun x => ?_
   have hc:=List.nodup_iff_count.1 hn x;simp only [List.count_append,List.count_cons,List.count_nil] at hc ⊢
   by_cases e:o'=x
   ·have hz:(i1++i2).count x=0:=List.count_eq_zero.2 fun hm=>hnm x hm e.symm
    simp only [List.count_append] at hz;have:(if (o'==x)=true then 1 else 0)≤1:=by split<;>omega
    omega
   ·have:(o'==x)=false:=by simpa using e
    rw [this];have h0:(if (o==x)=true then 1 else 0)≥0:=Nat.zero_le _;simp only [Bool.false_eq_true,if_false];omega
  ·exact hn
 ·simp only [List.mem_append,List.mem_singleton] at hx;rcases hx with h | h | h
  ·exact hi x (by simp [h])
  ·omega
  ·exact hi x (by simp [h])
/-! Blocks of one's own, of which one is turned at a time. -/
structure BInv (S H:Store) (hs:List Nat) (ob:Nat) (bs:List Ss.Block) (T:Store) (rs:List (List V)) (ids:List Nat):Prop where
 old:Agree S T
 hd : ∀ o∈hs,T.get o=H.get o
 al : ∀ o∈hs,(H.get o).isSome=true
 cb:T.get ob=some (6,rs.flatten)
 own:Rows T blkD jb bs rs ids
 nd:(hs++ob::ids).Nodup
 lt : ∀ o∈hs++ob::ids,S.nx≤o
theorem some_lt {T:Store} (hw:T.Wf) {o:Nat} (h:(T.get o).isSome=true):o<T.nx:=by
 cases hg:T.get o with
 | none=>rw [hg] at h; cases h
 | some c=>exact jy hw hg
theorem BInv.all_lt {S H:Store} {hs:List Nat} {ob:Nat} {bs:List Ss.Block} {T:Store} {rs:List (List V)} {ids:List Nat} (h:BInv S H hs ob bs T rs ids) (hw:T.Wf) : ∀ o∈hs++ob::ids,o<T.nx:=fun o ho=>by
 refine some_lt hw ?_;rcases List.mem_append.1 ho with ho | ho
 ·rw [h.hd o ho]; exact h.al o ho
 ·rcases List.mem_cons.1 ho with rfl | ho
  ·rw [h.cb]; rfl
  ·exact h.own.owl.alive o ho
theorem BInv.at {S H:Store} {hs:List Nat} {ob:Nat} {bs:List Ss.Block} {T:Store} {rs:List (List V)} {ids:List Nat} (h:BInv S H hs ob bs T rs ids) (hw:T.Wf) {i:Nat} (hi:i<bs.length) :
  ∃ (r1:List (List V)) (r2:List (List V)) (i1 i2:List Nat) (op oc oe:Nat) (rc:List (List V)) (ce:List V) (ip ic ie:List Nat),rs=r1++[.slice op 0 bs[i].params.length, .slice oc 0 bs[i].code.length,vint bs[i].term.kind,vint bs[i].term.arg, .slice oe 0 bs[i].term.to.length,vl vint bs[i].term.args]::r2∧(∀ s∈r1,s.length=6)∧r1.length=i ∧
   T.get op=some (1,bs[i].params.map vint)∧T.get oc=some (4,rc.flatten)∧Rows T insD jg bs[i].code rc ic∧T.get oe=some (2,ce)∧OwL T (reps bs[i].term.to.length Ko) ce (je jf bs[i].term.to) ie ∧
   ids=i1++((op::oc::(ic++oe::ie))++i2)∧(hs++ob::(op::oc::(ic++oe::ie))).Nodup ∧
   ∀ (T':Store) (r':List V) (b':Ss.Block) (ii':List Nat),T.nx≤T'.nx→(∀ o,o<T.nx→o≠ob→o∉op::oc::(ic++oe::ie)→T'.get o=T.get o)→T'.get ob=some (6,(r1++r'::r2).flatten)→OwL T' blkD r' (jb b').cells ii'→ii'.Nodup→(∀ o∈ii',o∈op::oc::(ic++oe::ie)∨T.nx≤o) →
    BInv S H hs ob (bs.set i b') T' (r1++r'::r2) (i1++(ii'++i2)):=by
 have hlt:=h.all_lt hw;obtain ⟨old,hd,al,cb,own,nd,lt⟩:=h;obtain ⟨r1,r,r2,i1,ii,i2,rfl,hl,rfl,hb,hput⟩:=own.at (List.getElem?_eq_getElem hi);have hr6:=own.len.2;obtain ⟨op,oc,oe,rc,ce,ip,ic,ie,rfl,rfl,hop,hoc,hrc,hoe,hie⟩:=block_row hb;have sub:List.Sublist (op::oc::(ic++oe::ie)) (i1++((op::oc::(ic++oe::ie))++i2)):=(List.sublist_append_left _ _).trans (List.sublist_append_right _ _);refine ⟨r1,r2,i1,i2,op,oc,oe,rc,ce,ip,ic,ie,rfl,fun s hs=>hr6 s (by simp [hs]),hl,hop,hoc,hrc,hoe,hie,rfl,List.Sublist.nodup ((List.Sublist.refl hs).append (sub.cons_cons ob)) nd, ?_⟩;intro T' r' b' ii' hnx hk hcb how hnd hin;generalize op::oc::(ic++oe::ie)=ii at *
 have cnt : ∀ o,(hs++ob::(i1++(ii++i2))).count o≤1:=fun o=>List.nodup_iff_count.1 nd o
 simp only [List.count_append,List.count_cons] at cnt;have pos : ∀ {o:Nat} {l:List Nat},o∈l→1≤l.count o:=fun h=>List.count_pos_iff.2 h
 have nob : ∀ o,o∈hs∨o∈i1∨o∈ii∨o∈i2→o≠ob:=by
  rintro o ho rfl;have c:=cnt o;simp only [beq_self_eq_true,if_true] at c;rcases ho with ho | ho | ho | ho<;>(have:=pos ho; omega)
 have nii : ∀ o,o∈hs∨o∈i1∨o∈i2→o∉ii:=by
  intro o ho hm;have c:=cnt o;have:=pos hm;rcases ho with ho | ho | ho<;>(have:=pos ho; omega)
 have keep : ∀ o,o∈hs∨o∈i1∨o∈i2→T'.get o=T.get o:=fun o ho=>by
  refine hk o (hlt o ?_) (nob o ?_) (nii o ho)
  ·rcases ho with ho | ho | ho<;>simp [ho]
  ·rcases ho with ho | ho | ho<;>simp [ho]
 refine ⟨⟨Nat.le_trans old.1 hnx,fun o ho => ?_⟩,fun o ho=>(keep o (.inl ho)).trans (hd o ho),al,hcb,hput T' r' b' ii' (fun o ho=>keep o ?_) how, ?_,fun o ho => ?_⟩
 ·rw [hk o (Nat.lt_of_lt_of_le ho old.1) ?_ ?_]
  ·exact old.2 o ho
  ·rintro rfl;have:=lt o (by simp); omega
  ·intro hm;have:=lt o (by simp [hm]); omega
 ·rcases List.mem_append.1 ho with ho | ho
  ·exact .inr (.inl ho)
  ·exact .inr (.inr ho)
 ·refine List.nodup_iff_count.2 fun o => ?_
  simp only [List.count_append,List.count_cons];have c:=cnt o
  by_cases hm:o∈ii'
  ·have h1:=List.nodup_iff_count.1 hnd o;rcases hin o hm with hm2 | hge
   ·have:=pos hm2; omega
   ·have z1:hs.count o=0:=List.count_eq_zero.2 fun h=>by have:=hlt o (by simp [h]); omega
    have z2:i1.count o=0:=List.count_eq_zero.2 fun h=>by have:=hlt o (by simp [h]); omega
    have z3:i2.count o=0:=List.count_eq_zero.2 fun h=>by have:=hlt o (by simp [h]); omega
    have z4:(if (ob==o)=true then 1 else 0)=0:=by
     have:=hlt ob (by simp);rw [if_neg];simp only [beq_iff_eq]; omega
    omega
  ·have:ii'.count o=0:=List.count_eq_zero.2 hm;omega
 ·simp only [List.mem_append,List.mem_cons] at ho;rcases ho with ho | ho | ho | ho | ho
  ·exact lt o (by simp [ho])
  ·exact lt o (by simp [ho])
  ·exact lt o (by simp [ho])
  ·rcases hin o ho with h | h
   ·exact lt o (by simp [h])
   ·have:=old.1; omega
  ·exact lt o (by simp [ho])
end Go.Vw
namespace Ss
open Go.Vw.G
def UpEnds (near:List Int):Nat→Int→Prop
 | 0,b=>b<0
 | k+1,b=>b<0∨(okIx near b∧UpEnds near k (near.getD b.toNat 0))
end Ss
namespace Go.Vw
open Go.Proofs Go.RowKit
def encFar (M:Ss.Far):List V:=M.map fun e => .tuple [.agg [.int .i64 e.1.1, .int .i64 e.1.2], .int .u64 e.2]
end Go.Vw
namespace Ss
open Go.Vw Go.Vw.G
theorem eqF_len {α:Type} {p:α→α→Bool} : ∀ {l m:List α},eqF p l m=true→l.length=m.length
 | [],[],_=>rfl
 | [],_::_,h=>by simp [eqF] at h
 | _::_,[],h=>by simp [eqF] at h
 | x::l,y::m,h=>by
  have:eqF p l m=true:=by
   simp only [eqF,Bool.and_eq_true] at h
   first | exact h.2 | exact h.2.2
  simp [eqF_len this]
theorem ends_of {g:List (List Nat)} (hg:Ok g) {near:List Int} (hN:NearOk g near) : ∀ (k:Nat) (b:Nat),b∈order g→rk g (order g) b<k→UpEnds near k b
 | 0,b,_,h=>by omega
 | k+1,b,hb,h=>by
  have ho:=order_ok hg;have hbl:=ho.lt b hb;have hok:okIx near (b:Int):=⟨by omega,by rw [hN.len]; omega⟩
  refine .inr ⟨hok, ?_⟩;rw [Int.toNat_natCast]
  by_cases hb0:b=0
  ·subst hb0;have:near.getD 0 0 = -1:=hN.zero;rw [this]
   cases k with
   | zero=>show (-1:Int)<0; omega
   | succ k=>exact .inl (by omega)
  ·obtain ⟨p,q1,q2,q3,q4,q5⟩:=hN.near b hb hb0;have hnd:near.getD b 0=(p:Int):=q1;rw [hnd];have hr:=q4.rk ho q2 hb q3;exact ends_of hg hN k p q2 (by omega)
structure Graphic (f:Fn):Prop where
 ok:Ok (nats (succs f.blocks))
 right:G.right (succs f.blocks)=true
 ord:G.ordI (succs f.blocks)=order (nats (succs f.blocks))
 near:G.nearI (succs f.blocks)=rNear (nats (succs f.blocks))
 len:(order (nats (succs f.blocks))).length=f.blocks.length
 lt : ∀ n∈order (nats (succs f.blocks)),n<f.blocks.length
 nlen:(rNear (nats (succs f.blocks))).length=f.blocks.length
 ends : ∀ n∈order (nats (succs f.blocks)),UpEnds (rNear (nats (succs f.blocks))) 256 n
 blocks:f.blocks.length≤256
theorem nats_succs_len (bs:List Block):(nats (succs bs)).length=bs.length:=by rw [nats_length,succs,List.length_map]
theorem graphic {e:Env} {f:Fn} (h:check e f=true):Graphic f:=by
 obtain ⟨h1,ds,hds,hsh,hB⟩:=check_spec h;have hr:G.right (succs f.blocks)=true:=by
  unfold shapeOk at hsh;simp only [Bool.and_eq_true] at hsh;exact hsh.1.1.1.1
 have hol:(G.ordI (succs f.blocks)).length=f.blocks.length:=by
  unfold shapeOk at hsh;simp only [Bool.and_eq_true,decide_eq_true_eq] at hsh;exact hsh.1.1.1.2
 have hok:=right_ok hr;have e1:G.ordI (succs f.blocks)=order (nats (succs f.blocks)):=by simp [G.ordI,hr]
 have e2:G.nearI (succs f.blocks)=rNear (nats (succs f.blocks)):=by simp [G.nearI,hr]
 have hN:=rNear_ok hok;have ho:=order_ok hok;have hl:=nats_succs_len f.blocks;rw [e1] at hol;have hmx:=hok.max;rw [hl] at hmx;exact ⟨hok,hr,e1,e2,hol,fun n hn=>by rw [←hl]; exact ho.lt n hn,by rw [hN.len,hl],fun n hn=>ends_of hok hN 256 n hn (by have:=rk_lt ho hn; omega),hmx⟩
theorem check_small {e:Env} {f:Fn} (h:check e f=true):f.small=true:=by
 have:=(check_spec h).1;unfold checkHead at this;simp only [Bool.and_eq_true] at this;exact this.1.1.1.1.2
end Ss
namespace Go.Vw
open Go.Proofs Go.RowKit
theorem jbm {f:Ss.Fn} (hf:f.Fits):Fits (Ss.succs f.blocks):=by
 refine ⟨by rw [Ss.succs,List.length_map]; have:=hf.2.2.1; omega,fun l hl => ?_⟩;obtain ⟨b,hb,rfl⟩:=List.mem_map.1 hl;have:=(hf.2.2.2 b hb).2.2.2.2.1.1;rw [Ss.rowOf,List.length_map]; omega
def vToInt:V→Int
 | .int _ n=>n
 | _=>0
def insOf (S:Store):List V→Ss.Ins
 | [.int _ op, .int _ n, .slice oa _ _,_]=>⟨op,n,((S.get oa).getD (0,[])).2.map vToInt,[]⟩
 | _=>default
structure RunInv (S:Store) (p4 pg pr pm pf ot ob:Nat) (hd:List V) (ts near:List Int) (bs:List Ss.Block) (M:Ss.Far) (T:Store) (rs:List (List V)) (ids:List Nat):Prop where
 old:Agree S T
 c4:T.get p4=some (4,[V.nils,V.nils,V.nils,V.nils])
 cg:T.get pg=some (4,hd)
 cr:T.get pr=some (1,[vl vint near])
 cm:T.get pm=some (0,encFar M)
 cf:T.get pf=some (1,[.map pm])
 ct:T.get ot=some (1,ts.map vint)
 cb:T.get ob=some (6,rs.flatten)
 own:Rows T blkD jb bs rs ids
 nd:(p4::pg::pr::pf::pm::ot::ob::ids).Nodup
 lt : ∀ o∈p4::pg::pr::pf::pm::ot::ob::ids,S.nx≤o
 fits : ∀ b∈bs, ∀ x∈b.code,x.Fits∧(x.op=257→x.args≠[]∧x.n≤8589934592)
 len : ∀ b∈bs,b.code.length<2^62
end Go.Vw
namespace Ss
/-! ### An instruction more -/
def moreX (ts:List Int) (b:Block):Ins:=b.params.foldl (fun (x:Ins) (p:Int)=>if 0≤p∧p<(ts.length:Int)∧ts.getD p.toNat 0=126 then ⟨124,0,[p,p],[(ts.length:Int)]⟩ else x) ⟨256,9,[],[(ts.length:Int)]⟩
def addB (b:Block) (x:Ins):Block:=⟨b.params,b.code++[x],b.term⟩
def more (f:Fn) (j:Nat):Fn:=⟨f.sig,f.types++[126],f.blocks.set j (addB (f.blocks.getD j default) (moreX f.types (f.blocks.getD j default)))⟩
theorem putCode_len' {i:Int} : ∀ {l:List Ins} {k:Nat} {ds d:List Def},putCode i k ds l=some d→d.length=ds.length:=fun h=>(Yt h).1
theorem qh : ∀ {l:List Block} {i:Nat} {ds d:List Def},putBlocks i ds l=some d → ∀ (j:Nat) (b:Block),l[j]? = some b → ∀ v∈b.params,dAt d v=⟨true,((i+j:Nat):Int), -1⟩
 | [],i,ds,d,h=>by simp
 | b::l,i,ds,d,h=>by
  simp only [putBlocks] at h;obtain ⟨d2,h1,h2⟩:=Option.bind_eq_some_iff.1 h;obtain ⟨d1,h3,h4⟩:=Option.bind_eq_some_iff.1 h1;obtain ⟨p1,q1⟩:=KN h3;obtain ⟨p2,_⟩:=JB h4;obtain ⟨p3,_⟩:=JF h2;intro j y hj v hv
  cases j with
  | zero =>
   simp only [List.getElem?_cons_zero,Option.some.injEq] at hj;subst hj;have n2:v∉zS b.code:=fun hm=>by
    have:=p2.new v hm;rw [p1.made v hv] at this; cases this
   have e2:dAt d2 v=dAt d1 v:=p2.keep v (p1.pos v hv) n2;have n3:v∉allL l:=fun hm=>by
    have:=p3.new v hm;rw [e2,p1.made v hv] at this; cases this
   rw [p3.keep v (p1.pos v hv) n3,e2,q1 v hv]; simp
  | succ j =>
   have:=qh h2 j y (by simpa using hj) v hv;rw [this]; congr 2; omega
theorem ZB {α:Type} {p q:α→α→Bool} : ∀ {l m:List α},(∀ x∈l, ∀ y,p x y=true→q x y=true)→Go.Vw.eqF p l m=true→Go.Vw.eqF q l m=true
 | [],[],_,_=>rfl
 | [],_::_,_,h=>by simp [Go.Vw.eqF] at h
 | _::_,[],_,h=>by simp [Go.Vw.eqF] at h
 | a::l,b::m,hp,h=>by
  simp only [Go.Vw.eqF,Bool.and_eq_true] at h ⊢;exact ⟨hp a (by simp) b h.1,ZB (fun x hx=>hp x (by simp [hx])) h.2⟩
def NewX (ts ps:List Int) (x:Ins):Prop:=x=⟨256,9,[],[(ts.length:Int)]⟩ ∨ ∃ p∈ps,0≤p∧p<ts.length∧ts.getD p.toNat 0=126∧x=⟨124,0,[p,p],[(ts.length:Int)]⟩
theorem NewX.op {ts ps:List Int} {x:Ins} (h:NewX ts ps x):x.op≠258∧x.outs=[(ts.length:Int)]∧x.args.length≤2:=by
 rcases h with rfl | ⟨p,_,_,_,_,rfl⟩<;>simp
theorem Wb {e:Env} {f:Fn} {ds:List Def} {near:List Int} : ∀ {l:List Block} {i:Nat},(∀ (j:Nat) (b:Block),l[j]? = some b→checkCode e f ds near ((i+j:Nat):Int) 0 b.code=true∧termOk f ds near ((i+j:Nat):Int) b=true)→checkBlocks e f ds near i l=true
 | [],i,_=>rfl
 | b::l,i,h=>by
  simp only [checkBlocks,Bool.and_eq_true];refine ⟨h 0 b rfl,Wb fun j y hy => ?_⟩;have:=h (j+1) y (by simpa using hy);rw [show i+1+j=i+(j+1) by omega]; exact this
end Ss
namespace Go.Vw
open Go.Proofs Go.RowKit
theorem fn_ghostT {S:Store} {fi fo ts:List Int} {bs:List Ss.Block} {cells:List V} {ot ob n m:Nat} {ids:List Nat} (h:OwL S (reps n blkT) cells (je jb bs) ids) (hb:S.get ob=some (6,cells)) (hn:bs.length=n) (ht:S.get ot=some (1,ts.map vint)) (hm:ts.length=m) (hd:(ot::ob::ids).Nodup) :
  Ghost (.agg [vl vint fi,vl vint fo, .slice ot 0 m, .slice ob 0 n]) S (.agg [vl vint fi,vl vint fo,vl vint ts,vl jb bs]) (S.dels (ot::ob::ids)):=by
 subst hn;subst hm;refine jaD ?_;have hw:OwL S [.c, .c, .s (List.replicate 1 .c), .s blkT] [vl vint fi,vl vint fo, .slice ot 0 ts.length, .slice ob 0 bs.length] [vl vint fi,vl vint fo,vl vint ts,vl jb bs] (ot::ob::ids):=by
  refine .c rfl (.c rfl (OwL.slice (enc:=vint) (fun _=>rfl) (fun _=>rfl) ts (by rw [qu]; exact ht) ?_));have:=OwL.s (S:=S) (o:=ob) (tys:=blkT) (cells:=cells) (ys:=bs.map jb) (i:=ids) (j:=[]) hb (fun y hy=>(by
   obtain ⟨b,_,rfl⟩:=List.mem_map.1 hy;exact ⟨by rw [jz]; rfl,zM b⟩)) (by rw [List.length_map,qN]; exact h) .nil
  rw [List.length_map,List.append_nil] at this;exact this
 exact hw.freeze hd S fun _ _=>rfl
end Go.Vw
namespace Go.Vw
open Go.Proofs Go.RowKit
attribute [-simp] List.map_set
theorem Jz (l m:List Int) (hl:l.length<2^63):VPure Tryz.prog 37 [vl vint l,vl vint m] (.bool (decide (l=m))):=by
 intro S;rw [←jaJ];generalize hp:(fun x y:Int=>decide (x=y))=p
 by_cases hlm:l.length=m.length
 ·have hlm':(l.length:Int)=(m.length:Int):=by omega
  refine QB (c:=jd Tryz.f37) Tryz.func37 Tryz.ntmps37 fun hwf=>?_
  repeat first|refine QG ?_|refine QY ?_ (r:=by conv=>lhs;simp[QV,hlm,hlm'])
  refine QT ?_;refine jc [0,1,5] rfl (fun c σ S' => ∃ (k:Nat),k≤l.length∧c=l.length-k∧eqF p (l.drop k) (m.drop k)=eqF p l m∧σ=[(0,vl vint l),(1,vl vint m),(5,vnat k)]∧S'=St S [] []) l.length ?_ ?_
  ·exact ⟨0,by omega,rfl,rfl,by simp [Fr.only],rfl⟩
  ·rintro c σ T ⟨k,hk,rfl,hd,rfl,rfl⟩
   by_cases hkt:k<l.length
   ·have hkm:k<m.length:=by omega
    have hw:=ji hkt hl;have hst:eqF p (l.drop k) (m.drop k)=(p l[k] m[k]&&eqF p (l.drop (k+1)) (m.drop (k+1))):=by rw [List.drop_eq_getElem_cons hkt,List.drop_eq_getElem_cons hkm,eqF]
    obtain ⟨x,hx⟩ : ∃ x,l[k]=x:=⟨_,rfl⟩
    obtain ⟨y,hy⟩ : ∃ y,m[k]=y:=⟨_,rfl⟩
    rw [hx,hy] at hst
    by_cases hxy:x=y
    ·rw [show p x y=true by rw [←hp]; simp [hxy]] at hst
     repeat first|refine QG ?_|refine QY ?_ (r:=by conv=>lhs;simp[QV,hkt,hkm,hx,hy,hxy])
     show jp _ _ _ _ _ _ _;exact again ⟨Nat.sub_lt_sub_left hkt (Nat.lt_succ_self k),k+1,hkt,rfl,by rw [←hd,hst]; rfl,by simp [Fr.only,hw],rfl⟩
    ·rw [show p x y=false by rw [←hp]; simp [hxy]] at hst
     repeat first|refine QG ?_|refine QY ?_ (r:=by conv=>lhs;simp[QV,hkt,hkm,hx,hy,hxy])
     exact ja hwf (by rw [←hd,hst]; rfl) rfl
   ·have e:l.drop k=[]:=by rw [List.drop_eq_nil_iff]; omega
    have e':m.drop k=[]:=by rw [List.drop_eq_nil_iff]; omega
    rw [e,e'] at hd;have hkm : ¬ k<m.length:=by omega
    repeat first|refine QG ?_|refine QY ?_ (r:=by conv=>lhs;simp[QV,hkt,hkm])
    exact ja hwf (by rw [←hd]; rfl) rfl
 ·have hlm' : ¬ (l.length:Int)=(m.length:Int):=by omega
  have e:eqF p l m=false:=eqF_len hlm;rw [e];refine QB (c:=jd Tryz.f37) Tryz.func37 Tryz.ntmps37 fun hwf=>?_
  repeat first|refine QG ?_|refine QY ?_ (r:=by conv=>lhs;simp[QV,hlm,hlm'])
  exact ja hwf rfl rfl
theorem SameSig_v (a b:Ss.Sig) (h1:a.inn.length<2^63) (h2:a.out.length<2^63):VPure Tryz.prog 36 [jC a,jC b] (.bool (decide (a=b))):=by
 intro S;obtain ⟨a1,a2⟩:=a;obtain ⟨b1,b2⟩:=b;simp only [Ss.Sig.mk.injEq] at *
 refine QB (c:=jd Tryz.f36) Tryz.func36 Tryz.ntmps36 fun hwf=>?_
 repeat first|refine QG ?_|refine QY ?_
 refine QT ?_;refine QP ?_;refine jm rfl (Jz a1 b1 h1) ?_
 by_cases h:a1=b1
 ·refine QM (by conv=>lhs;simp[QV,h]) ?_;refine jm rfl (Jz a2 b2 h2) ?_;refine QW ?_
  repeat first|refine QG ?_|refine QY ?_
  exact ja hwf (by simp [h]) rfl
 ·refine QM (by conv=>lhs;simp[QV,h]) ?_;refine QN ?_
  repeat first|refine QG ?_|refine QY ?_
  exact ja hwf (by simp [h]) rfl
theorem SameIns_v (x y:Ss.Ins) (h:x.args.length<2^63) (h':x.outs.length<2^63):VPure Tryz.prog 39 [jg x,jg y] (.bool (decide (x=y))):=by
 intro S;obtain ⟨a1,a2,a3,a4⟩:=x;obtain ⟨b1,b2,b3,b4⟩:=y;simp only [Ss.Ins.mk.injEq] at *
 refine QB (c:=jd Tryz.f39) Tryz.func39 Tryz.ntmps39 fun hwf=>?_
 by_cases h1:a1=b1
 ·by_cases h2:a2=b2
  ·by_cases h3:a3=b3
   ·repeat first|refine QG ?_|refine QY ?_ (r:=by conv=>lhs;simp[QV,h1,h2])
    refine QT ?_;refine QP ?_ (r:=by conv=>lhs;simp[QV,h1,h2]);refine jm rfl (Jz a3 b3 h) ?_;refine QM (by conv=>lhs;simp[QV,h3]) ?_;refine jm rfl (Jz a4 b4 h') ?_;refine QW ?_
    repeat first|refine QG ?_|refine QY ?_
    exact ja hwf (by simp [h1,h2,h3]) rfl
   ·repeat first|refine QG ?_|refine QY ?_ (r:=by conv=>lhs;simp[QV,h1,h2])
    refine QT ?_;refine QP ?_ (r:=by conv=>lhs;simp[QV,h1,h2]);refine jm rfl (Jz a3 b3 h) ?_;refine QM (by conv=>lhs;simp[QV,h3]) ?_;refine QN ?_
    repeat first|refine QG ?_|refine QY ?_
    exact ja hwf (by simp [h3]) rfl
  ·repeat first|refine QG ?_|refine QY ?_ (r:=by conv=>lhs;simp[QV,h1,h2])
   exact ja hwf (by simp [h2]) rfl
 ·repeat first|refine QG ?_|refine QY ?_ (r:=by conv=>lhs;simp[QV,h1])
  exact ja hwf (by simp [h1]) rfl
theorem eqF_one {α:Type} {p:α→α→Bool} {l m:List α} {k:Nat} (h:k<l.length) (h':k<m.length):eqF p (l.drop k) (m.drop k)=(p l[k] m[k]&&eqF p (l.drop (k+1)) (m.drop (k+1))):=by
 rw [List.drop_eq_getElem_cons h,List.drop_eq_getElem_cons h',eqF]
theorem eqF_end {α:Type} {p:α→α→Bool} {l m:List α} {k:Nat} (h : ¬ k<l.length) (hl:l.length=m.length):eqF p (l.drop k) (m.drop k)=true:=by
 rw [show l.drop k=[] by rw [List.drop_eq_nil_iff]; omega,show m.drop k=[] by rw [List.drop_eq_nil_iff]; omega]; rfl
theorem sameTerm_v (x y:Ss.Term) (hx:x.Fits):VPure Tryz.prog 38 [jcv x,jcv y] (.bool (decide (x=y))):=by
 intro S;obtain ⟨a3,a4,a5,a6⟩:=x;obtain ⟨b3,b4,b5,b6⟩:=y;obtain ⟨_,_,⟨f4,f5⟩,⟨f6,_⟩⟩:=hx;simp only at f4 f5 f6;simp only [Ss.Term.mk.injEq] at *
 have g5:a5.length<2^63:=by omega
 have g6:a6.length<2^63:=by omega
 refine QB (c:=jd Tryz.f38) Tryz.func38 Tryz.ntmps38 fun hwf=>?_
 by_cases h3:a3=b3
 ·by_cases h4:a4=b4
  ·repeat first|refine QG ?_|refine QY ?_ (r:=by conv=>lhs;simp[QV,h3,h4])
   refine QT ?_;refine QP ?_ (r:=by conv=>lhs;simp[QV,h3,h4]);refine jm rfl (Jz a6 b6 g6) ?_
   by_cases h6:a6=b6
   ·by_cases hlm:a5.length=b5.length
    ·have hlm':(a5.length:Int)=(b5.length:Int):=by omega
     refine QM (by conv=>lhs;simp[QV,h6,hlm,hlm']) ?_;refine QN ?_
     repeat first|refine QG ?_|refine QY ?_
     rw [show decide (a3=b3∧a4=b4∧a5=b5∧a6=b6)=eqF (fun x y=>decide (x=y)) a5 b5 by rw [jaJ]; simp [h3,h4,h6]];generalize hp:(fun x y:Ss.Edge=>decide (x=y))=p;refine QT ?_;refine jc [2,3,5] rfl (fun c σ S' => ∃ (k:Nat),k≤a5.length∧c=a5.length-k∧eqF p (a5.drop k) (b5.drop k)=eqF p a5 b5∧σ=[(2, .ptr (lid S.nx 0) 0),(3, .ptr (lid S.nx 1) 0),(5,vnat k)]∧S'=St S [] [some (4,[vint b3,vint b4,vl jf a5,vl vint b6]),some (4,[vint b3,vint b4,vl jf b5,vl vint b6])]) a5.length ?_ ?_
     ·exact ⟨0,by omega,rfl,rfl,by simp [Fr.only],rfl⟩
     ·rintro c σ T ⟨k,hk,rfl,hd,rfl,rfl⟩
      by_cases hkt:k<a5.length
      ·have hkm:k<b5.length:=by omega
       have hw:=ji hkt g5;have hst:=eqF_one (p:=p) hkt hkm;have hfe:=f5 _ (List.getElem_mem hkt);obtain ⟨⟨x1,x2⟩,hx⟩ : ∃ x,a5[k]=x:=⟨_,rfl⟩
       obtain ⟨⟨y1,y2⟩,hy⟩ : ∃ y,b5[k]=y:=⟨_,rfl⟩
       rw [hx] at hfe;obtain ⟨_,⟨q1,_⟩⟩:=hfe;simp only at q1;rw [hx,hy] at hst;have hpp:p ⟨x1,x2⟩ ⟨y1,y2⟩=decide (x1=y1∧x2=y2):=by rw [←hp]; simp
       by_cases e1:x1=y1
       ·repeat first|refine QG ?_|refine QY ?_ (r:=by conv=>lhs;simp[QV,hkt,hkm,hx,hy,e1])
        refine QT ?_;refine QD (r:=by conv=>lhs;simp[QV,hkt,hkm,hx,hy,e1]) (k:=?_);refine jm rfl (Jz x2 y2 (by omega)) ?_
        by_cases e2:x2=y2
        ·rw [hpp,show decide (x1=y1∧x2=y2)=true by simp [e1,e2]] at hst;refine QM (by conv=>lhs;simp[QV,e2]) ?_;refine QN ?_
         repeat first|refine QG ?_|refine QY ?_
         show jp _ _ _ _ _ _ _;exact again ⟨Nat.sub_lt_sub_left hkt (Nat.lt_succ_self k),k+1,hkt,rfl,by rw [←hd,hst]; rfl,by simp [Fr.only,hw],rfl⟩
        ·rw [hpp,show decide (x1=y1∧x2=y2)=false by simp [e2]] at hst;refine QM (by conv=>lhs;simp[QV,e2]) ?_;refine QN ?_
         repeat first|refine QG ?_|refine QY ?_
         exact ja hwf (by rw [←hd,hst]; rfl) rfl
       ·rw [hpp,show decide (x1=y1∧x2=y2)=false by simp [e1]] at hst
        repeat first|refine QG ?_|refine QY ?_ (r:=by conv=>lhs;simp[QV,hkt,hkm,hx,hy,e1])
        exact ja hwf (by rw [←hd,hst]; rfl) rfl
      ·rw [eqF_end hkt hlm] at hd;have hkm : ¬ k<b5.length:=by omega
       repeat first|refine QG ?_|refine QY ?_ (r:=by conv=>lhs;simp[QV,hkt,hkm])
       exact ja hwf (by rw [←hd]; rfl) rfl
    ·have hne : ¬ a5=b5:=by rintro rfl; exact hlm rfl
     have hlm' : ¬ (a5.length:Int)=(b5.length:Int):=by omega
     refine QM (by conv=>lhs;simp[QV,h6,hlm,hlm']) ?_;refine QN ?_
     repeat first|refine QG ?_|refine QY ?_
     exact ja hwf (by simp [hne]) rfl
   ·refine QM (by conv=>lhs;simp[QV,h6]) ?_;refine QN ?_
    repeat first|refine QG ?_|refine QY ?_
    exact ja hwf (by simp [h6]) rfl
  ·repeat first|refine QG ?_|refine QY ?_ (r:=by conv=>lhs;simp[QV,h3,h4])
   exact ja hwf (by simp [h4]) rfl
 ·repeat first|refine QG ?_|refine QY ?_ (r:=by conv=>lhs;simp[QV,h3])
  exact ja hwf (by simp [h3]) rfl
theorem RSame_v (f g:Ss.Fn) (hf:f.Fits) (hg:g.Fits):VPure Tryz.prog 11 [ql f,ql g] (.bool (f.small&&g.small&&decide (f=g))):=by
 intro S;have cf:=Ke f hf;have cg:=Ke g hg;obtain ⟨⟨⟨f1,_⟩,⟨f2,_⟩⟩,⟨f3,_⟩,⟨f4,f5⟩⟩:=hf;generalize f.small=sf at *
 generalize g.small=sg at *
 obtain ⟨⟨a1,a2⟩,a3,a4⟩:=f;obtain ⟨⟨b1,b2⟩,b3,b4⟩:=g;simp only at f1 f2 f3 f4 f5;simp only [Ss.Fn.mk.injEq];have cf':VPure Tryz.prog 35 [.agg [vl vint a1,vl vint a2,vl vint a3,vl jb a4]] (.bool sf):=cf;have cg':VPure Tryz.prog 35 [.agg [vl vint b1,vl vint b2,vl vint b3,vl jb b4]] (.bool sg):=cg;have cs:VPure Tryz.prog 36 [.agg [vl vint a1,vl vint a2], .agg [vl vint b1,vl vint b2]] (.bool (decide ((⟨a1,a2⟩:Ss.Sig)=⟨b1,b2⟩))):=SameSig_v ⟨a1,a2⟩ ⟨b1,b2⟩ (Nat.lt_of_le_of_lt f1 (by decide)) (Nat.lt_of_le_of_lt f2 (by decide));have g3:a3.length<2^63:=by omega
 have g4:a4.length<2^63:=by omega
 generalize hX:(sf&&sg&&decide ((⟨a1,a2⟩:Ss.Sig)=⟨b1,b2⟩∧a3=b3∧a4=b4))=X;generalize hse:decide ((⟨a1,a2⟩:Ss.Sig)=⟨b1,b2⟩)=se at cs;refine QB (c:=jd Tryz.f11) Tryz.func11 Tryz.ntmps11 fun hwf=>?_
 repeat first|refine QG ?_|refine QY ?_
 refine QT ?_;refine QP ?_;refine QL (cf') ?_
 by_cases hsf:sf=true
 case neg =>
  have hsf':sf=false:=by simpa using hsf
  refine QM (by conv=>lhs;simp[QV,hsf']) ?_;refine QN ?_
  repeat first|refine QG ?_|refine QY ?_
  exact ja hwf (by simp [←hX,hsf']) rfl
 refine QM (by conv=>lhs;simp[QV,hsf]) ?_;refine QL (cg') ?_
 by_cases hsg:sg=true
 case neg =>
  have hsg':sg=false:=by simpa using hsg
  refine QM (by conv=>lhs;simp[QV,hsg']) ?_;refine QN ?_
  repeat first|refine QG ?_|refine QY ?_
  exact ja hwf (by simp [←hX,hsf,hsg']) rfl
 refine QM (by conv=>lhs;simp[QV,hsg]) ?_;refine QL (cs) ?_
 by_cases hs:se=true
 case neg =>
  have hs':se=false:=by simpa using hs
  have hne : ¬ ((⟨a1,a2⟩:Ss.Sig)=⟨b1,b2⟩):=by rw [hs'] at hse; simpa using hse
  have hX':X=false:=by rw [←hX]; simp only [decide_eq_false (fun h:_∧_∧_=>hne h.1)]; simp
  refine QM (by conv=>lhs;simp[QV,hs']) ?_;refine QN ?_
  repeat first|refine QG ?_|refine QY ?_
  exact ja hwf (by simp [hX']) rfl
 have hse':(⟨a1,a2⟩:Ss.Sig)=⟨b1,b2⟩:=by rw [hs] at hse; simpa using hse
 refine QM (by conv=>lhs;simp[QV,hs]) ?_;refine QL (Jz a3 b3 g3) ?_
 by_cases h3:a3=b3
 case neg =>
  have hX':X=false:=by rw [←hX]; simp only [decide_eq_false (fun h:_∧_∧_=>h3 h.2.1)]; simp
  refine QM (by conv=>lhs;simp[QV,h3]) ?_;refine QN ?_
  repeat first|refine QG ?_|refine QY ?_
  exact ja hwf (by simp [hX']) rfl
 by_cases hlm:a4.length=b4.length
 case neg =>
  have hlm' : ¬ (a4.length:Int)=(b4.length:Int):=by omega
  have hne : ¬ a4=b4:=by rintro rfl; exact hlm rfl
  have hX':X=false:=by rw [←hX]; simp only [decide_eq_false (fun h:_∧_∧_=>hne h.2.2)]; simp
  refine QM (by conv=>lhs;simp[QV,h3,hlm,hlm']) ?_;refine QN ?_
  repeat first|refine QG ?_|refine QY ?_
  exact ja hwf (by simp [hX']) rfl
 have hlm':(a4.length:Int)=(b4.length:Int):=by omega
 have hXe:X=eqF (fun x y=>decide (x=y)) a4 b4:=by
  rw [←hX,jaJ,hsf,hsg]
  by_cases h4:a4=b4
  ·simp [h3,h4,hse']
  ·simp [h4]
 generalize hp:(fun x y:Ss.Block=>decide (x=y))=p at hXe;refine QM (by conv=>lhs;simp[QV,h3,hlm,hlm']) ?_;refine QN ?_
 repeat first|refine QG ?_|refine QY ?_
 refine QT ?_;refine jc [2,3,5] rfl (fun c σ S' => ∃ (k:Nat),k≤a4.length∧c=a4.length-k∧eqF p (a4.drop k) (b4.drop k)=X∧σ=[(2, .ptr (lid S.nx 0) 0),(3, .ptr (lid S.nx 1) 0),(5,vnat k)]∧S'=St S [] [some (4,[vl vint a1,vl vint a2,vl vint b3,vl jb a4]),some (4,[vl vint b1,vl vint b2,vl vint b3,vl jb b4])]) a4.length ?_ ?_
 ·exact ⟨0,by omega,rfl,by rw [hXe]; rfl,by simp [Fr.only],by simp [h3]⟩
 ·rintro c σ T ⟨k,hk,rfl,hd,rfl,rfl⟩
  by_cases hkt:k<a4.length
  ·have hkm:k<b4.length:=by omega
   have hw:=ji hkt g4;have hst:=eqF_one (p:=p) hkt hkm;have hbf:=f5 _ (List.getElem_mem hkt);obtain ⟨⟨x1,x2,x3⟩,hx⟩ : ∃ x,a4[k]=x:=⟨_,rfl⟩
   obtain ⟨⟨y1,y2,y3⟩,hy⟩ : ∃ y,b4[k]=y:=⟨_,rfl⟩
   rw [hx] at hbf;have ct:=sameTerm_v x3 y3 hbf.2.2;obtain ⟨⟨q1,_⟩,⟨q2,q3⟩,_⟩:=hbf;simp only at q1 q2 q3;rw [hx,hy] at hst;have hpp:p ⟨x1,x2,x3⟩ ⟨y1,y2,y3⟩=decide (x1=y1∧x2=y2∧x3=y3):=by rw [←hp]; simp
   have r1:x1.length<2^63:=by omega
   have r2:x2.length<2^63:=by omega
   obtain ⟨x3,x4,x5,x6⟩:=x3;obtain ⟨y3,y4,y5,y6⟩:=y3;generalize hT:decide ((⟨x3,x4,x5,x6⟩:Ss.Term)=⟨y3,y4,y5,y6⟩)=te at ct;have ct':VPure Tryz.prog 38 [.agg [.int .i64 x3, .int .i64 x4,vl jf x5,vl vint x6], .agg [.int .i64 y3, .int .i64 y4,vl jf y5,vl vint y6]] (.bool te):=ct;have bad : ¬ (x1=y1∧x2=y2∧(⟨x3,x4,x5,x6⟩:Ss.Term)=⟨y3,y4,y5,y6⟩)→X=false:=by
    intro hn;rw [←hd,hst,hpp,decide_eq_false hn]; rfl
   repeat first|refine QG ?_|refine QY ?_ (r:=by conv=>lhs;simp[QV,hkt,hkm,hx,hy])
   refine QT ?_;refine KI (σm := ?sm) (Sm := ?Sm) (ZZ.mk _ (St S [] [some (4,[vl vint a1,vl vint a2,vl vint b3,vl jb a4]),some (4,[vl vint b1,vl vint b2,vl vint b3,vl jb b4])]) (St S [] [some (4,[vl vint a1,vl vint a2,vl vint b3,vl jb a4]),some (4,[vl vint b1,vl vint b2,vl vint b3,vl jb b4])]) []) 10 11 [0,1,2,3,4,5,6,7,8,9,10,11,12,13] [0,1,2,3,4,5,6,7,8,9,11,10,12,13] rfl (by kernel_rfl) (by conv=>lhs; reduce) (by kernel_rfl) (by decide) (by kernel_rfl) (by kernel_rfl) (by kernel_rfl) (by kernel_rfl) (by kernel_rfl) (by kernel_rfl) rfl (JG (by simp [subU,shpU,subL,shpL])) (Store.sub_refl _) (by conv=>lhs; reduce) (by conv=>lhs; reduce) ?H1 ?H2 ?H3
   case H1 =>
    refine QM (by conv=>lhs;simp[QV,hkt,hkm,hx,hy]) ?_;refine QI ?_;refine QI ?_;refine QI ?_;refine QI ?_;refine QN ?_;refine zu [2,3,5,6,7] (Eq.trans (b := ?_) ?_ rfl)
    rotate_left
    conv=>lhs; simp [Fr.only,Fr.look]
   case H2 =>
    refine QM (by conv=>lhs;simp[QV,hkt,hkm,hx,hy]) ?_;refine QI ?_;refine QI ?_;refine QI ?_;refine QI ?_;refine QN ?_;exact zD [2,3,5,6,7] [0,1,3,2] (by conv=>lhs; simp [Fr.only,Fr.look]) hwf (by decide) (by simp) (by conv=>lhs; simp) (by conv=>lhs; simp) (by conv=>lhs; simp)
   repeat first|refine QG ?_|refine QY ?_
   refine QT ?_;refine QP ?_;refine QL (Jz x1 y1 r1) ?_
   by_cases e1:x1=y1
   case neg =>
    refine QM (by conv=>lhs;simp[QV,e1]) ?_;refine QN ?_
    repeat first|refine QG ?_|refine QY ?_
    exact ja hwf (by have hb:=bad (fun h=>e1 h.1); simp [hb]) rfl
   by_cases e2:x2.length=y2.length
   case neg =>
    have e2' : ¬ (x2.length:Int)=(y2.length:Int):=by omega
    refine QM (by conv=>lhs;simp[QV,e1,e2,e2']) ?_;refine QN ?_
    repeat first|refine QG ?_|refine QY ?_
    exact ja hwf (by have hb:=bad (fun h=>e2 (by rw [h.2.1])); simp [hb]) rfl
   have e2':(x2.length:Int)=(y2.length:Int):=by omega
   refine QM (by conv=>lhs;simp[QV,e1,e2,e2']) ?_;refine QL (ct') ?_
   by_cases hte:te=true
   case neg =>
    have hte':te=false:=by simpa using hte
    refine QM (by conv=>lhs;simp[QV,hte']) ?_;refine QN ?_
    repeat first|refine QG ?_|refine QY ?_
    exact ja hwf (by have hb:=bad (fun h=>by rw [hte'] at hT; simp only [decide_eq_false_iff_not] at hT; exact hT h.2.2); simp [hb]) rfl
   have hTe:(⟨x3,x4,x5,x6⟩:Ss.Term)=⟨y3,y4,y5,y6⟩:=by rw [hte] at hT; simpa using hT
   refine QM (by conv=>lhs;simp[QV,hte]) ?_;refine QN ?_
   repeat first|refine QG ?_|refine QY ?_
   have hce:p ⟨x1,x2,⟨x3,x4,x5,x6⟩⟩ ⟨y1,y2,⟨y3,y4,y5,y6⟩⟩=eqF (fun x y=>decide (x=y)) x2 y2:=by
    rw [hpp,jaJ]
    by_cases h4:x2=y2
    ·simp only [e1,h4,hTe,and_self]
    ·simp [h4]
   generalize hq:(fun x y:Ss.Ins=>decide (x=y))=q at hce;refine QT ?_;refine jc [2,3,5,6,7,8] rfl (fun c σ S' => ∃ (j:Nat),j≤x2.length∧c=x2.length-j∧eqF q (x2.drop j) (y2.drop j)=eqF q x2 y2∧σ=[(2, .ptr (lid S.nx 0) 0),(3, .ptr (lid S.nx 1) 0),(5,vnat k),(6, .ptr (lid S.nx 2) 0),(7, .ptr (lid S.nx 3) 0),(8,vnat j)]∧S'=St S [] [some (4,[vl vint a1,vl vint a2,vl vint b3,vl jb a4]),some (4,[vl vint b1,vl vint b2,vl vint b3,vl jb b4]),some (6,[vl vint x1,vl jg x2, .int .i64 x3, .int .i64 x4,vl jf x5,vl vint x6]),some (6,[vl vint y1,vl jg y2, .int .i64 y3, .int .i64 y4,vl jf y5,vl vint y6])]) x2.length ?_ ?_
   ·exact ⟨0,by omega,rfl,rfl,by simp [Fr.only],by simp [e1]⟩
   ·rintro c σ T ⟨j,hj,rfl,hdj,rfl,rfl⟩
    by_cases hjt:j<x2.length
    ·have hjm:j<y2.length:=by omega
     have hwj:=ji hjt r2;have hsj:=eqF_one (p:=q) hjt hjm;have hif:=q3 _ (List.getElem_mem hjt);obtain ⟨⟨u1,u2,u3,u4⟩,hu⟩ : ∃ x,x2[j]=x:=⟨_,rfl⟩
     obtain ⟨⟨v1,v2,v3,v4⟩,hv⟩ : ∃ x,y2[j]=x:=⟨_,rfl⟩
     rw [hu] at hif;have ci:=SameIns_v ⟨u1,u2,u3,u4⟩ ⟨v1,v2,v3,v4⟩ (Nat.lt_of_le_of_lt hif.2.2.1.1 (by decide)) (Nat.lt_of_le_of_lt hif.2.2.2.1 (by decide));rw [hu,hv,show q ⟨u1,u2,u3,u4⟩ ⟨v1,v2,v3,v4⟩=decide ((⟨u1,u2,u3,u4⟩:Ss.Ins)=⟨v1,v2,v3,v4⟩) by rw [←hq]] at hsj;generalize decide ((⟨u1,u2,u3,u4⟩:Ss.Ins)=⟨v1,v2,v3,v4⟩)=ie at hsj ci;have ci':VPure Tryz.prog 39 [.agg [.int .i64 u1, .int .u64 u2,vl vint u3,vl vint u4], .agg [.int .i64 v1, .int .u64 v2,vl vint v3,vl vint v4]] (.bool ie):=ci
     repeat first|refine QG ?_|refine QY ?_ (r:=by conv=>lhs;simp[QV,hjt,hjm,hu,hv])
     refine QT ?_;refine QD (r:=by conv=>lhs;simp[QV,hjt,hjm,hu,hv]) (k:=?_);refine QL (ci') ?_
     by_cases hie:ie=true
     ·refine QM (by conv=>lhs;simp[QV,hie]) ?_;refine QN ?_
      repeat first|refine QG ?_|refine QY ?_
      show jp _ _ _ _ _ _ _;exact again ⟨Nat.sub_lt_sub_left hjt (Nat.lt_succ_self j),j+1,hjt,rfl,by rw [←hdj,hsj,hie]; rfl,by simp [Fr.only,hwj],rfl⟩
     ·have hie':ie=false:=by simpa using hie
      refine QM (by conv=>lhs;simp[QV,hie']) ?_;refine QN ?_
      repeat first|refine QG ?_|refine QY ?_
      exact ja hwf (by rw [←hd,hst,hce, ←hdj,hsj,hie']; rfl) rfl
    ·rw [eqF_end hjt e2] at hdj;have hjm : ¬ j<y2.length:=by omega
     repeat first|refine QG ?_|refine QY ?_ (r:=by conv=>lhs;simp[QV,hjt,hjm])
     refine QA [0,1] (h:=⟨?_,k+1,hkt,rfl,by rw [←hd,hst,hce, ←hdj]; rfl,by simp [hw],rfl⟩);omega
  ·rw [eqF_end hkt hlm] at hd;have hkm : ¬ k<b4.length:=by omega
   repeat first|refine QG ?_|refine QY ?_ (r:=by conv=>lhs;simp[QV,hkt,hkm])
   exact ja hwf (by simp [←hd]) rfl
end Go.Vw
namespace Ss
end Ss
namespace Go.Vw
open Go.Proofs Go.RowKit
theorem RCopyP_v (f:Ss.Fn) (hf:f.Fits) (hs:f.small=true):VPure Tryz.prog 18 [ql f] (ql f):=by
 intro S;refine zG fun hwf=>qT ((RCopyT_v S f hf hs).mono ?_)
 rintro r T ⟨hag,hwT,ot,ob,cells,ids,rfl,hot,hob,how,hnd,hids⟩;have hg:=fn_ghostT (fi:=f.sig.inn) (fo:=f.sig.out) how hob rfl hot rfl hnd;have hfin:Agree S (T.dels (ot::ob::ids)):=by
  refine ⟨by rw [YH]; exact hag.1,fun o ho => ?_⟩;rw [KE,if_neg]
  ·exact hag.2 o ho
  ·intro hm;have:=(hids o hm).1; omega
 exact zw hwf (hg.toB _) hfin (by simp [ql])
theorem fn_ghostD {S:Store} {fi fo ts:List Int} {bs:List Ss.Block} {cells:List V} {ot ob n m:Nat} {ids:List Nat} (h:OwL S (reps n blkD) cells (je jb bs) ids) (hb:S.get ob=some (6,cells)) (hn:bs.length=n) (ht:S.get ot=some (1,ts.map vint)) (hm:ts.length=m) (hd:(ot::ob::ids).Nodup) :
  Ghost (.agg [vl vint fi,vl vint fo, .slice ot 0 m, .slice ob 0 n]) S (.agg [vl vint fi,vl vint fo,vl vint ts,vl jb bs]) (S.dels (ot::ob::ids)):=by
 subst hn;subst hm;refine jaD ?_;have hw:OwL S [.c, .c, .s (List.replicate 1 .c), .s blkD] [vl vint fi,vl vint fo, .slice ot 0 ts.length, .slice ob 0 bs.length] [vl vint fi,vl vint fo,vl vint ts,vl jb bs] (ot::ob::ids):=by
  refine .c rfl (.c rfl (OwL.slice (enc:=vint) (fun _=>rfl) (fun _=>rfl) ts (by rw [qu]; exact ht) ?_));have:=OwL.s (S:=S) (o:=ob) (tys:=blkD) (cells:=cells) (ys:=bs.map jb) (i:=ids) (j:=[]) hb (fun y hy=>(by
   obtain ⟨b,_,rfl⟩:=List.mem_map.1 hy;exact ⟨by rw [jz]; rfl,zM b⟩)) (by rw [List.length_map,qN]; exact h) .nil
  rw [List.length_map,List.append_nil] at this;exact this
 exact hw.freeze hd S fun _ _=>rfl
end Go.Vw
namespace Ss
def emptyFn:Fn:=⟨⟨[],[]⟩,[],[]⟩
noncomputable def bceF (f:Fn):Fn:=pbce (Go.Vw.G.rNear (Go.Vw.G.nats (succs f.blocks))) (Go.Vw.G.order (Go.Vw.G.nats (succs f.blocks))) f
noncomputable def bceOut (e:Env) (f:Fn):Fn × Int:=if check e f then (bceF f,0) else (emptyFn,6)
end Ss
namespace Go.Vw
open Go.Proofs Go.RowKit
theorem jaK (S:Store):Ghost (.agg [.nils, .nils, .nils, .nils]) S (ql Ss.emptyFn) S:=by
 refine Ghost.agg_nl rfl fun i x y hx hy => ?_
 match i,hx,hy with
 | 0,hx,hy=>cases hx; cases hy; exact .inr ⟨rfl,rfl⟩
 | 1,hx,hy=>cases hx; cases hy; exact .inr ⟨rfl,rfl⟩
 | 2,hx,hy=>cases hx; cases hy; exact .inr ⟨rfl,rfl⟩
 | 3,hx,hy=>cases hx; cases hy; exact .inr ⟨rfl,rfl⟩
end Go.Vw
namespace Go.Vw
open Go.Proofs Go.RowKit
attribute [-simp] List.map_set
theorem rkind_v (t:Int):VPure Tryz.prog 85 [vint t] (.bool (Ss.isKind t)):=by
 intro S;refine QB (c:=jd Tryz.f85) Tryz.func85 Tryz.ntmps85 fun hwf=>?_
 by_cases h:t=127
 ·repeat first|refine QG ?_|refine QY ?_ (r:=by conv=>lhs;simp[QV,h])
  exact ja hwf (by simp [Ss.isKind,h]) rfl
 ·repeat first|refine QG ?_|refine QY ?_ (r:=by conv=>lhs;simp[QV,h])
  exact ja hwf (by simp [Ss.isKind,h]) rfl
theorem Zu (most:Nat) (l:List Int) (hl:l.length<2^63):VPure Tryz.prog 42 [vl vint l,vnat most] (.bool (Ss.kinds most l)):=by
 intro S
 by_cases h:l.length≤most
 case neg =>
  have h':(most:Int)<(l.length:Int):=by omega
  have hX:Ss.kinds most l=false:=by simp [Ss.kinds,h]
  rw [hX];refine QB (c:=jd Tryz.f42) Tryz.func42 Tryz.ntmps42 fun hwf=>?_
  repeat first|refine QG ?_|refine QY ?_ (r:=by conv=>lhs;simp[QV,h,h'])
  exact ja hwf rfl rfl
 have h' : ¬ (most:Int)<(l.length:Int):=by omega
 have hX:Ss.kinds most l=l.all Ss.isKind:=by simp [Ss.kinds,h]
 rw [hX];refine QB (c:=jd Tryz.f42) Tryz.func42 Tryz.ntmps42 fun hwf=>?_
 repeat first|refine QG ?_|refine QY ?_ (r:=by conv=>lhs;simp[QV,h,h'])
 refine QT ?_;refine jc [0,5] rfl (fun c σ S' => ∃ (k:Nat),k≤l.length∧c=l.length-k∧(l.drop k).all Ss.isKind=l.all Ss.isKind∧σ=[(0,vl vint l),(5,vnat k)]∧S'=St S [] []) l.length ?_ ?_
 ·exact ⟨0,by omega,rfl,rfl,by simp [Fr.only],rfl⟩
 ·rintro c σ T ⟨k,hk,rfl,hd,rfl,rfl⟩
  by_cases hkt:k<l.length
  ·have hst:=Ss.drop_all Ss.isKind hkt;have hw:=ji hkt hl
   repeat first|refine QG ?_|refine QY ?_ (r:=by conv=>lhs;simp[QV,hkt])
   refine QT ?_;refine QP ?_ (r:=by conv=>lhs;simp[QV,hkt]);refine QL (rkind_v l[k]) ?_;generalize Ss.isKind l[k]=z at *
   by_cases hz:z=true
   ·refine QM (by conv=>lhs;simp[QV,hz]) ?_;refine QN ?_
    repeat first|refine QG ?_|refine QY ?_ (r:=by conv=>lhs;simp[QV,hw,hkt])
    show jp _ _ _ _ _ _ _;exact again ⟨by omega,k+1,by omega,rfl,by rw [←hd,hst,hz,Bool.true_and],by simp [Fr.only],rfl⟩
   ·have hz':z=false:=by simpa using hz
    refine QM (by conv=>lhs;simp[QV,hz']) ?_;refine QN ?_
    repeat first|refine QG ?_|refine QY ?_
    rw [←hd,hst,hz',Bool.false_and];exact ja hwf rfl rfl
  ·repeat first|refine QG ?_|refine QY ?_ (r:=by conv=>lhs;simp[QV,hkt])
   rw [←hd,Ss.drop_all_end _ hkt];exact ja hwf rfl rfl
theorem rsig_v (s:Ss.Sig) (hs:s.Fits):VPure Tryz.prog 43 [jC s] (.bool s.right):=by
 intro S;obtain ⟨⟨h1,_⟩,⟨h2,_⟩⟩:=hs;obtain ⟨a,b⟩:=s;simp only at h1 h2;have hX:Ss.Sig.right ⟨a,b⟩=(Ss.kinds 8 a&&Ss.kinds 8 b):=rfl;rw [hX];have c1:VPure Tryz.prog 42 [vl vint a, .int .i64 8] (.bool (Ss.kinds 8 a)):=Zu 8 a (by omega);have c2:VPure Tryz.prog 42 [vl vint b, .int .i64 8] (.bool (Ss.kinds 8 b)):=Zu 8 b (by omega);generalize Ss.kinds 8 a=x at *
 generalize Ss.kinds 8 b=y at *
 refine QB (c:=jd Tryz.f43) Tryz.func43 Tryz.ntmps43 fun hwf=>?_
 repeat first|refine QG ?_|refine QY ?_
 refine QT ?_;refine QP ?_;refine QL (c1) ?_
 by_cases hx:x=true
 ·refine QM (by conv=>lhs;simp[QV,hx]) ?_;refine QL (c2) ?_;refine QW ?_
  repeat first|refine QG ?_|refine QY ?_
  exact ja hwf (by simp [hx]) rfl
 ·have hx':x=false:=by simpa using hx
  refine QM (by conv=>lhs;simp[QV,hx']) ?_;refine QN ?_
  repeat first|refine QG ?_|refine QY ?_
  exact ja hwf (by simp [hx']) rfl
theorem REnvRight_v (e:Ss.Env) (he:e.Fits):VPure Tryz.prog 41 [zk e] (.bool e.right):=by
 intro S;obtain ⟨⟨h1,h2⟩,_,⟨h4,_⟩,h5⟩:=he;obtain ⟨sg,im,gl,mu,me⟩:=e;simp only at h1 h2 h4 h5;have hX:Ss.Env.right ⟨sg,im,gl,mu,me⟩=(decide (0≤im)&&decide (im≤sg.length)&&decide (sg.length≤64)&&decide (mu.length=gl.length)&&Ss.kinds 32 gl&&sg.all Ss.Sig.right):=rfl;rw [hX];have c1:VPure Tryz.prog 42 [vl vint gl, .int .i64 32] (.bool (Ss.kinds 32 gl)):=Zu 32 gl (by omega);generalize Ss.kinds 32 gl=x at *
 refine QB (c:=jd Tryz.f41) Tryz.func41 Tryz.ntmps41 fun hwf=>?_
 by_cases k3:(64:Int)<(sg.length:Int)
 ·repeat first|refine QG ?_|refine QY ?_ (r:=by conv=>lhs;simp[QV,k3])
  exact ja hwf (by simp; omega) rfl
 by_cases k1:im<0
 ·repeat first|refine QG ?_|refine QY ?_ (r:=by conv=>lhs;simp[QV,k1,k3])
  exact ja hwf (by simp; omega) rfl
 by_cases k2:(sg.length:Int)<im
 ·repeat first|refine QG ?_|refine QY ?_ (r:=by conv=>lhs;simp[QV,k1,k2,k3])
  exact ja hwf (by simp; omega) rfl
 repeat first|refine QG ?_|refine QY ?_ (r:=by conv=>lhs;simp[QV,k1,k2,k3])
 refine QT ?_;refine QP ?_ (r:=by conv=>lhs;simp[QV,k1,k2,k3]);refine QL (c1) ?_
 by_cases hx:x=true
 case neg =>
  have hx':x=false:=by simpa using hx
  refine QM (by conv=>lhs;simp[QV,hx']) ?_;refine QN ?_
  repeat first|refine QG ?_|refine QY ?_
  exact ja hwf (by simp [hx']) rfl
 by_cases k4:mu.length=gl.length
 case neg =>
  have k4' : ¬ (mu.length:Int)=(gl.length:Int):=by omega
  refine QM (by conv=>lhs;simp[QV,hx,k4,k4']) ?_;refine QN ?_
  repeat first|refine QG ?_|refine QY ?_
  exact ja hwf (by simp [k4]) rfl
 have k4':(mu.length:Int)=(gl.length:Int):=by omega
 have hp:(decide (0≤im)&&decide (im≤sg.length)&&decide (sg.length≤64)&&decide (mu.length=gl.length))=true:=by simp [k4]; omega
 rw [hp,hx];refine QM (by conv=>lhs;simp[QV,hx,k4,k4']) ?_;refine QN ?_
 repeat first|refine QG ?_|refine QY ?_
 have hl:sg.length<2^63:=by omega
 rw [Bool.true_and,Bool.true_and];refine QT ?_;refine jc [1,3] rfl (fun c σ S' => ∃ (k:Nat),k≤sg.length∧c=sg.length-k∧(sg.drop k).all Ss.Sig.right=sg.all Ss.Sig.right∧σ=[(1, .ptr (lid S.nx 0) 0),(3,vnat k)]∧S'=St S [] [some (5,[vl jC sg,vint im,vl vint gl,vl V.bool mu, .bool me])]) sg.length ?_ ?_
 ·exact ⟨0,by omega,rfl,rfl,by simp [Fr.only],rfl⟩
 ·rintro c σ T ⟨k,hk,rfl,hd,rfl,rfl⟩
  by_cases hkt:k<sg.length
  ·have hst:=Ss.drop_all Ss.Sig.right hkt;have hw:=ji hkt hl;have c2:=rsig_v sg[k] (h2 _ (List.getElem_mem hkt));generalize hz0:Ss.Sig.right sg[k]=z at *
   obtain ⟨⟨a,b⟩,hb⟩ : ∃ s,sg[k]=s:=⟨_,rfl⟩
   rw [hb] at c2;have c2':VPure Tryz.prog 43 [.agg [vl vint a,vl vint b]] (.bool z):=c2
   repeat first|refine QG ?_|refine QY ?_ (r:=by conv=>lhs;simp[QV,hkt])
   refine QT ?_;refine QP ?_ (r:=by conv=>lhs;simp[QV,hkt,hb]);refine QL (c2') ?_
   by_cases hz:z=true
   ·refine QM (by conv=>lhs;simp[QV,hz]) ?_;refine QN ?_
    repeat first|refine QG ?_|refine QY ?_ (r:=by conv=>lhs;simp[QV,hw,hkt])
    show jp _ _ _ _ _ _ _;exact again ⟨by omega,k+1,by omega,rfl,by rw [←hd,hst,hz,Bool.true_and],by simp [Fr.only],rfl⟩
   ·have hz':z=false:=by simpa using hz
    refine QM (by conv=>lhs;simp[QV,hz']) ?_;refine QN ?_
    repeat first|refine QG ?_|refine QY ?_
    rw [←hd,hst,hz',Bool.false_and];exact ja hwf rfl rfl
  ·repeat first|refine QG ?_|refine QY ?_ (r:=by conv=>lhs;simp[QV,hkt])
   rw [←hd,Ss.drop_all_end _ hkt];exact ja hwf rfl rfl
end Go.Vw
