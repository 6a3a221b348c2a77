import Derived.Test.YtenhhokhkkfgbaaGreatC28
import Derived.Test.YtenhhokhkkfgbaaGreatC26
import Derived.Test.YtenhhokhkkfgbaaGreatC27
import Derived.Test.YtenhhokhkkfgbaaGreatC25
import Derived.Test.YtenhhokhkkfgbaaGreatC17
import Derived.Test.YtenhhokhkkfgbaaGreatC21
/-
  Part of the proof (texts BRows, DRowV, DInv, BClo, BChk, BRun, SMoreP, SMoreQ, SLMore).
-/
set_option linter.unusedVariables false
set_option linter.unusedSimpArgs false
namespace Go.Vw
open Go.Proofs Go.RowKit
set_option maxRecDepth 10000
inductive Rows {α:Type} (T:Store) (tys:List Ty) (enc:α→V):List α→List (List V)→List Nat→Prop
 | nil:Rows T tys enc [] [] []
 | cons {x:α} {r:List V} {ii:List Nat} {xs:List α} {rs:List (List V)} {ids:List Nat} (h:OwL T tys r (enc x).cells ii) (t:Rows T tys enc xs rs ids):Rows T tys enc (x::xs) (r::rs) (ii++ids)
section
variable {α:Type} {T T':Store} {tys:List Ty} {enc:α→V}
theorem Zl (hs : ∀ x,(enc x).cells.length=tys.length) : ∀ {xs:List α} {cells:List V} {ids:List Nat},OwL T (reps xs.length tys) cells (jo enc xs) ids → ∃ rs,cells=rs.flatten∧rs.length=xs.length∧Rows T tys enc xs rs ids
 | [],cells,ids,h=>by
  rw [List.length_nil,reps_zero] at h
  cases h with
  | nil=>exact ⟨[],rfl,rfl, .nil⟩
 | x::xs,cells,ids,h=>by
  rw [List.length_cons,zN] at h
  obtain ⟨r1,r2,x1,x2,i1,i2,rfl,hx,rfl,k1,k2⟩:=h.split
  have e:jo enc (x::xs)=(enc x).cells++jo enc xs:=by simp [jo]
  rw [e] at hx
  obtain ⟨rfl,rfl⟩:=List.append_inj hx (by rw [hs,k1.len.2])
  obtain ⟨rs,rfl,hl,hr⟩:=Zl hs k2
  exact ⟨r1::rs,rfl,by simp [hl], .cons k1 hr⟩
theorem Rows.owl {xs:List α} {rs:List (List V)} {ids:List Nat} (h:Rows T tys enc xs rs ids):OwL T (reps xs.length tys) rs.flatten (jo enc xs) ids:=by
 induction h with
 | nil=>exact .nil
 | @cons x r ii xs rs ids h t ih =>
  have e:jo enc (x::xs)=(enc x).cells++jo enc xs:=by simp [jo]
  rw [List.length_cons,zN,List.flatten_cons,e]
  exact h.append ih
theorem Rows.mono {xs:List α} {rs:List (List V)} {ids:List Nat} (h:Rows T tys enc xs rs ids):(∀ o∈ids,T'.get o=T.get o)→Rows T' tys enc xs rs ids:=by
 induction h with
 | nil=>exact fun _ => .nil
 | cons h t ih=>exact fun hk => .cons (h.mono fun o ho=>hk o (by simp [ho])) (ih fun o ho=>hk o (by simp [ho]))
theorem Rows.len {xs:List α} {rs:List (List V)} {ids:List Nat} (h:Rows T tys enc xs rs ids):rs.length=xs.length ∧ ∀ r∈rs,r.length=tys.length:=by
 induction h with
 | nil=>simp
 | cons h t ih=>exact ⟨by simp [ih.1],fun r hr=>by rcases List.mem_cons.1 hr with rfl | hr; exact h.len.1; exact ih.2 r hr⟩
theorem Rows.del {κ:Type} (p:κ→List V→Bool) (nx:κ→List V→κ) (q:κ→α→Bool) (ny:κ→α→κ) {xs:List α} {rs:List (List V)} {ids:List Nat} (h:Rows T tys enc xs rs ids) :
  (∀ x r ii,x∈xs→OwL T tys r (enc x).cells ii→(∀ o∈ii,o∈ids) → ∀ a,p a r=q a x∧nx a r=ny a x) → ∀ a, ∃ ids',Rows T tys enc (delG q ny a xs).1 (delG p nx a rs).1 ids'∧ids'.Sublist ids∧(delG p nx a rs).2=(delG q ny a xs).2:=by
 induction h with
 | nil=>exact fun _ a=>⟨[], .nil,List.Sublist.refl _,rfl⟩
 | @cons x r ii xs rs ids h t ih =>
  intro hk a
  obtain ⟨h1,h2⟩:=hk x r ii (by simp) h (fun o ho=>by simp [ho]) a
  obtain ⟨ids',k1,k2,k3⟩:=ih (fun y s jj hy ho hs=>hk y s jj (by simp [hy]) ho fun o h=>by simp [hs o h]) (ny a x)
  simp only [delG,h1,h2]
  by_cases hq:q a x=true
  ·rw [if_pos hq,if_pos hq]
   exact ⟨ids',k1,k2.trans (List.sublist_append_right _ _),k3⟩
  ·rw [if_neg hq,if_neg hq]
   exact ⟨ii++ids', .cons h k1,(List.Sublist.refl ii).append k2,k3⟩
end
theorem Rows.at {α:Type} {T:Store} {tys:List Ty} {enc:α→V} {xs:List α} {rs:List (List V)} {ids:List Nat} (h:Rows T tys enc xs rs ids) : ∀ {k:Nat} {x:α},xs[k]? = some x → ∃ (r1:List (List V)) (r:List V) (r2:List (List V)) (i1 ii i2:List Nat),rs=r1++r::r2∧r1.length=k∧ids=i1++(ii++i2)∧OwL T tys r (enc x).cells ii ∧
  ∀ (T':Store) (r':List V) (x':α) (ii':List Nat),(∀ o∈i1++i2,T'.get o=T.get o)→OwL T' tys r' (enc x').cells ii'→Rows T' tys enc (xs.set k x') (r1++r'::r2) (i1++(ii'++i2)):=by
 induction h with
 | nil=>intro k x hx; simp at hx
 | @cons y r ii xs rs ids h t ih =>
  intro k x hx
  cases k with
  | zero =>
   simp only [List.getElem?_cons_zero,Option.some.injEq] at hx
   subst hx
   exact ⟨[],r,rs,[],ii,ids,rfl,rfl,rfl,h,fun T' r' x' ii' hk ho=>Rows.cons (ids:=ids) ho (t.mono fun o hm=>hk o (by simpa using hm))⟩
  | succ k =>
   obtain ⟨r1,s,r2,i1,jj,i2,e1,e2,e3,e4,e5⟩:=ih (k:=k) (x:=x) (by simpa using hx)
   subst e1; subst e3
   refine ⟨r::r1,s,r2,ii++i1,jj,i2,rfl,by simp [e2],by simp,e4,fun T' r' x' ii' hk ho => ?_⟩
   have:=Rows.cons (x:=y) (h.mono fun o hm=>hk o (by simp [hm])) (e5 T' r' x' ii' (fun o hm=>hk o (by
    rcases List.mem_append.1 hm with hm | hm<;>simp [hm])) ho)
   simpa using this
theorem Ji {m:Nat} {r1:List (List V)} {r:List V} {r2:List (List V)} {k q:Nat} {w:V} (h1 : ∀ s∈r1,s.length=m) (hk:r1.length=k) (hr:r[q]? = some w):(r1++r::r2).flatten[k*m+q]? = some w:=by
 have hq:q<r.length:=(List.getElem?_eq_some_iff.1 hr).1
 have hl:=zG h1
 rw [hk] at hl
 rw [List.flatten_append,List.flatten_cons, ←hl,List.getElem?_append_right (by omega),Nat.add_sub_cancel_left,List.getElem?_append_left hq]
 exact hr
theorem Kb {m:Nat} {r1:List (List V)} {r:List V} {r2:List (List V)} {k q:Nat} {w:V} (h1 : ∀ s∈r1,s.length=m) (hk:r1.length=k) (hq:q<r.length):(r1++r::r2).flatten.set (k*m+q) w=(r1++r.set q w::r2).flatten:=by
 have hl:=zG h1
 rw [hk] at hl
 rw [List.flatten_append,List.flatten_cons, ←hl,List.set_append_right _ _ (by omega),Nat.add_sub_cancel_left,List.set_append_left _ _ hq,List.flatten_append,List.flatten_cons]
theorem ins_row {T:Store} {x:Ss.Ins} {r:List V} {ii:List Nat} (h:OwL T insD r (jl x).cells ii) : ∃ oa ou,r=[vint x.op,vu x.n, .slice oa 0 x.args.length, .slice ou 0 x.outs.length]∧ii=[oa,ou]∧T.get oa=some (1,x.args.map vint)∧T.get ou=some (1,x.outs.map vint):=by
 rw [jU] at h
 generalize hA:vl vint x.args=A at h
 generalize hB:vl vint x.outs=B at h
 cases h with
 | c h1 h=>cases h with
  | c h2 h=>cases h with
   | @s _ _ _ _ ca ys i j oa ho hs d h=>cases h with
    | @s _ _ _ _ cb zs i2 j2 ou ho2 hs2 d2 h=>cases h with
     | nil =>
      have e1:ys=x.args.map vint:=by
       have:V.list (x.args.map vint)=V.list ys:=hA
       exact (V.list.inj this).symm
      have e2:zs=x.outs.map vint:=by
       have:V.list (x.outs.map vint)=V.list zs:=hB
       exact (V.list.inj this).symm
      subst e1; subst e2
      have c1:=zm (n:=(x.args.map vint).length*1) (by rw [←KT]; exact d)
      have c2:=zm (n:=(x.outs.map vint).length*1) (by rw [←KT]; exact d2)
      rw [qJ,qq] at c1 c2
      refine ⟨oa,ou,by simp, ?_, ?_, ?_⟩
      ·rw [c1.2,c2.2]; rfl
      ·rw [ho,c1.1]; rfl
      ·rw [ho2,c2.1]; rfl
theorem block_row {T:Store} {b:Ss.Block} {r:List V} {ii:List Nat} (h:OwL T blkD r (jc b).cells ii) : ∃ (op oc oe:Nat) (rs:List (List V)) (ce:List V) (ip ic ie:List Nat),r=[.slice op 0 b.params.length, .slice oc 0 b.code.length,vint b.term.kind,vint b.term.arg, .slice oe 0 b.term.to.length,vl vint b.term.args]∧ii=op::oc::(ic++oe::ie) ∧
  T.get op=some (1,b.params.map vint)∧T.get oc=some (4,rs.flatten)∧Rows T insD jl b.code rs ic∧T.get oe=some (2,ce)∧OwL T (reps b.term.to.length Km) ce (jo jh b.term.to) ie:=by
 rw [jB] at h
 generalize hA:vl vint b.params=A at h
 generalize hB:vl jl b.code=B at h
 generalize hC:vl jh b.term.to=C at h
 cases h with
 | @s _ _ _ _ ca ys i j op ho hs d h=>cases h with
  | @s _ _ _ _ cb zs i2 j2 oc ho2 hs2 d2 h=>cases h with
   | c h1 h=>cases h with
    | c h2 h=>cases h with
     | @s _ _ _ _ cc us i3 j3 oe ho3 hs3 d3 h=>cases h with
      | c h3 h=>cases h with
       | nil =>
        have e1:ys=b.params.map vint:=by
         have:V.list (b.params.map vint)=V.list ys:=hA
         exact (V.list.inj this).symm
        have e2:zs=b.code.map jl:=by
         have:V.list (b.code.map jl)=V.list zs:=hB
         exact (V.list.inj this).symm
        have e3:us=b.term.to.map jh:=by
         have:V.list (b.term.to.map jh)=V.list us:=hC
         exact (V.list.inj this).symm
        subst e1; subst e2; subst e3
        have c1:=zm (n:=(b.params.map vint).length*1) (by rw [←KT]; exact d)
        rw [qJ,qq] at c1
        rw [List.length_map,qJ] at d2 d3
        obtain ⟨rs,rfl,hl,hr⟩:=Zl (fun x=>by rw [jU]; rfl) d2
        refine ⟨op,oc,oe,rs,cc,[],i2,i3,by simp, ?_, ?_,ho2,hr,ho3,d3⟩
        ·rw [c1.2]; simp
        ·rw [ho,c1.1]; rfl
theorem jbI {T:Store} {b:Ss.Block} {op oc oe:Nat} {rs:List (List V)} {ce:List V} {ic ie:List Nat} (h1:T.get op=some (1,b.params.map vint)) (h2:T.get oc=some (4,rs.flatten)) (h3:Rows T insD jl b.code rs ic) (h4:T.get oe=some (2,ce)) (h5:OwL T (reps b.term.to.length Km) ce (jo jh b.term.to) ie) :
  OwL T blkD [.slice op 0 b.params.length, .slice oc 0 b.code.length,vint b.term.kind,vint b.term.arg, .slice oe 0 b.term.to.length,vl vint b.term.args] (jc b).cells (op::oc::(ic++oe::ie)):=by
 rw [jB]
 have hP:OwL T (.s [.c]::[.s insD, .c, .c, .s Km, .c]) (.slice op 0 b.params.length::[.slice oc 0 b.code.length,vint b.term.kind,vint b.term.arg, .slice oe 0 b.term.to.length,vl vint b.term.args]) (vl vint b.params::[vl jl b.code,vint b.term.kind,vint b.term.arg,vl jh b.term.to,vl vint b.term.args]) (op::oc::(ic++oe::ie)):=by
  refine OwL.slice (s:=1) (enc:=vint) (fun _=>rfl) (fun _=>rfl) b.params (by rw [qq]; exact h1) ?_
  have h6:=h3.owl
  have t1:OwL T [.s Km, .c] [.slice oe 0 b.term.to.length,vl vint b.term.args] [vl jh b.term.to,vl vint b.term.args] (oe::ie):=by
   have:=OwL.s (S:=T) (o:=oe) (tys:=Km) (cells:=ce) (ys:=b.term.to.map jh) (i:=ie) (j:=[]) h4 (fun y hy=>(by
    obtain ⟨e,_,rfl⟩:=List.mem_map.1 hy
    exact ⟨by rw [jH]; rfl,qX e⟩)) (by rw [List.length_map,qJ]; exact h5) (.c (x:=vl vint b.term.args) rfl .nil)
   rw [List.length_map,List.append_nil] at this
   exact this
  have:=OwL.s (S:=T) (o:=oc) (tys:=insD) (cells:=rs.flatten) (ys:=b.code.map jl) (i:=ic) (j:=oe::ie) h2 (fun y hy=>(by
   obtain ⟨e,_,rfl⟩:=List.mem_map.1 hy
   exact ⟨by rw [jU]; rfl,qh e⟩)) (by rw [List.length_map,qJ]; exact h6) (.c (x:=vint b.term.kind) rfl (.c (x:=vint b.term.arg) rfl t1))
  rw [List.length_map] at this
  exact this
 exact hP
end Go.Vw

namespace Go.Vw
open Go.Proofs Go.RowKit
set_option maxRecDepth 10000
/-! A table of lists, each one's own. -/
abbrev rowD:List Ty:=[.s [.c]]
theorem row_row {T:Store} {l:List Int} {r:List V} {ii:List Nat} (h:OwL T rowD r (vl vint l).cells ii) : ∃ o,r=[.slice o 0 l.length]∧ii=[o]∧T.get o=some (1,l.map vint):=by
 rw [KN] at h
 generalize hA:vl vint l=A at h
 cases h with
 | @s _ _ _ _ ca ys i j op ho hs d h=>cases h with
  | nil =>
   have e1:ys=l.map vint:=by
    have:V.list (l.map vint)=V.list ys:=hA
    exact (V.list.inj this).symm
   subst e1
   have c1:=zm (n:=(l.map vint).length*1) (by rw [←KT]; exact d)
   rw [qJ,qq] at c1
   refine ⟨op,by simp, ?_, ?_⟩
   ·rw [c1.2]; rfl
   ·rw [ho,c1.1]; rfl
theorem row_mk {T:Store} {l:List Int} {o:Nat} (h:T.get o=some (1,l.map vint)):OwL T rowD [.slice o 0 l.length] (vl vint l).cells [o]:=by
 rw [KN]
 exact OwL.slice (enc:=vint) (fun _=>rfl) (fun _=>rfl) l (by rw [qq]; exact h) .nil
def Tab (T:Store) (N oa:Nat) (t:List (List Int)):Prop := ∃ (rs:List (List V)) (ids:List Nat),T.get oa=some (1,rs.flatten)∧Rows T rowD (vl vint) t rs ids∧ids.Nodup ∧ ∀ o∈ids,N≤o
theorem Tab.mono {T T':Store} {N oa:Nat} {t:List (List Int)} (h:Tab T N oa t) (h0:T'.get oa=T.get oa) (h1 : ∀ o,N≤o→(T.get o).isSome=true→T'.get o=T.get o):Tab T' N oa t:=by
 obtain ⟨rs,ids,g,hr,hn,hi⟩:=h
 exact ⟨rs,ids,h0.trans g,hr.mono fun o ho=>h1 o (hi o ho) (hr.owl.alive o ho),hn,hi⟩
theorem rows1_flat {T:Store} {t:List (List Int)} {rs:List (List V)} {ids:List Nat} (h:Rows T rowD (vl vint) t rs ids):rs.flatten.length=t.length:=by
 have h1:=h.len
 rw [zG (m:=1) fun r hr=>h1.2 r hr,h1.1]; omega
theorem Tab.at {T:Store} {N oa:Nat} {t:List (List Int)} (h:Tab T N oa t) {v:Nat} (hv:v<t.length) : ∃ (cells:List V) (o:Nat),T.get oa=some (1,cells)∧cells.length=t.length∧cells[v]? = some (.slice o 0 t[v].length)∧T.get o=some (1,t[v].map vint)∧N≤o ∧
  ∀ (T':Store) (o':Nat) (l':List Int),N≤o'→(T.get o'=none∨o'=o)→(∀ x,N≤x→x≠o→(T.get x).isSome=true→T'.get x=T.get x)→T'.get o'=some (1,l'.map vint)→T'.get oa=some (1,cells.set v (.slice o' 0 l'.length))→Tab T' N oa (t.set v l'):=by
 obtain ⟨rs,ids,g,hr,hn,hi⟩:=h
 obtain ⟨r1,r,r2,i1,ii,i2,rfl,hl,rfl,hrow,hput⟩:=hr.at (List.getElem?_eq_getElem hv)
 obtain ⟨o,rfl,rfl,ho⟩:=row_row hrow
 have hlen:=hr.len
 have h1 : ∀ s∈r1,s.length=1:=fun s hs=>hlen.2 s (by simp [hs])
 have hg:=Ji (m:=1) (r1:=r1) (r:=[.slice o 0 t[v].length]) (r2:=r2) (q:=0) (w := .slice o 0 t[v].length) h1 hl rfl
 have alive:=hr.owl.alive
 refine ⟨_,o,g,rows1_flat hr,by simpa using hg,ho,hi o (by simp),fun T' o' l' hN ho' hk hg' hga => ?_⟩
 have hs:=Kb (m:=1) (r1:=r1) (r:=[.slice o 0 t[v].length]) (r2:=r2) (q:=0) (w := .slice o' 0 l'.length) h1 hl (by simp)
 simp only [Nat.mul_one,Nat.add_zero,List.set_cons_zero] at hs
 rw [hs] at hga
 have hno : ∀ x∈i1++i2,x≠o:=by
  rintro x hx rfl
  have hc:=List.nodup_iff_count.1 hn x
  have hc1:1≤(i1++i2).count x:=List.count_pos_iff.2 hx
  simp only [List.count_append,List.count_cons,beq_self_eq_true,if_true,List.count_nil] at hc hc1
  omega
 refine ⟨_,i1++([o']++i2),hga,hput T' [.slice o' 0 l'.length] l' [o'] (fun x hx => ?_) (row_mk hg'), ?_,fun x hx => ?_⟩
 ·have hxm:x∈i1++([o]++i2):=by
   rcases List.mem_append.1 hx with h | h<;>simp [h]
  exact hk x (hi x hxm) (hno x hx) (alive x hxm)
 ·rcases ho' with ho' | rfl
  ·have hnm : ∀ x∈i1++i2,x≠o':=by
    rintro x hx rfl
    have:=alive x (by rcases List.mem_append.1 hx with h | h<;>simp [h])
    rw [ho'] at this; cases this
   refine List.nodup_iff_count.2 fun x => ?_
   have hc:=List.nodup_iff_count.1 hn x
   simp only [List.count_append,List.count_cons,List.count_nil] at hc ⊢
   by_cases e:o'=x
   ·have hz:(i1++i2).count x=0:=List.count_eq_zero.2 fun hm=>hnm x hm e.symm
    simp only [List.count_append] at hz
    have:(if (o'==x)=true then 1 else 0)≤1:=by split<;>omega
    omega
   ·have:(o'==x)=false:=by simpa using e
    rw [this]
    have h0:(if (o==x)=true then 1 else 0)≥0:=Nat.zero_le _
    simp only [Bool.false_eq_true,if_false]
    omega
  ·exact hn
 ·simp only [List.mem_append,List.mem_singleton] at hx
  rcases hx with h | h | h
  ·exact hi x (by simp [h])
  ·omega
  ·exact hi x (by simp [h])
theorem Tab.freeze {T:Store} {N oa:Nat} {t:List (List Int)} (h:Tab T N oa t) (hN:oa<N) : ∃ ids:List Nat,Ghost (.slice oa 0 t.length) T (vl (vl vint) t) (T.dels (oa::ids)) ∧ ∀ o∈ids,N≤o:=by
 obtain ⟨rs,ids,g,hr,hn,hi⟩:=h
 refine ⟨ids, ?_,hi⟩
 have hw:=hr.owl
 have hs:=OwL.s (S:=T) (o:=oa) (tys:=rowD) (cells:=rs.flatten) (ys:=t.map (vl vint)) (i:=ids) (j:=[]) (by simpa using g) (fun y hy=>by
  obtain ⟨l,_,rfl⟩:=List.mem_map.1 hy
  exact ⟨by rw [KN]; rfl,rfl⟩) (by rw [List.length_map,qJ]; exact hw) .nil
 rw [List.length_map] at hs
 have hd:(oa::ids).Nodup:=List.nodup_cons.2 ⟨fun hm=>by have:=hi _ hm; omega,hn⟩
 have:=hs.freeze (by simpa using hd) T fun _ _=>rfl
 simp only [List.append_nil] at this
 intro m β w v hS hrep
 obtain ⟨m',β',h1,h2,h3⟩:=this m β w [v] hS ((RepL.nil m β).cons hrep)
 exact ⟨m',β',h1,h2,h3.2 0 _ v rfl rfl⟩
theorem tab_void {Nf b:Nat} {σ:Fr} {T:Store} {oa n:Nat} (hw:T.Wf) (g:T.get oa=some (1,List.replicate n V.nils)) : ∃ T':Store,Reach Nf b σ T σ T'∧Tab T' T.nx oa (List.replicate n [])∧T.nx≤T'.nx ∧ ∀ o,o<T.nx→o≠oa→T'.get o=T.get o:=by
 have ho:=jr hw g
 suffices ∀ i,i≤n→Reach Nf b σ T σ (St T [(oa,some (1,(List.range i).map (fun j=>V.slice (T.nx+j) 0 0)++List.replicate (n-i) V.nils))] (List.replicate i (some (1,[])))) by
  refine ⟨_,this n (Nat.le_refl _),⟨(List.range n).map fun j=>[V.slice (T.nx+j) 0 0],(List.range n).map fun j=>T.nx+j, ?_, ?_, ?_, ?_⟩,by rw [jx,lid]; omega,fun o h1 h2 => ?_⟩
  ·rw [jk ho]
   simp only [uGet,if_true,Nat.sub_self,List.replicate_zero,List.append_nil,Option.some.injEq,Prod.mk.injEq,true_and]
   rw [←List.flatMap_def]
   induction List.range n with
   | nil=>rfl
   | cons a l ih=>simp [ih]
  ·have key : ∀ l:List Nat,(∀ j∈l,j<n)→Rows (St T [(oa,some (1,(List.range n).map (fun j=>V.slice (T.nx+j) 0 0)++List.replicate (n-n) V.nils))] (List.replicate n (some (1,[])))) rowD (vl vint) (List.replicate l.length []) (l.map fun j=>[V.slice (T.nx+j) 0 0]) (l.map fun j=>T.nx+j):=by
    intro l
    induction l with
    | nil=>exact fun _ => .nil
    | cons j l ih =>
     intro hl
     refine Rows.cons (ii:=[T.nx+j]) (row_mk (l:=[]) ?_) (ih fun k hk=>hl k (by simp [hk]))
     have:T.nx+j=lid T.nx j:=rfl
     rw [this,jv,List.getElem?_replicate,if_pos (hl j (by simp))]; rfl
   have:=key (List.range n) fun j hj=>List.mem_range.1 hj
   rwa [List.length_range] at this
  ·exact List.pairwise_map.2 ((List.nodup_range (n:=n)).imp fun h=>by omega)
  ·intro o ho
   obtain ⟨j,_,rfl⟩:=List.mem_map.1 ho
   omega
  ·rw [jk h1]; simp [uGet,h2]
 intro i
 induction i with
 | zero =>
  intro _
  have:St T [(oa,some (1,(List.range 0).map (fun j=>V.slice (T.nx+j) 0 0)++List.replicate (n-0) V.nils))] (List.replicate 0 (some (1,[])))=T:=by
   refine Yj hw _ fun p hp => ?_
   simp only [List.mem_singleton] at hp
   subst hp
   simpa using g
  rw [this]
  exact Reach.refl _ _
 | succ i ih =>
  intro hi
  refine (ih (by omega)).trans ?_
  have hg:=Ghost.nils (St T [(oa,some (1,(List.range i).map (fun j=>V.slice (T.nx+j) 0 0)++List.replicate (n-i) V.nils))] (List.replicate i (some (1,[])))) 1
  rw [YD,jx,List.length_replicate] at hg
  have hix:((List.range i).map (fun j=>V.slice (T.nx+j) 0 0)++List.replicate (n-i) V.nils)[i]? = some .nils:=by
   rw [List.getElem?_append_right (by simp),List.length_map,List.length_range,Nat.sub_self,List.getElem?_replicate,if_pos (by omega)]
  have:=Reach.cell (N:=Nf) (b0:=b) (σ:=σ) (o:=oa) (i:=i) (s:=1) hg rfl (by rw [jk ho]; simp [uGet]) hix (by rw [jk ho]; simp [uGet])
  have e:((St T [(oa,some (1,(List.range i).map (fun j=>V.slice (T.nx+j) 0 0)++List.replicate (n-i) V.nils))] (List.replicate i (some (1,[]))++[some (1,[])])).upd oa (1,((List.range i).map (fun j=>V.slice (T.nx+j) 0 0)++List.replicate (n-i) V.nils).set i (.slice (lid T.nx i) 0 0))) =
    St T [(oa,some (1,(List.range (i+1)).map (fun j=>V.slice (T.nx+j) 0 0)++List.replicate (n-(i+1)) V.nils))] (List.replicate (i+1) (some (1,[]))):=by
   rw [jP ho, ←List.replicate_succ']
   simp only [uSet,if_true]
   rw [List.set_append_right _ _ (by simp),List.length_map,List.length_range,Nat.sub_self,show n-i=(n-(i+1))+1 by omega,List.replicate_succ,List.set_cons_zero,List.range_succ,List.map_append,List.append_assoc]
   rfl
  rw [e] at this
  exact this
end Go.Vw

namespace Go.Vw
open Go.Proofs Go.RowKit
set_option maxRecDepth 10000
/-! Blocks of one's own, of which one is turned at a time. -/
structure BInv (S H:Store) (hs:List Nat) (ob:Nat) (bs:List Ss.Block) (T:Store) (rs:List (List V)) (ids:List Nat):Prop where
 old:Agree S T
 hd : ∀ o∈hs,T.get o=H.get o
 al : ∀ o∈hs,(H.get o).isSome=true
 cb:T.get ob=some (6,rs.flatten)
 own:Rows T blkD jc bs rs ids
 nd:(hs++ob::ids).Nodup
 lt : ∀ o∈hs++ob::ids,S.nx≤o
theorem some_lt {T:Store} (hw:T.Wf) {o:Nat} (h:(T.get o).isSome=true):o<T.nx:=by
 cases hg:T.get o with
 | none=>rw [hg] at h; cases h
 | some c=>exact jr hw hg
theorem BInv.all_lt {S H:Store} {hs:List Nat} {ob:Nat} {bs:List Ss.Block} {T:Store} {rs:List (List V)} {ids:List Nat} (h:BInv S H hs ob bs T rs ids) (hw:T.Wf) : ∀ o∈hs++ob::ids,o<T.nx:=fun o ho=>by
 refine some_lt hw ?_
 rcases List.mem_append.1 ho with ho | ho
 ·rw [h.hd o ho]; exact h.al o ho
 ·rcases List.mem_cons.1 ho with rfl | ho
  ·rw [h.cb]; rfl
  ·exact h.own.owl.alive o ho
theorem BInv.at {S H:Store} {hs:List Nat} {ob:Nat} {bs:List Ss.Block} {T:Store} {rs:List (List V)} {ids:List Nat} (h:BInv S H hs ob bs T rs ids) (hw:T.Wf) {i:Nat} (hi:i<bs.length) :
  ∃ (r1:List (List V)) (r2:List (List V)) (i1 i2:List Nat) (op oc oe:Nat) (rc:List (List V)) (ce:List V) (ip ic ie:List Nat),rs=r1++[.slice op 0 bs[i].params.length, .slice oc 0 bs[i].code.length,vint bs[i].term.kind,vint bs[i].term.arg, .slice oe 0 bs[i].term.to.length,vl vint bs[i].term.args]::r2∧(∀ s∈r1,s.length=6)∧r1.length=i ∧
   T.get op=some (1,bs[i].params.map vint)∧T.get oc=some (4,rc.flatten)∧Rows T insD jl bs[i].code rc ic∧T.get oe=some (2,ce)∧OwL T (reps bs[i].term.to.length Km) ce (jo jh bs[i].term.to) ie ∧
   ids=i1++((op::oc::(ic++oe::ie))++i2)∧(hs++ob::(op::oc::(ic++oe::ie))).Nodup ∧
   ∀ (T':Store) (r':List V) (b':Ss.Block) (ii':List Nat),T.nx≤T'.nx→(∀ o,o<T.nx→o≠ob→o∉op::oc::(ic++oe::ie)→T'.get o=T.get o)→T'.get ob=some (6,(r1++r'::r2).flatten)→OwL T' blkD r' (jc b').cells ii'→ii'.Nodup→(∀ o∈ii',o∈op::oc::(ic++oe::ie)∨T.nx≤o) →
    BInv S H hs ob (bs.set i b') T' (r1++r'::r2) (i1++(ii'++i2)):=by
 have hlt:=h.all_lt hw
 obtain ⟨old,hd,al,cb,own,nd,lt⟩:=h
 obtain ⟨r1,r,r2,i1,ii,i2,rfl,hl,rfl,hb,hput⟩:=own.at (List.getElem?_eq_getElem hi)
 have hr6:=own.len.2
 obtain ⟨op,oc,oe,rc,ce,ip,ic,ie,rfl,rfl,hop,hoc,hrc,hoe,hie⟩:=block_row hb
 have sub:List.Sublist (op::oc::(ic++oe::ie)) (i1++((op::oc::(ic++oe::ie))++i2)):=(List.sublist_append_left _ _).trans (List.sublist_append_right _ _)
 refine ⟨r1,r2,i1,i2,op,oc,oe,rc,ce,ip,ic,ie,rfl,fun s hs=>hr6 s (by simp [hs]),hl,hop,hoc,hrc,hoe,hie,rfl,List.Sublist.nodup ((List.Sublist.refl hs).append (sub.cons_cons ob)) nd, ?_⟩
 intro T' r' b' ii' hnx hk hcb how hnd hin
 generalize op::oc::(ic++oe::ie)=ii at *
 have cnt : ∀ o,(hs++ob::(i1++(ii++i2))).count o≤1:=fun o=>List.nodup_iff_count.1 nd o
 simp only [List.count_append,List.count_cons] at cnt
 have pos : ∀ {o:Nat} {l:List Nat},o∈l→1≤l.count o:=fun h=>List.count_pos_iff.2 h
 have nob : ∀ o,o∈hs∨o∈i1∨o∈ii∨o∈i2→o≠ob:=by
  rintro o ho rfl
  have c:=cnt o
  simp only [beq_self_eq_true,if_true] at c
  rcases ho with ho | ho | ho | ho<;>(have:=pos ho; omega)
 have nii : ∀ o,o∈hs∨o∈i1∨o∈i2→o∉ii:=by
  intro o ho hm
  have c:=cnt o
  have:=pos hm
  rcases ho with ho | ho | ho<;>(have:=pos ho; omega)
 have keep : ∀ o,o∈hs∨o∈i1∨o∈i2→T'.get o=T.get o:=fun o ho=>by
  refine hk o (hlt o ?_) (nob o ?_) (nii o ho)
  ·rcases ho with ho | ho | ho<;>simp [ho]
  ·rcases ho with ho | ho | ho<;>simp [ho]
 refine ⟨⟨Nat.le_trans old.1 hnx,fun o ho => ?_⟩,fun o ho=>(keep o (.inl ho)).trans (hd o ho),al,hcb,hput T' r' b' ii' (fun o ho=>keep o ?_) how, ?_,fun o ho => ?_⟩
 ·rw [hk o (Nat.lt_of_lt_of_le ho old.1) ?_ ?_]
  ·exact old.2 o ho
  ·rintro rfl
   have:=lt o (by simp); omega
  ·intro hm
   have:=lt o (by simp [hm]); omega
 ·rcases List.mem_append.1 ho with ho | ho
  ·exact .inr (.inl ho)
  ·exact .inr (.inr ho)
 ·refine List.nodup_iff_count.2 fun o => ?_
  simp only [List.count_append,List.count_cons]
  have c:=cnt o
  by_cases hm:o∈ii'
  ·have h1:=List.nodup_iff_count.1 hnd o
   rcases hin o hm with hm2 | hge
   ·have:=pos hm2; omega
   ·have z1:hs.count o=0:=List.count_eq_zero.2 fun h=>by have:=hlt o (by simp [h]); omega
    have z2:i1.count o=0:=List.count_eq_zero.2 fun h=>by have:=hlt o (by simp [h]); omega
    have z3:i2.count o=0:=List.count_eq_zero.2 fun h=>by have:=hlt o (by simp [h]); omega
    have z4:(if (ob==o)=true then 1 else 0)=0:=by
     have:=hlt ob (by simp)
     rw [if_neg]
     simp only [beq_iff_eq]; omega
    omega
  ·have:ii'.count o=0:=List.count_eq_zero.2 hm
   omega
 ·simp only [List.mem_append,List.mem_cons] at ho
  rcases ho with ho | ho | ho | ho | ho
  ·exact lt o (by simp [ho])
  ·exact lt o (by simp [ho])
  ·exact lt o (by simp [ho])
  ·rcases hin o ho with h | h
   ·exact lt o (by simp [h])
   ·have:=old.1; omega
  ·exact lt o (by simp [ho])
end Go.Vw

namespace Ss
open Go.Vw.G
def UpEnds (near:List Int):Nat→Int→Prop
 | 0,b=>b<0
 | k+1,b=>b<0∨(okIx near b∧UpEnds near k (near.getD b.toNat 0))
end Ss
namespace Go.Vw
open Go.Proofs Go.RowKit
set_option maxRecDepth 10000
set_option maxHeartbeats 2000000
def encFar (M:Ss.Far):List V:=M.map fun e => .tuple [.agg [.int .i64 e.1.1, .int .i64 e.1.2], .int .u64 e.2]
end Go.Vw

namespace Ss
open Go.Vw Go.Vw.G
theorem eqF_len {α:Type} {p:α→α→Bool} : ∀ {l m:List α},eqF p l m=true→l.length=m.length
 | [],[],_=>rfl
 | [],_::_,h=>by simp [eqF] at h
 | _::_,[],h=>by simp [eqF] at h
 | x::l,y::m,h=>by
  have:eqF p l m=true:=by
   simp only [eqF,Bool.and_eq_true] at h
   first | exact h.2 | exact h.2.2
  simp [eqF_len this]
structure Graphic (f:Fn):Prop where
 ok:Ok (nats (succs f.blocks))
 right:G.right (succs f.blocks)=true
 ord:G.ordI (succs f.blocks)=order (nats (succs f.blocks))
 near:G.nearI (succs f.blocks)=rNear (nats (succs f.blocks))
 len:(order (nats (succs f.blocks))).length=f.blocks.length
 lt : ∀ n∈order (nats (succs f.blocks)),n<f.blocks.length
 nlen:(rNear (nats (succs f.blocks))).length=f.blocks.length
 ends : ∀ n∈order (nats (succs f.blocks)),UpEnds (rNear (nats (succs f.blocks))) 256 n
 blocks:f.blocks.length≤256
theorem check_small {e:Env} {f:Fn} (h:check e f=true):f.small=true:=by
 have:=(jaV h).1
 unfold checkHead at this
 simp only [Bool.and_eq_true] at this
 exact this.1.1.1.1.2
end Ss

namespace Go.Vw
open Go.Proofs Go.RowKit
set_option maxRecDepth 10000
set_option maxHeartbeats 4000000
theorem vcalls_cut {P:Program} {f:FuncId} {args:List V} {S S':Store} {X:V} (hw:S'.Wf) (hn:S'.nx=S.nx) (hX:X.ids (fun o=>decide (o<S.nx))=true)
  (h:VCalls P f args S fun r T=>r=X∧S'.nx≤T.nx ∧ ∀ o,o<S'.nx→T.get o=S'.get o):VCalls P f args S fun r T=>r=X∧T=S':=by
 refine qQ (h.mono ?_)
 rintro r T ⟨rfl,h1,h2⟩
 refine ⟨r,S', ?_,rfl,rfl⟩
 rw [←hn]
 exact GhostB.cut hw ⟨h1,h2⟩ (by rw [hn]; exact hX)
def vToInt:V→Int
 | .int _ n=>n
 | _=>0
theorem jaM (l:List Int):(l.map vint).map vToInt=l:=by
 rw [List.map_map]; exact (List.map_congr_left fun x _=>rfl).trans (List.map_id _)
def insOf (S:Store):List V→Ss.Ins
 | [.int _ op, .int _ n, .slice oa _ _,_]=>⟨op,n,((S.get oa).getD (0,[])).2.map vToInt,[]⟩
 | _=>default
theorem jbG {κ ρ:Type} (p:κ→ρ→Bool) (nx:κ→ρ→κ) : ∀ (rs:List ρ) (a:κ), ∀ r∈(delG p nx a rs).1,r∈rs
 | [],a,r,h=>by simp [delG] at h
 | x::rs,a,r,h=>by
  rw [delG] at h
  split at h
  ·exact List.mem_cons_of_mem _ (jbG p nx rs _ r h)
  ·rcases List.mem_cons.1 h with rfl | h
   ·simp
   ·exact List.mem_cons_of_mem _ (jbG p nx rs _ r h)
structure RunInv (S:Store) (p4 pg pr pm pf ot ob:Nat) (hd:List V) (ts near:List Int) (bs:List Ss.Block) (M:Ss.Far) (T:Store) (rs:List (List V)) (ids:List Nat):Prop where
 old:Agree S T
 c4:T.get p4=some (4,[V.nils,V.nils,V.nils,V.nils])
 cg:T.get pg=some (4,hd)
 cr:T.get pr=some (1,[vl vint near])
 cm:T.get pm=some (0,encFar M)
 cf:T.get pf=some (1,[.map pm])
 ct:T.get ot=some (1,ts.map vint)
 cb:T.get ob=some (6,rs.flatten)
 own:Rows T blkD jc bs rs ids
 nd:(p4::pg::pr::pf::pm::ot::ob::ids).Nodup
 lt : ∀ o∈p4::pg::pr::pf::pm::ot::ob::ids,S.nx≤o
 fits : ∀ b∈bs, ∀ x∈b.code,x.Fits∧(x.op=257→x.args≠[]∧x.n≤8589934592)
 len : ∀ b∈bs,b.code.length<2^62
end Go.Vw

namespace Ss
/-! ### An instruction more -/
def moreX (ts:List Int) (b:Block):Ins:=b.params.foldl (fun (x:Ins) (p:Int)=>if 0≤p∧p<(ts.length:Int)∧ts.getD p.toNat 0=126 then ⟨124,0,[p,p],[(ts.length:Int)]⟩ else x) ⟨256,9,[],[(ts.length:Int)]⟩
def addB (b:Block) (x:Ins):Block:=⟨b.params,b.code++[x],b.term⟩
def more (f:Fn) (j:Nat):Fn:=⟨f.sig,f.types++[126],f.blocks.set j (addB (f.blocks.getD j default) (moreX f.types (f.blocks.getD j default)))⟩
theorem Kh : ∀ {l:List Block} {i:Nat} {ds d:List Def},putBlocks i ds l=some d → ∀ (j:Nat) (b:Block),l[j]? = some b → ∀ v∈b.params,dAt d v=⟨true,((i+j:Nat):Int), -1⟩
 | [],i,ds,d,h=>by simp
 | b::l,i,ds,d,h=>by
  simp only [putBlocks] at h
  obtain ⟨d2,h1,h2⟩:=Option.bind_eq_some_iff.1 h
  obtain ⟨d1,h3,h4⟩:=Option.bind_eq_some_iff.1 h1
  obtain ⟨p1,q1⟩:=YP h3
  obtain ⟨p2,_⟩:=Ku h4
  obtain ⟨p3,_⟩:=JD h2
  intro j y hj v hv
  cases j with
  | zero =>
   simp only [List.getElem?_cons_zero,Option.some.injEq] at hj
   subst hj
   have n2:v∉jbq b.code:=fun hm=>by
    have:=p2.new v hm
    rw [p1.made v hv] at this; cases this
   have e2:dAt d2 v=dAt d1 v:=p2.keep v (p1.pos v hv) n2
   have n3:v∉allL l:=fun hm=>by
    have:=p3.new v hm
    rw [e2,p1.made v hv] at this; cases this
   rw [p3.keep v (p1.pos v hv) n3,e2,q1 v hv]; simp
  | succ j =>
   have:=Kh h2 j y (by simpa using hj) v hv
   rw [this]; congr 2; omega
end Ss

namespace Ss
def NewX (ts ps:List Int) (x:Ins):Prop:=x=⟨256,9,[],[(ts.length:Int)]⟩ ∨ ∃ p∈ps,0≤p∧p<ts.length∧ts.getD p.toNat 0=126∧x=⟨124,0,[p,p],[(ts.length:Int)]⟩
theorem NewX.op {ts ps:List Int} {x:Ins} (h:NewX ts ps x):x.op≠258∧x.outs=[(ts.length:Int)]∧x.args.length≤2:=by
 rcases h with rfl | ⟨p,_,_,_,_,rfl⟩<;>simp
end Ss

namespace Go.Vw
open Go.Proofs Go.RowKit
set_option maxRecDepth 10000
set_option maxHeartbeats 2000000
theorem fn_ghostT {S:Store} {fi fo ts:List Int} {bs:List Ss.Block} {cells:List V} {ot ob n m:Nat} {ids:List Nat} (h:OwL S (reps n blkT) cells (jo jc bs) ids) (hb:S.get ob=some (6,cells)) (hn:bs.length=n) (ht:S.get ot=some (1,ts.map vint)) (hm:ts.length=m) (hd:(ot::ob::ids).Nodup) :
  Ghost (.agg [vl vint fi,vl vint fo, .slice ot 0 m, .slice ob 0 n]) S (.agg [vl vint fi,vl vint fo,vl vint ts,vl jc bs]) (S.dels (ot::ob::ids)):=by
 subst hn
 subst hm
 refine ZQ ?_
 have hw:OwL S [.c, .c, .s (List.replicate 1 .c), .s blkT] [vl vint fi,vl vint fo, .slice ot 0 ts.length, .slice ob 0 bs.length] [vl vint fi,vl vint fo,vl vint ts,vl jc bs] (ot::ob::ids):=by
  refine .c rfl (.c rfl (OwL.slice (enc:=vint) (fun _=>rfl) (fun _=>rfl) ts (by rw [qq]; exact ht) ?_))
  have:=OwL.s (S:=S) (o:=ob) (tys:=blkT) (cells:=cells) (ys:=bs.map jc) (i:=ids) (j:=[]) hb (fun y hy=>(by
   obtain ⟨b,_,rfl⟩:=List.mem_map.1 hy
   exact ⟨by rw [jB]; rfl,Js b⟩)) (by rw [List.length_map,qJ]; exact h) .nil
  rw [List.length_map,List.append_nil] at this
  exact this
 exact hw.freeze hd S fun _ _=>rfl
end Go.Vw
