import Derived.Test.YtkfllaokjaldnaaGreatC26
import Derived.Test.YtkfllaokjaldnaaGreatC28
import Derived.Test.YtkfllaokjaldnaaGreatC18
/-
  Part of the proof (texts LStep, LBin).
-/
set_option linter.unusedVariables false
set_option linter.unusedSimpArgs false
namespace Go.Vw
open Go.Proofs Go.RowKit
set_option maxRecDepth 10000
set_option maxHeartbeats 2000000
theorem lnodup_ne {hs:List Nat} {ob op oc oe:Nat} {ic ie:List Nat} (hd:(hs++ob::(op::oc::(ic++oe::ie))).Nodup):(∀ o∈hs,o≠ob∧o≠op∧o≠oc∧o≠oe∧o∉ic∧o∉ie)∧ob≠op∧ob≠oc∧ob≠oe∧ob∉ic∧ob∉ie∧op≠oc∧op≠oe∧op∉ic∧op∉ie∧oc≠oe∧oc∉ic∧oc∉ie∧oe∉ic∧oe∉ie∧(∀ o∈ic,o∉ie)∧ic.Nodup∧ie.Nodup:=by
 obtain ⟨h1,h2,h3⟩:=List.nodup_append.1 hd
 simp only [List.nodup_cons,List.mem_cons,List.mem_append,not_or,List.nodup_append] at h2
 obtain ⟨⟨a1,a2,a3,a4,a5⟩,⟨b1,b2,b3,b4⟩,⟨c1,c2,c3⟩,d1,⟨e1,e2⟩,d3⟩:=h2
 refine ⟨fun o ho=>⟨h3 o ho ob (by simp),h3 o ho op (by simp),h3 o ho oc (by simp),h3 o ho oe (by simp),fun hm=>h3 o ho o (by simp [hm]) rfl,fun hm=>h3 o ho o (by simp [hm]) rfl⟩,a1,a2,a4,a3,a5,b1,b3,b2,b4,c2,c1,c3, ?_,e1, ?_,d1,e2⟩
 ·exact fun hm=>d3 oe hm oe (by simp) rfl
 ·exact fun o ho hm=>d3 o ho o (by simp [hm]) rfl
theorem Rows.cut {α:Type} {T:Store} {tys:List Ty} {enc:α→V} {xs:List α} {rs:List (List V)} {ids:List Nat} (h:Rows T tys enc xs rs ids) : ∀ {k:Nat} {x:α},xs[k]? = some x → ∃ (r:List V) (i1 ii i2:List Nat),rs[k]? = some r∧ids=i1++(ii++i2)∧OwL T tys r (enc x).cells ii∧Rows T tys enc (xs.eraseIdx k) (rs.eraseIdx k) (i1++i2):=by
 induction h with
 | nil=>intro k x hx; simp at hx
 | @cons y r ii xs rs ids h t ih =>
  intro k x hx
  cases k with
  | zero =>
   simp only [List.getElem?_cons_zero,Option.some.injEq] at hx
   subst hx
   exact ⟨r,[],ii,ids,rfl,rfl,h,t⟩
  | succ k =>
   obtain ⟨s,i1,jj,i2,e1,e2,e3,e4⟩:=ih (k:=k) (x:=x) (by simpa using hx)
   subst e2
   refine ⟨s,ii++i1,jj,i2,e1,by simp,e3, ?_⟩
   have:=Rows.cons (x:=y) h e4
   simpa using this
theorem Rows.snoc {α:Type} {T:Store} {tys:List Ty} {enc:α→V} {xs:List α} {rs:List (List V)} {ids:List Nat} (h:Rows T tys enc xs rs ids) {x:α} {r:List V} {ii:List Nat} (hr:OwL T tys r (enc x).cells ii):Rows T tys enc (xs++[x]) (rs++[r]) (ids++ii):=by
 induction h with
 | nil=>have:=Rows.cons (x:=x) hr .nil; simpa using this
 | @cons y s jj xs rs ids h t ih=>have:=Rows.cons (x:=y) h ih; simpa using this
theorem ins_mk {T:Store} {x:Ss.Ins} {oa ou:Nat} (h1:T.get oa=some (1,x.args.map vint)) (h2:T.get ou=some (1,x.outs.map vint)):OwL T insD [vint x.op,vu x.n, .slice oa 0 x.args.length, .slice ou 0 x.outs.length] (jp x).cells [oa,ou]:=by
 rw [zi]
 have hB:=row_mk h2
 rw [WA] at hB
 have hA:OwL T (.s [.c]::[.s [.c]]) (.slice oa 0 x.args.length::[.slice ou 0 x.outs.length]) (vl vint x.args::[vl vint x.outs]) (oa::[ou]) :=
  OwL.slice (s:=1) (enc:=vint) (fun _=>rfl) (fun _=>rfl) x.args (by rw [qy]; exact h1) hB
 exact .c (x:=vint x.op) rfl (.c (x:=vu x.n) rfl hA)
section
variable {S H:Store} {hs:List Nat} {ob:Nat} {bs:List Ss.Block} {T:Store} {rs:List (List V)} {ids:List Nat} {i:Nat}
theorem BInv.at2 {jj:List Nat} (h:BInv S H (jj++hs) ob bs T rs ids) (hw:T.Wf) {i:Nat} (hi:i<bs.length) :
  ∃ (r1:List (List V)) (r2:List (List V)) (i1 i2:List Nat) (op oc oe:Nat) (rc:List (List V)) (ce:List V) (ip ic ie:List Nat),rs=r1++[.slice op 0 bs[i].params.length, .slice oc 0 bs[i].code.length,vint bs[i].term.kind,vint bs[i].term.arg, .slice oe 0 bs[i].term.to.length,vl vint bs[i].term.args]::r2∧(∀ s∈r1,s.length=6)∧r1.length=i ∧
   T.get op=some (1,bs[i].params.map vint)∧T.get oc=some (4,rc.flatten)∧Rows T insD jp bs[i].code rc ic∧T.get oe=some (2,ce)∧OwL T (reps bs[i].term.to.length KC) ce (jq ji bs[i].term.to) ie ∧
   ids=i1++((op::oc::(ic++oe::ie))++i2)∧((jj++hs)++ob::(op::oc::(ic++oe::ie))).Nodup ∧
   ∀ (T':Store) (r':List V) (b':Ss.Block) (ii':List Nat),T.nx≤T'.nx→(∀ o,o<T.nx→o≠ob→o∉op::oc::(ic++oe::ie)→T'.get o=T.get o)→T'.get ob=some (6,(r1++r'::r2).flatten)→OwL T' blkD r' (jd b').cells ii'→ii'.Nodup→(∀ o∈ii',o∈op::oc::(ic++oe::ie)∨o∈jj∨T.nx≤o) →
    BInv S H hs ob (bs.set i b') T' (r1++r'::r2) (i1++(ii'++i2)):=by
 have hlt:=h.all_lt hw
 obtain ⟨old,hd,al,cb,own,nd,lt⟩:=h
 obtain ⟨r1,r,r2,i1,ii,i2,rfl,hl,rfl,hb,hput⟩:=own.at (List.getElem?_eq_getElem hi)
 have hr6:=own.len.2
 obtain ⟨op,oc,oe,rc,ce,ip,ic,ie,rfl,rfl,hop,hoc,hrc,hoe,hie⟩:=block_row hb
 have sub:List.Sublist (op::oc::(ic++oe::ie)) (i1++((op::oc::(ic++oe::ie))++i2)):=(List.sublist_append_left _ _).trans (List.sublist_append_right _ _)
 refine ⟨r1,r2,i1,i2,op,oc,oe,rc,ce,ip,ic,ie,rfl,fun s hs=>hr6 s (by simp [hs]),hl,hop,hoc,hrc,hoe,hie,rfl,List.Sublist.nodup ((List.Sublist.refl (jj++hs)).append (sub.cons_cons ob)) nd, ?_⟩
 intro T' r' b' ii' hnx hk hcb how hnd hin
 generalize op::oc::(ic++oe::ie)=ii at *
 have cnt : ∀ o,((jj++hs)++ob::(i1++(ii++i2))).count o≤1:=fun o=>List.nodup_iff_count.1 nd o
 simp only [List.count_append,List.count_cons] at cnt
 have pos : ∀ {o:Nat} {l:List Nat},o∈l→1≤l.count o:=fun h=>List.count_pos_iff.2 h
 have nob : ∀ o,o∈jj∨o∈hs∨o∈i1∨o∈ii∨o∈i2→o≠ob:=by
  rintro o ho rfl
  have c:=cnt o
  simp only [beq_self_eq_true,if_true] at c
  rcases ho with ho | ho | ho | ho | ho<;>(have:=pos ho; omega)
 have nii : ∀ o,o∈hs∨o∈i1∨o∈i2→o∉ii:=by
  intro o ho hm
  have c:=cnt o
  have:=pos hm
  rcases ho with ho | ho | ho<;>(have:=pos ho; omega)
 have keep : ∀ o,o∈hs∨o∈i1∨o∈i2→T'.get o=T.get o:=fun o ho=>by
  refine hk o (hlt o ?_) (nob o ?_) (nii o ho)
  ·rcases ho with ho | ho | ho<;>simp [ho]
  ·rcases ho with ho | ho | ho<;>simp [ho]
 refine ⟨⟨Nat.le_trans old.1 hnx,fun o ho => ?_⟩,fun o ho=>(keep o (.inl ho)).trans (hd o (by simp [ho])),fun o ho=>al o (by simp [ho]),hcb,hput T' r' b' ii' (fun o ho=>keep o ?_) how, ?_,fun o ho => ?_⟩
 ·rw [hk o (Nat.lt_of_lt_of_le ho old.1) ?_ ?_]
  ·exact old.2 o ho
  ·rintro rfl
   have:=lt o (by simp); omega
  ·intro hm
   have:=lt o (by simp [hm]); omega
 ·rcases List.mem_append.1 ho with ho | ho
  ·exact .inr (.inl ho)
  ·exact .inr (.inr ho)
 ·refine List.nodup_iff_count.2 fun o => ?_
  simp only [List.count_append,List.count_cons]
  have c:=cnt o
  by_cases hm:o∈ii'
  ·have h1:=List.nodup_iff_count.1 hnd o
   rcases hin o hm with hm2 | hm2 | hge
   ·have:=pos hm2; omega
   ·have z4:(if (ob==o)=true then 1 else 0)=0:=by
     rw [if_neg]
     simp only [beq_iff_eq]; exact fun e=>nob o (.inl hm2) e.symm
    have:=pos hm2; omega
   ·have z1:hs.count o=0:=List.count_eq_zero.2 fun h=>by have:=hlt o (by simp [h]); omega
    have z2:i1.count o=0:=List.count_eq_zero.2 fun h=>by have:=hlt o (by simp [h]); omega
    have z3:i2.count o=0:=List.count_eq_zero.2 fun h=>by have:=hlt o (by simp [h]); omega
    have z4:(if (ob==o)=true then 1 else 0)=0:=by
     have:=hlt ob (by simp)
     rw [if_neg]
     simp only [beq_iff_eq]; omega
    omega
  ·have:ii'.count o=0:=List.count_eq_zero.2 hm
   omega
 ·simp only [List.mem_append,List.mem_cons] at ho
  rcases ho with ho | ho | ho | ho | ho
  ·exact lt o (by simp [ho])
  ·exact lt o (by simp [ho])
  ·exact lt o (by simp [ho])
  ·rcases hin o ho with h | h | h
   ·exact lt o (by simp [h])
   ·exact lt o (by simp [h])
   ·have:=old.1; omega
  ·exact lt o (by simp [ho])
theorem BInv.hold (h:BInv S H hs ob bs T rs ids) {jj:List Nat} (hj : ∀ o∈jj,(T.get o).isSome=true) (hn:(jj++(hs++ob::ids)).Nodup) (hl : ∀ o∈jj,S.nx≤o):BInv S T (jj++hs) ob bs T rs ids:=by
 obtain ⟨old,hd,al,cb,own,nd,lt⟩:=h
 refine ⟨old,fun o _=>rfl,fun o ho => ?_,cb,own,by simpa using hn,fun o ho => ?_⟩
 ·rcases List.mem_append.1 ho with ho | ho
  ·exact hj o ho
  ·rw [hd o ho]; exact al o ho
 ·simp only [List.append_assoc,List.mem_append] at ho
  rcases ho with ho | ho
  ·exact hl o ho
  ·exact lt o (by simpa using ho)
theorem BInv.cut (h:BInv S H hs ob bs T rs ids) (hw:T.Wf) {n i:Nat} (hn:n<bs.length) (hi:i<bs[n].code.length) :
  ∃ (oc:Nat) (rc:List (List V)) (oa ou:Nat),rs.flatten[n*6+1]? = some (.slice oc 0 bs[n].code.length)∧T.get oc=some (4,rc.flatten)∧(∀ r∈rc,r.length=4)∧rc.length=bs[n].code.length∧rc[i]? = some [vint bs[n].code[i].op,vu bs[n].code[i].n, .slice oa 0 bs[n].code[i].args.length, .slice ou 0 bs[n].code[i].outs.length] ∧
   T.get oa=some (1,bs[n].code[i].args.map vint)∧T.get ou=some (1,bs[n].code[i].outs.map vint)∧ob≠oc∧(∀ o∈hs,o≠oc∧o≠ob)∧oa≠oc∧ou≠oc∧oa≠ob∧ou≠ob ∧
   ∀ T':Store,T'=(T.upd oc (4,(rc.eraseIdx i).flatten)).upd ob (6,rs.flatten.set (n*6+1) (.slice oc 0 (bs[n].code.length-1))) → ∃ rs' ids',rs'.flatten=rs.flatten.set (n*6+1) (.slice oc 0 (bs[n].code.length-1))∧BInv S T' ([oa,ou]++hs) ob (bs.set n (Ss.cutAt bs[n] i)) T' rs' ids':=by
 have hlt:=h.all_lt hw
 have hnd0:=h.nd
 have hlt0:=h.lt
 obtain ⟨r1,r2,i1,i2,op,oc,oe,rc,ce,ip,ic,ie,rfl,h6,hl,hop,hoc,hrc,hoe,hie,rfl,hnd,hput⟩:=BInv.at2 (jj:=[]) h hw hn
 simp only [List.nil_append] at hnd
 obtain ⟨n0,n1,n2,n3,n4,n5,n6,n7,n8,n9,n10,n11,n12,n13,n14,n15,n16,n17⟩:=lnodup_ne hnd
 obtain ⟨r,j1,jj,j2,hrcg,hic,hrow,hcut⟩:=hrc.cut (List.getElem?_eq_getElem hi)
 obtain ⟨oa,ou,hr,hjj,hoa,hou⟩:=ins_row hrow
 subst hr; subst hjj
 have hc4:=hrc.len
 have hoai:oa∈ic:=by rw [hic]; simp
 have houi:ou∈ic:=by rw [hic]; simp
 refine ⟨oc,rc,oa,ou,YS h6 hl rfl,hoc,fun r hr=>hc4.2 r hr,hc4.1,hrcg,hoa,hou,n2,fun o ho=>⟨(n0 o ho).2.2.1,(n0 o ho).1⟩,fun e=>n11 (e▸hoai),fun e=>n11 (e▸houi),fun e=>n4 (e▸hoai),fun e=>n4 (e▸houi), ?_⟩
 intro T' hT'
 have hsub : ∀ o∈j1++j2,o∈ic:=fun o ho=>by
  rw [hic]; rcases List.mem_append.1 ho with h | h<;>simp [h]
 have hfs:=jbH (m:=6) (r:=[V.slice op 0 bs[n].params.length, .slice oc 0 bs[n].code.length,vint bs[n].term.kind,vint bs[n].term.arg, .slice oe 0 bs[n].term.to.length,vl vint bs[n].term.args]) (r2:=r2) (q:=1) (w := .slice oc 0 (bs[n].code.length-1)) h6 hl (by simp)
 have g : ∀ o,o≠ob→o≠oc→T'.get o=T.get o:=fun o h1 h2=>by rw [hT',qv h1,qv h2]
 have gb:T'.get ob=some (6,(r1++[V.slice op 0 bs[n].params.length, .slice oc 0 (bs[n].code.length-1),vint bs[n].term.kind,vint bs[n].term.arg, .slice oe 0 bs[n].term.to.length,vl vint bs[n].term.args]::r2).flatten):=by
  rw [hT',JE,hfs]; rfl
 have hcl:(Ss.cutAt bs[n] i).code.length=bs[n].code.length-1:=by simp [Ss.cutAt,List.length_eraseIdx_of_lt hi]
 have hblk:OwL T' blkD [V.slice op 0 bs[n].params.length, .slice oc 0 (bs[n].code.length-1),vint bs[n].term.kind,vint bs[n].term.arg, .slice oe 0 bs[n].term.to.length,vl vint bs[n].term.args] (jd (Ss.cutAt bs[n] i)).cells (op::oc::((j1++j2)++oe::ie)):=by
  have:=block_mk (T:=T') (b:=Ss.cutAt bs[n] i) (op:=op) (oc:=oc) (oe:=oe) (rs:=rc.eraseIdx i) (ce:=ce) (ic:=j1++j2) (ie:=ie) ?_ ?_ ?_ ?_ ?_
  ·rw [hcl] at this; exact this
  ·rw [g op (Ne.symm n1) n6]; exact hop
  ·rw [hT',qv (Ne.symm n2),JE]
  ·exact hcut.mono fun o ho=>g o (fun e=>n4 (e▸hsub o ho)) (fun e=>n11 (e▸hsub o ho))
  ·rw [g oe (Ne.symm n3) (Ne.symm n10)]; exact hoe
  ·exact hie.mono fun o ho=>g o (fun e=>n5 (e▸ho)) (fun e=>n12 (e▸ho))
 have cnt : ∀ o,(hs++ob::(i1++((op::oc::(ic++oe::ie))++i2))).count o≤1:=fun o=>List.nodup_iff_count.1 hnd0 o
 rw [hic] at cnt
 have hnew:=hput T' _ (Ss.cutAt bs[n] i) (op::oc::((j1++j2)++oe::ie)) (by rw [hT']; exact Nat.le_refl _) (fun o _ h1 h2=>g o h1 (fun e=>h2 (by simp [e]))) gb hblk (by
  refine List.nodup_iff_count.2 fun o => ?_
  have c:=cnt o
  simp only [List.count_append,List.count_cons,List.count_nil] at c ⊢
  omega) (fun o ho => .inl (by
   simp only [List.mem_cons,List.mem_append] at ho ⊢
   rcases ho with h | h | h | h
   ·exact .inl h
   ·exact .inr (.inl h)
   ·exact .inr (.inr (.inl (hsub o (List.mem_append.2 h))))
   ·exact .inr (.inr (.inr h))))
 refine ⟨_,_,hfs.symm,hnew.hold (fun o ho => ?_) (List.nodup_iff_count.2 fun o => ?_) (fun o ho => ?_)⟩
 ·simp only [List.mem_cons,List.not_mem_nil,or_false] at ho
  rcases ho with rfl | rfl
  ·rw [g _ (fun e=>n4 (e▸hoai)) (fun e=>n11 (e▸hoai)),hoa]; rfl
  ·rw [g _ (fun e=>n4 (e▸houi)) (fun e=>n11 (e▸houi)),hou]; rfl
 ·have c:=cnt o
  simp only [List.count_append,List.count_cons,List.count_nil] at c ⊢
  omega
 ·refine hlt0 o ?_
  simp only [List.mem_cons,List.not_mem_nil,or_false] at ho
  rcases ho with rfl | rfl
  ·simp [hoai]
  ·simp [houi]
theorem BInv.push {oa ou:Nat} (h:BInv S H ([oa,ou]++hs) ob bs T rs ids) (hw:T.Wf) {p:Nat} (hp:p<bs.length) {x:Ss.Ins} (hoa:T.get oa=some (1,x.args.map vint)) (hou:T.get ou=some (1,x.outs.map vint)) :
  ∃ (oc:Nat) (cells:List V),rs.flatten[p*6+1]? = some (.slice oc 0 bs[p].code.length)∧T.get oc=some (4,cells)∧cells.length=bs[p].code.length*4∧ob≠oc∧(∀ o∈hs,o≠oc∧o≠ob)∧oa≠oc∧ou≠oc∧oa≠ob∧ou≠ob ∧
   ∀ (T':Store) (on:Nat),T.nx≤on→T.nx≤T'.nx→(∀ o,o<T.nx→o≠ob→o≠oc→T'.get o=T.get o)→T'.get on=some (4,cells++[vint x.op,vu x.n, .slice oa 0 x.args.length, .slice ou 0 x.outs.length])→T'.get ob=some (6,rs.flatten.set (p*6+1) (.slice on 0 (bs[p].code.length+1))) →
    ∃ rs' ids',rs'.flatten=rs.flatten.set (p*6+1) (.slice on 0 (bs[p].code.length+1))∧BInv S H hs ob (bs.set p (Ss.endWith bs[p] x)) T' rs' ids':=by
 have hlt:=h.all_lt hw
 obtain ⟨r1,r2,i1,i2,op,oc,oe,rc,ce,ip,ic,ie,rfl,h6,hl,hop,hoc,hrc,hoe,hie,rfl,hnd,hput⟩:=BInv.at2 h hw hp
 obtain ⟨n0,n1,n2,n3,n4,n5,n6,n7,n8,n9,n10,n11,n12,n13,n14,n15,n16,n17⟩:=lnodup_ne hnd
 have hc4:=hrc.len
 have a0:=n0 oa (by simp)
 have u0:=n0 ou (by simp)
 have hcl:rc.flatten.length=bs[p].code.length*4:=by rw [qS hc4.2,hc4.1]; rfl
 refine ⟨oc,rc.flatten,YS h6 hl rfl,hoc,hcl,n2,fun o ho=>⟨(n0 o (by simp [ho])).2.2.1,(n0 o (by simp [ho])).1⟩,a0.2.2.1,u0.2.2.1,a0.1,u0.1, ?_⟩
 intro T' on hon hnx hk hgn hgb
 have hfs:=jbH (m:=6) (r:=[V.slice op 0 bs[p].params.length, .slice oc 0 bs[p].code.length,vint bs[p].term.kind,vint bs[p].term.arg, .slice oe 0 bs[p].term.to.length,vl vint bs[p].term.args]) (r2:=r2) (q:=1) (w := .slice on 0 (bs[p].code.length+1)) h6 hl (by simp)
 rw [hfs] at hgb ⊢
 have hin : ∀ o∈op::oc::(ic++oe::ie),o<T.nx:=fun o ho=>hlt o (by
  simp only [List.mem_append,List.mem_cons] at ho ⊢
  rcases ho with h | h | h | h | h<;>simp [h])
 have ltm : ∀ o∈op::oc::(ic++oe::ie),o≠ob→o≠oc→T'.get o=T.get o:=fun o ho h1 h2=>hk o (hin o ho) h1 h2
 have lta:oa<T.nx:=hlt oa (by simp)
 have ltu:ou<T.nx:=hlt ou (by simp)
 have hcode:(Ss.endWith bs[p] x).code.length=bs[p].code.length+1:=by simp [Ss.endWith]
 have hblk:OwL T' blkD [V.slice op 0 bs[p].params.length, .slice on 0 (bs[p].code.length+1),vint bs[p].term.kind,vint bs[p].term.arg, .slice oe 0 bs[p].term.to.length,vl vint bs[p].term.args] (jd (Ss.endWith bs[p] x)).cells (op::on::((ic++[oa,ou])++oe::ie)):=by
  have:=block_mk (T:=T') (b:=Ss.endWith bs[p] x) (op:=op) (oc:=on) (oe:=oe) (rs:=rc++[[vint x.op,vu x.n, .slice oa 0 x.args.length, .slice ou 0 x.outs.length]]) (ce:=ce) (ic:=ic++[oa,ou]) (ie:=ie) ?_ ?_ ?_ ?_ ?_
  ·rw [hcode] at this; exact this
  ·rw [ltm op (by simp) (Ne.symm n1) n6]; exact hop
  ·rw [hgn]; simp
  ·refine Rows.snoc (hrc.mono fun o ho=>ltm o (by simp [ho]) (fun e=>n4 (e▸ho)) (fun e=>n11 (e▸ho))) (ins_mk ?_ ?_)
   ·rw [hk oa lta a0.1 a0.2.2.1]; exact hoa
   ·rw [hk ou ltu u0.1 u0.2.2.1]; exact hou
  ·rw [ltm oe (by simp) (Ne.symm n3) (Ne.symm n10)]; exact hoe
  ·exact hie.mono fun o ho=>ltm o (by simp [ho]) (fun e=>n5 (e▸ho)) (fun e=>n12 (e▸ho))
 refine ⟨_,_,rfl,hput T' _ (Ss.endWith bs[p] x) (op::on::((ic++[oa,ou])++oe::ie)) hnx (fun o ho h1 h2=>hk o ho h1 (fun e=>h2 (by simp [e]))) hgb hblk (List.nodup_iff_count.2 fun o => ?_) (fun o ho => ?_)⟩
 ·have c:=List.nodup_iff_count.1 hnd o
  have hno:o=on→(op::oc::(ic++oe::ie)).count o=0∧([oa,ou]:List Nat).count o=0:=fun e=>by
   subst e
   refine ⟨List.count_eq_zero.2 fun h=>by have:=hin o h; omega,List.count_eq_zero.2 fun h => ?_⟩
   simp only [List.mem_cons,List.not_mem_nil,or_false] at h
   rcases h with h | h<;>omega
  simp only [List.count_append,List.count_cons,List.count_nil] at c hno ⊢
  by_cases e:o=on
  ·obtain ⟨z1,z2⟩:=hno e
   subst e
   simp only [beq_self_eq_true,if_true]
   omega
  ·have e2:(if (on==o)=true then 1 else 0)=0:=by
    rw [if_neg]
    simp only [beq_iff_eq]; exact fun h=>e h.symm
   omega
 ·simp only [List.mem_cons,List.mem_append,List.not_mem_nil,or_false] at ho ⊢
  rcases ho with h | h | (h | h | h) | h
  ·exact .inl (.inl h)
  ·exact .inr (.inr (by omega))
  ·exact .inl (.inr (.inr (.inl h)))
  ·exact .inr (.inl (.inl h))
  ·exact .inr (.inl (.inr h))
  ·exact .inl (.inr (.inr (.inr h)))
theorem BInv.held (h:BInv S H hs ob bs T rs ids) (hw:T.Wf) {o:Nat} (ho:o∈hs) (c:Nat × List V):BInv S (H.upd o c) hs ob bs (T.upd o c) rs ids:=by
 obtain ⟨old,hd,al,cb,own,nd,lt⟩:=h
 have hne : ∀ q∈ob::ids,q≠o:=fun q hq e=>(List.nodup_append.1 nd).2.2 o ho q hq e.symm
 refine ⟨⟨old.1,fun q hq => ?_⟩,fun q hq => ?_,fun q hq => ?_, ?_,own.mono fun q hq => ?_,nd,lt⟩
 ·have:=lt o (by simp [ho])
  rw [qv (by omega)]; exact old.2 q hq
 ·rw [qf,qf,hd q hq]
 ·rw [qf]; split
  ·rfl
  ·exact al q hq
 ·rw [qv (hne ob (by simp))]; exact cb
 ·exact qv (hne q (by simp [hq]))
end
end Go.Vw

namespace Go.Vw
open Go.Proofs Go.RowKit
set_option maxRecDepth 10000
set_option maxHeartbeats 4000000
theorem Nan0_v (x:Int):VPure Tryz.prog 116 [vint x] (.bool false):=by
 intro S
 refine jb (c:=jf Tryz.f116) Tryz.func116 rfl rfl (by simp [Tryz.ntmps116]) ?_
 rw [Tryz.ntmps116]
 intro hwf
 repeat (first|refine QG ?_|refine QY ?_)
 exact ja hwf rfl rfl
theorem Nan1_v (x:Int):VPure Tryz.prog 82 [vint x] (.bool false):=by
 intro S
 refine jb (c:=jf Tryz.f82) Tryz.func82 rfl rfl (by simp [Tryz.ntmps82]) ?_
 rw [Tryz.ntmps82]
 intro hwf
 repeat (first|refine QG ?_|refine QY ?_)
 exact ja hwf rfl rfl
theorem Less_int_v (x y:Int):VPure Tryz.prog 81 [vint x,vint y] (.bool (decide (x<y))):=by
 intro S
 have cn:=Nan0_v x
 refine jb (c:=jf Tryz.f81) Tryz.func81 rfl rfl (by simp [Tryz.ntmps81]) ?_
 rw [Tryz.ntmps81]
 intro hwf
 repeat (first|refine QG ?_|refine QY ?_)
 repeat refine QS ?_
 refine QP ?_
 refine jn rfl (cn) ?_
 by_cases h:x<y
 ·refine QM (by conv=>lhs;simp[-List.map_set,QV,h]) ?_
  refine QN ?_
  repeat (first|refine QG ?_|refine QY ?_ (r:=by conv=>lhs;simp[-List.map_set,QV,h]))
  exact ja hwf (by simp [h]) rfl
 ·refine QM (by conv=>lhs;simp[-List.map_set,QV,h]) ?_
  refine QN ?_
  repeat (first|refine QG ?_|refine QY ?_ (r:=by conv=>lhs;simp[-List.map_set,QV,h]))
  exact ja hwf (by simp [h]) rfl
theorem Index_v (l:List Int) (x:Int) (hl:l.length<2^63):VPure Tryz.prog 115 [vl vint l,vint x] (vint (ql (fun y=>decide (x=y)) l 0)):=by
 intro S
 refine jb (c:=jf Tryz.f115) Tryz.func115 rfl rfl (by simp [Tryz.ntmps115]) ?_
 rw [Tryz.ntmps115]
 intro hwf
 repeat (first|refine QG ?_|refine QY ?_)
 repeat refine QS ?_
 refine je [0,1,7,8] rfl (fun c σ S' => ∃ (k:Nat),k≤l.length∧c=l.length-k∧ql (fun y=>decide (x=y)) (l.drop k) k=ql (fun y=>decide (x=y)) l 0∧σ=[(0,vl vint l),(1,vint x),(7,vnat l.length),(8,vnat k)]∧S'=St S [] []) l.length ?_ ?_
 ·exact ⟨0,by omega,rfl,rfl,by simp [Fr.only],rfl⟩
 ·rintro c σ T ⟨k,hk,rfl,hd,rfl,rfl⟩
  by_cases hkt:k<l.length
  ·have hst:ql (fun y=>decide (x=y)) (l.drop k) k=if decide (x=l[k])=true then (k:Int) else ql (fun y=>decide (x=y)) (l.drop (k+1)) (k+1):=by rw [List.drop_eq_getElem_cons hkt,ql]
   have hw:=jo hkt hl
   by_cases hp:x=l[k]
   ·rw [if_pos (by simpa using hp)] at hst
    repeat (first|refine QG ?_|refine QY ?_ (r:=by conv=>lhs;simp[-List.map_set,QV,hkt,hp]))
    exact ja hwf (by rw [←hd,hst]; rfl) rfl
   ·rw [if_neg (by simpa using hp)] at hst
    repeat (first|refine QG ?_|refine QY ?_ (r:=by conv=>lhs;simp[-List.map_set,QV,hkt,hp]))
    show jy _ _ _ _ _ _ _
    exact again ⟨Nat.sub_lt_sub_left hkt (Nat.lt_succ_self k),k+1,hkt,rfl,by rw [←hd,hst],by simp [Fr.only,hw],rfl⟩
  ·have e:l.drop k=[]:=by rw [List.drop_eq_nil_iff]; omega
   rw [e] at hd
   repeat (first|refine QG ?_|refine QY ?_ (r:=by conv=>lhs;simp[-List.map_set,QV,hkt]))
   exact ja hwf (by rw [←hd]; rfl) rfl
theorem Contains_v (l:List Int) (x:Int) (hl:l.length<2^63):VPure Tryz.prog 80 [vl vint l,vint x] (.bool (decide (x∈l))):=by
 intro S
 have ci:=Index_v l x hl
 have he:decide (x∈l)=decide (0≤ql (fun y=>decide (x=y)) l 0):=by
  rw [zL,Bool.eq_iff_iff]
  simp
 rw [he]
 refine jb (c:=jf Tryz.f80) Tryz.func80 rfl rfl (by simp [Tryz.ntmps80]) ?_
 rw [Tryz.ntmps80]
 intro hwf
 repeat (first|refine QG ?_|refine QY ?_)
 repeat refine QS ?_
 refine QP ?_
 refine jn rfl (ci) ?_
 refine QM (by conv=>lhs;simp[-List.map_set,QV]) ?_
 refine QN ?_
 repeat (first|refine QG ?_|refine QY ?_)
 exact ja hwf rfl rfl
def bsI (l:List Int) (x:Int) (i j:Nat):Nat:=if h:i<j then (if l.getD ((i+j) / 2) 0<x then bsI l x ((i+j) / 2+1) j else bsI l x i ((i+j) / 2)) else i
termination_by j-i
theorem BinSearch_v (l:List Int) (x:Int) (hl:l.length<4611686018427387904) (hs:l.Pairwise (· < ·)):VPure Tryz.prog 30 [vl vint l,vint x] (.tuple [vnat (bsI l x 0 l.length), .bool (decide (x∈l))]):=by
 intro S
 have hle : ∀ (a b:Nat) (ha:a<l.length) (hb:b<l.length),a<b→l[a]<l[b]:=fun a b ha hb hab=>List.pairwise_iff_getElem.1 hs a b ha hb hab
 refine jb (c:=jf Tryz.f30) Tryz.func30 rfl rfl (by simp [Tryz.ntmps30]) ?_
 rw [Tryz.ntmps30]
 intro hwf
 repeat (first|refine QG ?_|refine QY ?_)
 repeat refine QS ?_
 refine je [0,1,6,7,8] rfl (fun c σ S' => ∃ (i j:Nat),i≤j∧j≤l.length∧c=j-i∧bsI l x i j=bsI l x 0 l.length∧(∀ (k:Nat) (hk:k<l.length),k<i→l[k]<x)∧(∀ (k:Nat) (hk:k<l.length),j≤k→x≤l[k])∧σ=[(0,vl vint l),(1,vint x),(6,vnat l.length),(7,vnat i),(8,vnat j)]∧S'=St S [] []) l.length ?_ ?_
 ·exact ⟨0,l.length,by omega,by omega,rfl,rfl,fun k hk h=>by omega,fun k hk h=>by omega,by simp [Fr.only],rfl⟩
 ·rintro c σ T ⟨i,j,hij,hj,rfl,hbs,hlo,hhi,rfl,rfl⟩
  by_cases hlt:i<j
  ·obtain ⟨h,hh⟩ : ∃ h,h=(i+j) / 2:=⟨_,rfl⟩
   have h1:i≤h:=by omega
   have h2:h<j:=by omega
   have h3:h<l.length:=by omega
   have cl:=Less_int_v l[h] x
   have hw:IntKind.i64.wrap ((IntKind.u64.wrap (IntKind.i64.wrap ((i:Int)+(j:Int)))).fdiv (2^min 1 IntKind.u64.bits))=(h:Int):=by
    have e1:IntKind.i64.wrap ((i:Int)+(j:Int))=((i+j:Nat):Int):=by
     rw [wrap_i64 (by omega) (by omega)]; omega
    have e2:IntKind.u64.wrap ((i+j:Nat):Int)=((i+j:Nat):Int):=by
     show ((i+j:Nat):Int) % 18446744073709551616=_
     omega
    have e3:((i+j:Nat):Int).fdiv (2^min 1 IntKind.u64.bits)=((h:Nat):Int):=by
     show ((i+j:Nat):Int).fdiv 2=_
     rw [Int.fdiv_eq_ediv_of_nonneg _ (by omega),hh]; omega
    rw [e1,e2,e3]
    exact wrap_i64 (by omega) (by omega)
   have hw2:=jo (k:=h) (n:=l.length) h3 (by omega)
   have hgd:l.getD h 0=l[h]:=by rw [List.getD_eq_getElem?_getD,List.getElem?_eq_getElem h3]; rfl
   rw [bsI,dif_pos hlt, ←hh,hgd] at hbs
   repeat (first|refine QG ?_|refine QY ?_ (r:=by conv=>lhs;simp[-List.map_set,QV,hlt]))
   repeat refine QS ?_
   refine QP ?_ (r:=by conv=>lhs;simp[-List.map_set,QV,hw,h3])
   refine jn rfl (cl) ?_
   by_cases hx:l[h]<x
   ·have hlo2 : ∀ (k:Nat) (hk:k<l.length),k<h+1→l[k]<x:=fun k hk hkh=>by
     rcases Nat.lt_or_ge k h with h5 | h5
     ·exact Int.lt_trans (hle k h hk h3 h5) hx
     ·have:k=h:=by omega
      subst this; exact hx
    refine QM (by conv=>lhs;simp[-List.map_set,QV,hx]) ?_
    refine QN ?_
    repeat (first|refine QG ?_|refine QY ?_ (r:=by conv=>lhs;simp[-List.map_set,QV,hx,hw2]))
    show jy _ _ _ _ _ _ _
    exact again ⟨(by omega),h+1,j,by omega,hj,rfl,(by rw [if_pos hx] at hbs; exact hbs),hlo2,hhi,by simp [Fr.only,Fr.look],rfl⟩
   ·have hhi2 : ∀ (k:Nat) (hk:k<l.length),h≤k→x≤l[k]:=fun k hk hkh=>by
     rcases Nat.lt_or_ge h k with h5 | h5
     ·have:=hle h k h3 hk h5; omega
     ·have:k=h:=by omega
      subst this; omega
    refine QM (by conv=>lhs;simp[-List.map_set,QV,hx]) ?_
    refine QN ?_
    repeat (first|refine QG ?_|refine QY ?_ (r:=by conv=>lhs;simp[-List.map_set,QV,hx]))
    show jy _ _ _ _ _ _ _
    exact again ⟨(by omega),i,h,by omega,by omega,rfl,(by rw [if_neg hx] at hbs; exact hbs),hlo,hhi2,by simp [Fr.only,Fr.look],rfl⟩
  ·have e:i=j:=by omega
   subst e
   have c1:=Nan1_v
   rw [bsI,dif_neg hlt] at hbs
   rw [←hbs]
   by_cases hil:i<l.length
   ·by_cases he:l[i]=x
    ·have hm:decide (x∈l)=true:=decide_eq_true (he▸List.getElem_mem hil)
     rw [hm]
     repeat (first|refine QG ?_|refine QY ?_ (r:=by conv=>lhs;simp[-List.map_set,QV,hlt]))
     repeat refine QS ?_
     refine QP ?_ (r:=by conv=>lhs;simp[-List.map_set,QV,hil,he])
     refine QN ?_
     repeat (first|refine QG ?_|refine QY ?_)
     exact ja hwf rfl rfl
    ·have hm:decide (x∈l)=false:=decide_eq_false fun hx=>by
      obtain ⟨k,hk,rfl⟩:=List.getElem_of_mem hx
      rcases Nat.lt_or_ge k i with h5 | h5
      ·have:=hlo k hk h5; omega
      ·rcases Nat.lt_or_ge i k with h6 | h6
       ·have h7:=hle i k hil hk h6
        have:=hhi i hil (Nat.le_refl _); omega
       ·have:k=i:=by omega
        subst this; exact he rfl
     rw [hm]
     repeat (first|refine QG ?_|refine QY ?_ (r:=by conv=>lhs;simp[-List.map_set,QV,hlt]))
     repeat refine QS ?_
     refine QP ?_ (r:=by conv=>lhs;simp[-List.map_set,QV,hil,he])
     refine jn rfl (c1 l[i]) ?_
     refine QM (by conv=>lhs;simp[-List.map_set,QV,hil,he]) ?_
     refine QN ?_
     repeat (first|refine QG ?_|refine QY ?_)
     exact ja hwf rfl rfl
   ·have hm:decide (x∈l)=false:=decide_eq_false fun hx=>by
     obtain ⟨k,hk,rfl⟩:=List.getElem_of_mem hx
     have:=hlo k hk (by omega); omega
    rw [hm]
    repeat (first|refine QG ?_|refine QY ?_ (r:=by conv=>lhs;simp[-List.map_set,QV,hlt]))
    repeat refine QS ?_
    refine QP ?_ (r:=by conv=>lhs;simp[-List.map_set,QV,hil])
    refine QN ?_
    repeat (first|refine QG ?_|refine QY ?_)
    exact ja hwf rfl rfl
end Go.Vw
