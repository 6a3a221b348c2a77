import Derived.Test.YtkfllaokjaldnaaGreatC26
import Derived.Test.YtkfllaokjaldnaaGreatC35
import Derived.Test.YtkfllaokjaldnaaGreatC36
import Derived.Test.YtkfllaokjaldnaaGreatC37
import Derived.Test.YtkfllaokjaldnaaGreatC14
import Derived.Test.YtkfllaokjaldnaaGreatC34
/-
  Part of the proof (texts LStep, LSuccG, LHome, LClo).
-/
set_option linter.unusedVariables false
set_option linter.unusedSimpArgs false
namespace Go.Vw
open Go.Proofs Go.RowKit
set_option maxRecDepth 10000
set_option maxHeartbeats 2000000
theorem lnodup_ne {hs:List Nat} {ob op oc oe:Nat} {ic ie:List Nat} (hd:(hs++ob::(op::oc::(ic++oe::ie))).Nodup):(∀ o∈hs,o≠ob∧o≠op∧o≠oc∧o≠oe∧o∉ic∧o∉ie)∧ob≠op∧ob≠oc∧ob≠oe∧ob∉ic∧ob∉ie∧op≠oc∧op≠oe∧op∉ic∧op∉ie∧oc≠oe∧oc∉ic∧oc∉ie∧oe∉ic∧oe∉ie∧(∀ o∈ic,o∉ie)∧ic.Nodup∧ie.Nodup:=by
 obtain ⟨h1,h2,h3⟩:=List.nodup_append.1 hd;simp only [List.nodup_cons,List.mem_cons,List.mem_append,not_or,List.nodup_append] at h2;obtain ⟨⟨a1,a2,a3,a4,a5⟩,⟨b1,b2,b3,b4⟩,⟨c1,c2,c3⟩,d1,⟨e1,e2⟩,d3⟩:=h2;refine ⟨fun o ho=>⟨h3 o ho ob (by simp),h3 o ho op (by simp),h3 o ho oc (by simp),h3 o ho oe (by simp),fun hm=>h3 o ho o (by simp [hm]) rfl,fun hm=>h3 o ho o (by simp [hm]) rfl⟩,a1,a2,a4,a3,a5,b1,b3,b2,b4,c2,c1,c3, ?_,e1, ?_,d1,e2⟩
 ·exact fun hm=>d3 oe hm oe (by simp) rfl
 ·exact fun o ho hm=>d3 o ho o (by simp [hm]) rfl
theorem Rows.cut {α:Type} {T:Store} {tys:List Ty} {enc:α→V} {xs:List α} {rs:List (List V)} {ids:List Nat} (h:Rows T tys enc xs rs ids) : ∀ {k:Nat} {x:α},xs[k]? = some x → ∃ (r:List V) (i1 ii i2:List Nat),rs[k]? = some r∧ids=i1++(ii++i2)∧OwL T tys r (enc x).cells ii∧Rows T tys enc (xs.eraseIdx k) (rs.eraseIdx k) (i1++i2):=by
 induction h with
 | nil=>intro k x hx; simp at hx
 | @cons y r ii xs rs ids h t ih =>
  intro k x hx
  cases k with
  | zero =>
   simp only [List.getElem?_cons_zero,Option.some.injEq] at hx;subst hx;exact ⟨r,[],ii,ids,rfl,rfl,h,t⟩
  | succ k =>
   obtain ⟨s,i1,jj,i2,e1,e2,e3,e4⟩:=ih (k:=k) (x:=x) (by simpa using hx);subst e2;refine ⟨s,ii++i1,jj,i2,e1,by simp,e3, ?_⟩;have:=Rows.cons (x:=y) h e4;simpa using this
theorem Rows.snoc {α:Type} {T:Store} {tys:List Ty} {enc:α→V} {xs:List α} {rs:List (List V)} {ids:List Nat} (h:Rows T tys enc xs rs ids) {x:α} {r:List V} {ii:List Nat} (hr:OwL T tys r (enc x).cells ii):Rows T tys enc (xs++[x]) (rs++[r]) (ids++ii):=by
 induction h with
 | nil=>have:=Rows.cons (x:=x) hr .nil; simpa using this
 | @cons y s jj xs rs ids h t ih=>have:=Rows.cons (x:=y) h ih; simpa using this
theorem ins_mk {T:Store} {x:Ss.Ins} {oa ou:Nat} (h1:T.get oa=some (1,x.args.map vint)) (h2:T.get ou=some (1,x.outs.map vint)):OwL T insD [vint x.op,vu x.n, .slice oa 0 x.args.length, .slice ou 0 x.outs.length] (jm x).cells [oa,ou]:=by
 rw [jV];have hB:=row_mk h2;rw [WY] at hB;have hA:OwL T (.s [.c]::[.s [.c]]) (.slice oa 0 x.args.length::[.slice ou 0 x.outs.length]) (vl vint x.args::[vl vint x.outs]) (oa::[ou]) :=
  OwL.slice (s:=1) (enc:=vint) (fun _=>rfl) (fun _=>rfl) x.args (by rw [qI]; exact h1) hB
 exact .c (x:=vint x.op) rfl (.c (x:=vu x.n) rfl hA)
section
variable {S H:Store} {hs:List Nat} {ob:Nat} {bs:List Ss.Block} {T:Store} {rs:List (List V)} {ids:List Nat} {i:Nat}
theorem BInv.at2 {jj:List Nat} (h:BInv S H (jj++hs) ob bs T rs ids) (hw:T.Wf) {i:Nat} (hi:i<bs.length) :
  ∃ (r1:List (List V)) (r2:List (List V)) (i1 i2:List Nat) (op oc oe:Nat) (rc:List (List V)) (ce:List V) (ip ic ie:List Nat),rs=r1++[.slice op 0 bs[i].params.length, .slice oc 0 bs[i].code.length,vint bs[i].term.kind,vint bs[i].term.arg, .slice oe 0 bs[i].term.to.length,vl vint bs[i].term.args]::r2∧(∀ s∈r1,s.length=6)∧r1.length=i ∧
   T.get op=some (1,bs[i].params.map vint)∧T.get oc=some (4,rc.flatten)∧Rows T insD jm bs[i].code rc ic∧T.get oe=some (2,ce)∧OwL T (reps bs[i].term.to.length KS) ce (jh jk bs[i].term.to) ie ∧
   ids=i1++((op::oc::(ic++oe::ie))++i2)∧((jj++hs)++ob::(op::oc::(ic++oe::ie))).Nodup ∧
   ∀ (T':Store) (r':List V) (b':Ss.Block) (ii':List Nat),T.nx≤T'.nx→(∀ o,o<T.nx→o≠ob→o∉op::oc::(ic++oe::ie)→T'.get o=T.get o)→T'.get ob=some (6,(r1++r'::r2).flatten)→OwL T' blkD r' (jd b').cells ii'→ii'.Nodup→(∀ o∈ii',o∈op::oc::(ic++oe::ie)∨o∈jj∨T.nx≤o) →
    BInv S H hs ob (bs.set i b') T' (r1++r'::r2) (i1++(ii'++i2)):=by
 have hlt:=h.all_lt hw;obtain ⟨old,hd,al,cb,own,nd,lt⟩:=h;obtain ⟨r1,r,r2,i1,ii,i2,rfl,hl,rfl,hb,hput⟩:=own.at (List.getElem?_eq_getElem hi);have hr6:=own.len.2;obtain ⟨op,oc,oe,rc,ce,ip,ic,ie,rfl,rfl,hop,hoc,hrc,hoe,hie⟩:=block_row hb;have sub:List.Sublist (op::oc::(ic++oe::ie)) (i1++((op::oc::(ic++oe::ie))++i2)):=(List.sublist_append_left _ _).trans (List.sublist_append_right _ _);refine ⟨r1,r2,i1,i2,op,oc,oe,rc,ce,ip,ic,ie,rfl,fun s hs=>hr6 s (by simp [hs]),hl,hop,hoc,hrc,hoe,hie,rfl,List.Sublist.nodup ((List.Sublist.refl (jj++hs)).append (sub.cons_cons ob)) nd, ?_⟩;intro T' r' b' ii' hnx hk hcb how hnd hin;generalize op::oc::(ic++oe::ie)=ii at *
 have cnt : ∀ o,((jj++hs)++ob::(i1++(ii++i2))).count o≤1:=fun o=>List.nodup_iff_count.1 nd o
 simp only [List.count_append,List.count_cons] at cnt;have pos : ∀ {o:Nat} {l:List Nat},o∈l→1≤l.count o:=fun h=>List.count_pos_iff.2 h
 have nob : ∀ o,o∈jj∨o∈hs∨o∈i1∨o∈ii∨o∈i2→o≠ob:=by
  rintro o ho rfl;have c:=cnt o;simp only [beq_self_eq_true,if_true] at c;rcases ho with ho | ho | ho | ho | ho<;>(have:=pos ho; omega)
 have nii : ∀ o,o∈hs∨o∈i1∨o∈i2→o∉ii:=by
  intro o ho hm;have c:=cnt o;have:=pos hm;rcases ho with ho | ho | ho<;>(have:=pos ho; omega)
 have keep : ∀ o,o∈hs∨o∈i1∨o∈i2→T'.get o=T.get o:=fun o ho=>by
  refine hk o (hlt o ?_) (nob o ?_) (nii o ho)
  ·rcases ho with ho | ho | ho<;>simp [ho]
  ·rcases ho with ho | ho | ho<;>simp [ho]
 refine ⟨⟨Nat.le_trans old.1 hnx,fun o ho => ?_⟩,fun o ho=>(keep o (.inl ho)).trans (hd o (by simp [ho])),fun o ho=>al o (by simp [ho]),hcb,hput T' r' b' ii' (fun o ho=>keep o ?_) how, ?_,fun o ho => ?_⟩
 ·rw [hk o (Nat.lt_of_lt_of_le ho old.1) ?_ ?_]
  ·exact old.2 o ho
  ·rintro rfl;have:=lt o (by simp); omega
  ·intro hm;have:=lt o (by simp [hm]); omega
 ·rcases List.mem_append.1 ho with ho | ho
  ·exact .inr (.inl ho)
  ·exact .inr (.inr ho)
 ·refine List.nodup_iff_count.2 fun o => ?_
  simp only [List.count_append,List.count_cons];have c:=cnt o
  by_cases hm:o∈ii'
  ·have h1:=List.nodup_iff_count.1 hnd o;rcases hin o hm with hm2 | hm2 | hge
   ·have:=pos hm2; omega
   ·have z4:(if (ob==o)=true then 1 else 0)=0:=by
     rw [if_neg];simp only [beq_iff_eq]; exact fun e=>nob o (.inl hm2) e.symm
    have:=pos hm2; omega
   ·have z1:hs.count o=0:=List.count_eq_zero.2 fun h=>by have:=hlt o (by simp [h]); omega
    have z2:i1.count o=0:=List.count_eq_zero.2 fun h=>by have:=hlt o (by simp [h]); omega
    have z3:i2.count o=0:=List.count_eq_zero.2 fun h=>by have:=hlt o (by simp [h]); omega
    have z4:(if (ob==o)=true then 1 else 0)=0:=by
     have:=hlt ob (by simp);rw [if_neg];simp only [beq_iff_eq]; omega
    omega
  ·have:ii'.count o=0:=List.count_eq_zero.2 hm;omega
 ·simp only [List.mem_append,List.mem_cons] at ho;rcases ho with ho | ho | ho | ho | ho
  ·exact lt o (by simp [ho])
  ·exact lt o (by simp [ho])
  ·exact lt o (by simp [ho])
  ·rcases hin o ho with h | h | h
   ·exact lt o (by simp [h])
   ·exact lt o (by simp [h])
   ·have:=old.1; omega
  ·exact lt o (by simp [ho])
theorem BInv.hold (h:BInv S H hs ob bs T rs ids) {jj:List Nat} (hj : ∀ o∈jj,(T.get o).isSome=true) (hn:(jj++(hs++ob::ids)).Nodup) (hl : ∀ o∈jj,S.nx≤o):BInv S T (jj++hs) ob bs T rs ids:=by
 obtain ⟨old,hd,al,cb,own,nd,lt⟩:=h;refine ⟨old,fun o _=>rfl,fun o ho => ?_,cb,own,by simpa using hn,fun o ho => ?_⟩
 ·rcases List.mem_append.1 ho with ho | ho
  ·exact hj o ho
  ·rw [hd o ho]; exact al o ho
 ·simp only [List.append_assoc,List.mem_append] at ho;rcases ho with ho | ho
  ·exact hl o ho
  ·exact lt o (by simpa using ho)
theorem BInv.cut (h:BInv S H hs ob bs T rs ids) (hw:T.Wf) {n i:Nat} (hn:n<bs.length) (hi:i<bs[n].code.length) :
  ∃ (oc:Nat) (rc:List (List V)) (oa ou:Nat),rs.flatten[n*6+1]? = some (.slice oc 0 bs[n].code.length)∧T.get oc=some (4,rc.flatten)∧(∀ r∈rc,r.length=4)∧rc.length=bs[n].code.length∧rc[i]? = some [vint bs[n].code[i].op,vu bs[n].code[i].n, .slice oa 0 bs[n].code[i].args.length, .slice ou 0 bs[n].code[i].outs.length] ∧
   T.get oa=some (1,bs[n].code[i].args.map vint)∧T.get ou=some (1,bs[n].code[i].outs.map vint)∧ob≠oc∧(∀ o∈hs,o≠oc∧o≠ob)∧oa≠oc∧ou≠oc∧oa≠ob∧ou≠ob ∧
   ∀ T':Store,T'=(T.upd oc (4,(rc.eraseIdx i).flatten)).upd ob (6,rs.flatten.set (n*6+1) (.slice oc 0 (bs[n].code.length-1))) → ∃ rs' ids',rs'.flatten=rs.flatten.set (n*6+1) (.slice oc 0 (bs[n].code.length-1))∧BInv S T' ([oa,ou]++hs) ob (bs.set n (Ss.cutAt bs[n] i)) T' rs' ids':=by
 have hlt:=h.all_lt hw;have hnd0:=h.nd;have hlt0:=h.lt;obtain ⟨r1,r2,i1,i2,op,oc,oe,rc,ce,ip,ic,ie,rfl,h6,hl,hop,hoc,hrc,hoe,hie,rfl,hnd,hput⟩:=BInv.at2 (jj:=[]) h hw hn;simp only [List.nil_append] at hnd;obtain ⟨n0,n1,n2,n3,n4,n5,n6,n7,n8,n9,n10,n11,n12,n13,n14,n15,n16,n17⟩:=lnodup_ne hnd;obtain ⟨r,j1,jj,j2,hrcg,hic,hrow,hcut⟩:=hrc.cut (List.getElem?_eq_getElem hi);obtain ⟨oa,ou,hr,hjj,hoa,hou⟩:=ins_row hrow;subst hr; subst hjj;have hc4:=hrc.len;have hoai:oa∈ic:=by rw [hic]; simp
 have houi:ou∈ic:=by rw [hic]; simp
 refine ⟨oc,rc,oa,ou,Jo h6 hl rfl,hoc,fun r hr=>hc4.2 r hr,hc4.1,hrcg,hoa,hou,n2,fun o ho=>⟨(n0 o ho).2.2.1,(n0 o ho).1⟩,fun e=>n11 (e▸hoai),fun e=>n11 (e▸houi),fun e=>n4 (e▸hoai),fun e=>n4 (e▸houi), ?_⟩;intro T' hT';have hsub : ∀ o∈j1++j2,o∈ic:=fun o ho=>by
  rw [hic]; rcases List.mem_append.1 ho with h | h<;>simp [h]
 have hfs:=Kb (m:=6) (r:=[V.slice op 0 bs[n].params.length, .slice oc 0 bs[n].code.length,vint bs[n].term.kind,vint bs[n].term.arg, .slice oe 0 bs[n].term.to.length,vl vint bs[n].term.args]) (r2:=r2) (q:=1) (w := .slice oc 0 (bs[n].code.length-1)) h6 hl (by simp);have g : ∀ o,o≠ob→o≠oc→T'.get o=T.get o:=fun o h1 h2=>by rw [hT',jT h1,jT h2]
 have gb:T'.get ob=some (6,(r1++[V.slice op 0 bs[n].params.length, .slice oc 0 (bs[n].code.length-1),vint bs[n].term.kind,vint bs[n].term.arg, .slice oe 0 bs[n].term.to.length,vl vint bs[n].term.args]::r2).flatten):=by
  rw [hT',Jh,hfs]; rfl
 have hcl:(Ss.cutAt bs[n] i).code.length=bs[n].code.length-1:=by simp [Ss.cutAt,List.length_eraseIdx_of_lt hi]
 have hblk:OwL T' blkD [V.slice op 0 bs[n].params.length, .slice oc 0 (bs[n].code.length-1),vint bs[n].term.kind,vint bs[n].term.arg, .slice oe 0 bs[n].term.to.length,vl vint bs[n].term.args] (jd (Ss.cutAt bs[n] i)).cells (op::oc::((j1++j2)++oe::ie)):=by
  have:=jcw (T:=T') (b:=Ss.cutAt bs[n] i) (op:=op) (oc:=oc) (oe:=oe) (rs:=rc.eraseIdx i) (ce:=ce) (ic:=j1++j2) (ie:=ie) ?_ ?_ ?_ ?_ ?_
  ·rw [hcl] at this; exact this
  ·rw [g op (Ne.symm n1) n6]; exact hop
  ·rw [hT',jT (Ne.symm n2),Jh]
  ·exact hcut.mono fun o ho=>g o (fun e=>n4 (e▸hsub o ho)) (fun e=>n11 (e▸hsub o ho))
  ·rw [g oe (Ne.symm n3) (Ne.symm n10)]; exact hoe
  ·exact hie.mono fun o ho=>g o (fun e=>n5 (e▸ho)) (fun e=>n12 (e▸ho))
 have cnt : ∀ o,(hs++ob::(i1++((op::oc::(ic++oe::ie))++i2))).count o≤1:=fun o=>List.nodup_iff_count.1 hnd0 o
 rw [hic] at cnt;have hnew:=hput T' _ (Ss.cutAt bs[n] i) (op::oc::((j1++j2)++oe::ie)) (by rw [hT']; exact Nat.le_refl _) (fun o _ h1 h2=>g o h1 (fun e=>h2 (by simp [e]))) gb hblk (by
  refine List.nodup_iff_count.2 fun o => ?_
  have c:=cnt o;simp only [List.count_append,List.count_cons,List.count_nil] at c ⊢;omega) (fun o ho => .inl (by
   simp only [List.mem_cons,List.mem_append] at ho ⊢;rcases ho with h | h | h | h
   ·exact .inl h
   ·exact .inr (.inl h)
   ·exact .inr (.inr (.inl (hsub o (List.mem_append.2 h))))
   ·exact .inr (.inr (.inr h))))
 refine ⟨_,_,hfs.symm,hnew.hold (fun o ho => ?_) (List.nodup_iff_count.2 fun o => ?_) (fun o ho => ?_)⟩
 ·simp only [List.mem_cons,List.not_mem_nil,or_false] at ho;rcases ho with rfl | rfl
  ·rw [g _ (fun e=>n4 (e▸hoai)) (fun e=>n11 (e▸hoai)),hoa]; rfl
  ·rw [g _ (fun e=>n4 (e▸houi)) (fun e=>n11 (e▸houi)),hou]; rfl
 ·have c:=cnt o;simp only [List.count_append,List.count_cons,List.count_nil] at c ⊢;omega
 ·refine hlt0 o ?_;simp only [List.mem_cons,List.not_mem_nil,or_false] at ho;rcases ho with rfl | rfl
  ·simp [hoai]
  ·simp [houi]
theorem BInv.push {oa ou:Nat} (h:BInv S H ([oa,ou]++hs) ob bs T rs ids) (hw:T.Wf) {p:Nat} (hp:p<bs.length) {x:Ss.Ins} (hoa:T.get oa=some (1,x.args.map vint)) (hou:T.get ou=some (1,x.outs.map vint)) :
  ∃ (oc:Nat) (cells:List V),rs.flatten[p*6+1]? = some (.slice oc 0 bs[p].code.length)∧T.get oc=some (4,cells)∧cells.length=bs[p].code.length*4∧ob≠oc∧(∀ o∈hs,o≠oc∧o≠ob)∧oa≠oc∧ou≠oc∧oa≠ob∧ou≠ob ∧
   ∀ (T':Store) (on:Nat),T.nx≤on→T.nx≤T'.nx→(∀ o,o<T.nx→o≠ob→o≠oc→T'.get o=T.get o)→T'.get on=some (4,cells++[vint x.op,vu x.n, .slice oa 0 x.args.length, .slice ou 0 x.outs.length])→T'.get ob=some (6,rs.flatten.set (p*6+1) (.slice on 0 (bs[p].code.length+1))) →
    ∃ rs' ids',rs'.flatten=rs.flatten.set (p*6+1) (.slice on 0 (bs[p].code.length+1))∧BInv S H hs ob (bs.set p (Ss.endWith bs[p] x)) T' rs' ids':=by
 have hlt:=h.all_lt hw;obtain ⟨r1,r2,i1,i2,op,oc,oe,rc,ce,ip,ic,ie,rfl,h6,hl,hop,hoc,hrc,hoe,hie,rfl,hnd,hput⟩:=BInv.at2 h hw hp;obtain ⟨n0,n1,n2,n3,n4,n5,n6,n7,n8,n9,n10,n11,n12,n13,n14,n15,n16,n17⟩:=lnodup_ne hnd;have hc4:=hrc.len;have a0:=n0 oa (by simp);have u0:=n0 ou (by simp);have hcl:rc.flatten.length=bs[p].code.length*4:=by rw [qX hc4.2,hc4.1]; rfl
 refine ⟨oc,rc.flatten,Jo h6 hl rfl,hoc,hcl,n2,fun o ho=>⟨(n0 o (by simp [ho])).2.2.1,(n0 o (by simp [ho])).1⟩,a0.2.2.1,u0.2.2.1,a0.1,u0.1, ?_⟩;intro T' on hon hnx hk hgn hgb;have hfs:=Kb (m:=6) (r:=[V.slice op 0 bs[p].params.length, .slice oc 0 bs[p].code.length,vint bs[p].term.kind,vint bs[p].term.arg, .slice oe 0 bs[p].term.to.length,vl vint bs[p].term.args]) (r2:=r2) (q:=1) (w := .slice on 0 (bs[p].code.length+1)) h6 hl (by simp);rw [hfs] at hgb ⊢;have hin : ∀ o∈op::oc::(ic++oe::ie),o<T.nx:=fun o ho=>hlt o (by
  simp only [List.mem_append,List.mem_cons] at ho ⊢;rcases ho with h | h | h | h | h<;>simp [h])
 have ltm : ∀ o∈op::oc::(ic++oe::ie),o≠ob→o≠oc→T'.get o=T.get o:=fun o ho h1 h2=>hk o (hin o ho) h1 h2
 have lta:oa<T.nx:=hlt oa (by simp);have ltu:ou<T.nx:=hlt ou (by simp);have hcode:(Ss.endWith bs[p] x).code.length=bs[p].code.length+1:=by simp [Ss.endWith]
 have hblk:OwL T' blkD [V.slice op 0 bs[p].params.length, .slice on 0 (bs[p].code.length+1),vint bs[p].term.kind,vint bs[p].term.arg, .slice oe 0 bs[p].term.to.length,vl vint bs[p].term.args] (jd (Ss.endWith bs[p] x)).cells (op::on::((ic++[oa,ou])++oe::ie)):=by
  have:=jcw (T:=T') (b:=Ss.endWith bs[p] x) (op:=op) (oc:=on) (oe:=oe) (rs:=rc++[[vint x.op,vu x.n, .slice oa 0 x.args.length, .slice ou 0 x.outs.length]]) (ce:=ce) (ic:=ic++[oa,ou]) (ie:=ie) ?_ ?_ ?_ ?_ ?_
  ·rw [hcode] at this; exact this
  ·rw [ltm op (by simp) (Ne.symm n1) n6]; exact hop
  ·rw [hgn]; simp
  ·refine Rows.snoc (hrc.mono fun o ho=>ltm o (by simp [ho]) (fun e=>n4 (e▸ho)) (fun e=>n11 (e▸ho))) (ins_mk ?_ ?_)
   ·rw [hk oa lta a0.1 a0.2.2.1]; exact hoa
   ·rw [hk ou ltu u0.1 u0.2.2.1]; exact hou
  ·rw [ltm oe (by simp) (Ne.symm n3) (Ne.symm n10)]; exact hoe
  ·exact hie.mono fun o ho=>ltm o (by simp [ho]) (fun e=>n5 (e▸ho)) (fun e=>n12 (e▸ho))
 refine ⟨_,_,rfl,hput T' _ (Ss.endWith bs[p] x) (op::on::((ic++[oa,ou])++oe::ie)) hnx (fun o ho h1 h2=>hk o ho h1 (fun e=>h2 (by simp [e]))) hgb hblk (List.nodup_iff_count.2 fun o => ?_) (fun o ho => ?_)⟩
 ·have c:=List.nodup_iff_count.1 hnd o;have hno:o=on→(op::oc::(ic++oe::ie)).count o=0∧([oa,ou]:List Nat).count o=0:=fun e=>by
   subst e;refine ⟨List.count_eq_zero.2 fun h=>by have:=hin o h; omega,List.count_eq_zero.2 fun h => ?_⟩;simp only [List.mem_cons,List.not_mem_nil,or_false] at h;rcases h with h | h<;>omega
  simp only [List.count_append,List.count_cons,List.count_nil] at c hno ⊢
  by_cases e:o=on
  ·obtain ⟨z1,z2⟩:=hno e;subst e;simp only [beq_self_eq_true,if_true];omega
  ·have e2:(if (on==o)=true then 1 else 0)=0:=by
    rw [if_neg];simp only [beq_iff_eq]; exact fun h=>e h.symm
   omega
 ·simp only [List.mem_cons,List.mem_append,List.not_mem_nil,or_false] at ho ⊢;rcases ho with h | h | (h | h | h) | h
  ·exact .inl (.inl h)
  ·exact .inr (.inr (by omega))
  ·exact .inl (.inr (.inr (.inl h)))
  ·exact .inr (.inl (.inl h))
  ·exact .inr (.inl (.inr h))
  ·exact .inl (.inr (.inr (.inr h)))
theorem BInv.held (h:BInv S H hs ob bs T rs ids) (hw:T.Wf) {o:Nat} (ho:o∈hs) (c:Nat × List V):BInv S (H.upd o c) hs ob bs (T.upd o c) rs ids:=by
 obtain ⟨old,hd,al,cb,own,nd,lt⟩:=h;have hne : ∀ q∈ob::ids,q≠o:=fun q hq e=>(List.nodup_append.1 nd).2.2 o ho q hq e.symm
 refine ⟨⟨old.1,fun q hq => ?_⟩,fun q hq => ?_,fun q hq => ?_, ?_,own.mono fun q hq => ?_,nd,lt⟩
 ·have:=lt o (by simp [ho]);rw [jT (by omega)]; exact old.2 q hq
 ·rw [qp,qp,hd q hq]
 ·rw [qp]; split
  ·rfl
  ·exact al q hq
 ·rw [jT (hne ob (by simp))]; exact cb
 ·exact jT (hne q (by simp [hq]))
end
end Go.Vw

namespace Go.Vw
open Go.Proofs Go.RowKit
set_option maxRecDepth 10000
set_option maxHeartbeats 4000000
theorem ledge_row {T:Store} {e:Ss.Edge} {r:List V} {ii:List Nat} (h:OwL T KS r (jk e).cells ii) : ∃ oa,r=[vint e.to, .slice oa 0 e.args.length]∧ii=[oa]∧T.get oa=some (1,e.args.map vint):=by
 rw [qP] at h
 cases h with
 | c h1 h =>
  obtain ⟨o,rfl,h2,h3⟩:=row_row (l:=e.args) (by rw [WY]; exact h);exact ⟨o,rfl,h2,h3⟩
section
variable {S H:Store} {hs:List Nat} {ob:Nat} {bs:List Ss.Block} {T:Store} {rs:List (List V)} {ids:List Nat} {i:Nat}
theorem BInv.row (h:BInv S H hs ob bs T rs ids) (hw:T.Wf) (hi:i<bs.length) : ∃ (op oc oe:Nat) (rc re:List (List V)),
  (rs.flatten.drop (i*6)).take 6=[.slice op 0 bs[i].params.length, .slice oc 0 bs[i].code.length,vint bs[i].term.kind,vint bs[i].term.arg, .slice oe 0 bs[i].term.to.length,vl vint bs[i].term.args]∧(i+1)*6≤rs.flatten.length∧rs.flatten[i*6+1]? = some (.slice oc 0 bs[i].code.length) ∧
  T.get op=some (1,bs[i].params.map vint)∧T.get oc=some (4,rc.flatten)∧(∀ r∈rc,r.length=4)∧rc.length=bs[i].code.length∧T.get oe=some (2,re.flatten)∧re.length=bs[i].term.to.length∧re.flatten.length=bs[i].term.to.length*2 ∧
  (∀ (k:Nat) (hk:k<bs[i].term.to.length), ∃ oa,(re.flatten.drop (k*2)).take 2=[vint bs[i].term.to[k].to, .slice oa 0 bs[i].term.to[k].args.length]) ∧
  ∀ (k:Nat) (hk:k<bs[i].code.length), ∃ oa ou,(rc.flatten.drop (k*4)).take 4=[vint bs[i].code[k].op,vu bs[i].code[k].n, .slice oa 0 bs[i].code[k].args.length, .slice ou 0 bs[i].code[k].outs.length]∧T.get oa=some (1,bs[i].code[k].args.map vint)∧T.get ou=some (1,bs[i].code[k].outs.map vint):=by
 obtain ⟨r1,r2,i1,i2,op,oc,oe,rc,ce,ip,ic,ie,rfl,h6,hl,hop,hoc,hrc,hoe,hie,rfl,hnd,hput⟩:=h.at hw hi;obtain ⟨re,rfl,hrl,hre⟩:=ZR (enc:=jk) (tys:=KS) (fun x=>by rw [qP]; rfl) hie;have he2:=hre.len;have hc4:=hrc.len;have hall:=h.own.len;have hfl:=qX hall.2;have hil:i<(r1++[V.slice op 0 bs[i].params.length, .slice oc 0 bs[i].code.length,vint bs[i].term.kind,vint bs[i].term.arg, .slice oe 0 bs[i].term.to.length,vl vint bs[i].term.args]::r2).length:=by rw [hall.1]; exact hi
 refine ⟨op,oc,oe,rc,re, ?_, ?_,Jo h6 hl rfl,hop,hoc,hc4.2,hc4.1,hoe,he2.1, ?_,fun k hk => ?_,fun k hk => ?_⟩
 ·have:=WQ (m:=6) hall.2 hil;rw [this];subst hl;simp
 ·rw [hfl];have:blkD.length=6:=rfl;rw [this];exact Nat.mul_le_mul_right 6 hil
 ·rw [qX he2.2,he2.1]; rfl
 ·obtain ⟨e1,e,e2,j1,jj,j2,rfl,hel,rfl,hrow,hep⟩:=hre.at (List.getElem?_eq_getElem hk);obtain ⟨oa,rfl,rfl,hoa⟩:=ledge_row hrow;have:=WQ (m:=2) he2.2 (k:=k) (by rw [he2.1]; exact hk);refine ⟨oa, ?_⟩;rw [this];subst hel;simp
 ·obtain ⟨e1,e,e2,j1,jj,j2,rfl,hel,rfl,hrow,hep⟩:=hrc.at (List.getElem?_eq_getElem hk);obtain ⟨oa,ou,rfl,rfl,hoa,hou⟩:=ins_row hrow;have:=WQ (m:=4) hc4.2 (k:=k) (by rw [hc4.1]; exact hk);refine ⟨oa,ou, ?_,hoa,hou⟩;rw [this];subst hel;simp
end
theorem SuccG_v {S H:Store} {hs:List Nat} {ob:Nat} {bs:List Ss.Block} {T:Store} {rs:List (List V)} {ids:List Nat} (hI:BInv S H hs ob bs T rs ids) {fi fo:List Int} {ot nt:Nat}
  (cs' : ∀ l,VCalls Tryz.prog 64 [.agg [vl vint fi,vl vint fo, .slice ot 0 nt, .slice ob 0 bs.length]] (St T [] l) fun r T'=>r = .bool true∧T'=St T [] l) (hbl:bs.length≤4096) (htl : ∀ b∈bs,b.term.to.length≤4096) :
  VCalls Tryz.prog 26 [.agg [vl vint fi,vl vint fo, .slice ot 0 nt, .slice ob 0 bs.length]] T fun r T'=>r=vl (vl vint) (Ss.succs bs)∧T'=T:=by
 refine jb (c:=jg Tryz.f26) Tryz.func26 rfl rfl (by simp [Tryz.ntmps26]) ?_;rw [Tryz.ntmps26];intro hwf;have hcb:=hI.cb;have lb:=jA hwf hcb;have bb:=fun u l => @jt T u l ob lb
 repeat first|refine QG ?_|refine QY ?_
 repeat refine QS ?_
 refine QP ?_;refine qb rfl (cs' _) ?_;rintro X T9 ⟨rfl,rfl⟩;refine QW ?_
 repeat refine QS ?_
 refine jI rfl rfl rfl ?_
 repeat refine QS ?_
 refine jD rfl ?_
 repeat refine QS ?_
 refine QY ?_;refine qW 3 1 rfl (by conv=>lhs; simp [Fr.set]) ?_
 repeat first|refine QG ?_|refine QY ?_ (r:=by conv=>lhs;simp[-List.map_set,QV,bb,hcb])
 refine jE [3,13,14,15] (by conv=>lhs; simp [Fr.only,Fr.look]) ?_;have bP:=fun ks=>zO (n:=T.nx) ks lb
 have bT:=fun ks=>zh (n:=T.nx) ks lb
 refine zp [1] hwf (by decide) (by simp [-List.map_set,bP,bT]) (by conv=>lhs; simp [-List.map_set,bP,bT]) (by conv=>lhs; simp [-List.map_set,bP,bT]) (by conv=>lhs; simp [-List.map_set,bP,bT]) ?_
 repeat refine QS ?_
 refine je [3,13,14,15] rfl (fun c σ S' => ∃ (k:Nat) (out:List (List Int)),k≤bs.length∧c=bs.length-k∧out.length=k∧out=(bs.take k).map Ss.rowOf∧σ=[(3, .slice (lid T.nx 0) 0 k),(13, .slice ob 0 bs.length),(14,vnat bs.length),(15,vnat k)]∧S'=St T [] [some (1,out.map (vl vint))]) bs.length ?_ ?_
 ·exact ⟨0,[],by omega,rfl,rfl,by simp,by simp [Fr.only],by simp⟩
 ·rintro c σ T9 ⟨k,out,hk,rfl,hol,ho,rfl,rfl⟩
  by_cases hkt:k<bs.length
  ·have hw:=jo hkt (by omega);obtain ⟨op,oc,oe,rc,re,hrow,hlen,_,_,_,_,_,hge,hrel,hrel2,hre,_⟩:=hI.row hwf hkt;have htl':=htl _ (List.getElem_mem hkt);obtain ⟨⟨ps,code,⟨tk,ta,to,az⟩⟩,hx⟩ : ∃ b,bs[k]=b:=⟨_,rfl⟩
   rw [hx] at htl';simp only [hx] at hrow hrel hrel2 hre;simp only at htl';have le:=jA hwf hge;have be:=fun u l => @jt T u l oe le
   have htk:bs.take (k+1)=bs.take k++[⟨ps,code,⟨tk,ta,to,az⟩⟩]:=by rw [List.take_add_one,List.getElem?_eq_getElem hkt,hx]; rfl
   obtain ⟨cells,hcells⟩ : ∃ c,c=rs.flatten:=⟨_,rfl⟩
   obtain ⟨ce,hce⟩ : ∃ c,c=re.flatten:=⟨_,rfl⟩
   rw [←hcells] at hcb hrow hlen;rw [←hce] at hge hrel2 hre;have hl2:k*6+6≤cells.length:=by omega
   repeat refine QS ?_
   refine QY ?_ (r:=by conv=>lhs;simp[-List.map_set,QV,hkt])
   repeat refine QS ?_
   refine jH rfl rfl rfl ?_
   repeat refine QS ?_
   refine jD rfl ?_
   repeat refine QS ?_
   refine jL 1 rfl rfl ?_
   repeat refine QS ?_
   refine QY ?_ (r:=by conv=>lhs;simp[-List.map_set,QV,hkt,bb,hcb,hrow,hl2]);have eP:=fun ks=>zO (n:=T.nx) ks le
   have eT:=fun ks=>zh (n:=T.nx) ks le
   repeat refine QS ?_
   refine QY ?_;refine qW 6 1 rfl (by conv=>lhs; simp [Fr.set]) ?_
   repeat first|refine QG ?_|refine QY ?_ (r:=by conv=>lhs;simp[-List.map_set,QV,be,hge])
   refine jE [3,6,13,14,15,21,22,23] (by conv=>lhs; simp [Fr.only,Fr.look]) ?_;refine zp [0,2] hwf (by decide) (by simp [-List.map_set,bP,bT,eP,eT]) (by conv=>lhs; simp [-List.map_set,bP,bT,eP,eT]) (by conv=>lhs; simp [-List.map_set,bP,bT,eP,eT]) (by conv=>lhs; simp [-List.map_set,bP,bT,eP,eT]) ?_
   repeat refine QS ?_
   refine je [3,6,13,14,15,21,22,23] rfl (fun c σ S' => ∃ (j:Nat) (r:List Int),j≤to.length∧c=to.length-j∧r.length=j∧r=(to.take j).map Ss.Edge.to∧σ=[(3, .slice (lid T.nx 0) 0 k),(6, .slice (lid T.nx 1) 0 j),(13, .slice ob 0 bs.length),(14,vnat bs.length),(15,vnat k),(21, .slice oe 0 to.length),(22,vnat to.length),(23,vnat j)]∧S'=St T [] [some (1,out.map (vl vint)),some (1,r.map vint)]) to.length ?_ ?_
   ·exact ⟨0,[],by omega,rfl,rfl,by simp,by simp [Fr.only],by simp⟩
   ·rintro c σ T9 ⟨j,r,hj,rfl,hrl,hr,rfl,rfl⟩
    by_cases hjt:j<to.length
    ·have hwj:=jo hjt (by omega);have hb:(j+1)*8≤140737488355328:=by omega
     have hb':j+1≤140737488355328:=by omega
     obtain ⟨oa,hre2⟩:=hre j hjt;have hl3:j*2+2≤ce.length:=by omega
     obtain ⟨⟨xt,xa⟩,hx2⟩ : ∃ b,to[j]=b:=⟨_,rfl⟩
     rw [hx2] at hre2;simp only at hre2;have htj:to.take (j+1)=to.take j++[⟨xt,xa⟩]:=by rw [List.take_add_one,List.getElem?_eq_getElem hjt,hx2]; rfl
     repeat first|refine QG ?_|refine QY ?_ (r:=by conv=>lhs;simp[-List.map_set,QV,hjt,be,hge,hre2,hl3,hb,hb',hrl])
     refine jS [0,4] (by conv=>lhs; simp [Fr.only]) hwf (by decide) (by simp [-List.map_set,bP,bT,eP,eT]) (by conv=>lhs; simp [-List.map_set,bP,bT,eP,eT]) (by conv=>lhs; simp [-List.map_set,bP,bT,eP,eT]) (by conv=>lhs; simp [-List.map_set,bP,bT,eP,eT]) ⟨?_,j+1,r++[xt],hjt,rfl,by simp [hrl],by rw [htj,List.map_append,hr]; rfl,by simp [hwj],by simp⟩;omega
    ·have hje:j=to.length:=by omega
     subst hje;rw [List.take_length] at hr;have hb:(k+1)*24≤140737488355328:=by omega
     have hb':k+1≤140737488355328:=by omega
     repeat refine QS ?_
     refine QY ?_ (r:=by conv=>lhs;simp[-List.map_set,QV,hjt])
     repeat refine QS ?_
     refine jI rfl rfl rfl ?_
     repeat refine QS ?_
     refine jP 2 rfl rfl ?_;refine jz 6 rfl ((frz1 (k:=1) (len:=to.length) (by simp) (by rfl) (jG vint (fun _=>rfl) _) (by simpa using hrl))) (by conv=>lhs; simp [Fr.set]) ?_;simp only [List.set_cons_succ,List.set_cons_zero]
     repeat first|refine QG ?_|refine QY ?_ (r:=by conv=>lhs;simp[-List.map_set,QV,hb,hb',hol])
     refine jS [3] (by conv=>lhs; simp [Fr.only]) hwf (by decide) (by simp [-List.map_set,bP,bT,eP,eT]) (by conv=>lhs; simp [-List.map_set,bP,bT,eP,eT]) (by conv=>lhs; simp [-List.map_set,bP,bT,eP,eT]) (by conv=>lhs; simp [-List.map_set,bP,bT,eP,eT]) ⟨?_,k+1,out++[r],hkt,rfl,by simp [hol],by rw [htk,List.map_append, ←ho,hr]; rfl,by simp [hw],by simp [vl]⟩;omega
  ·have hke:k=bs.length:=by omega
   subst hke;rw [List.take_length] at ho
   repeat first|refine QG ?_|refine QY ?_ (r:=by conv=>lhs;simp[-List.map_set,QV,hkt])
   rw [Ss.succs, ←ho];exact ji hwf ((frz1 (by simp) (by rfl) (jG (vl vint) (fun _=>rfl) _) (by simpa using hol)).toB _) rfl
end Go.Vw

namespace Go.Vw
open Go.Proofs Go.RowKit
set_option maxRecDepth 10000
set_option maxHeartbeats 4000000
theorem Homes_v (f:Ss.Fn) (hf:f.Fits) (hs:f.small=true) (hp : ∀ b∈f.blocks, ∀ v∈b.params,Ss.InR f.types.length v) (ho : ∀ b∈f.blocks, ∀ x∈b.code, ∀ v∈x.outs,Ss.InR f.types.length v) (S:Store) (hwf0:S.Wf) :
  VCalls Tryz.prog 27 [qD f] S fun r T=>r = .slice S.nx 0 f.types.length∧T=St S [] [some (1,(Ss.homesI f).map vint)]:=by
 obtain ⟨hb0,hb1,hb2,_⟩:=qd hs;have hfb:=hf.2.2.2;unfold Ss.homesI;obtain ⟨⟨fi,fo⟩,ts,bs⟩:=f;simp only at *
 generalize hN:ts.length=N at *
 generalize hz:List.replicate N (0:Int)=z0;have hzl:z0.length=N:=by rw [←hz]; simp
 have e3:List.replicate N (V.int IntKind.i64 0)=z0.map vint:=by rw [←hz]; simp
 refine jb (c:=jg Tryz.f27) Tryz.func27 rfl rfl (by simp [Tryz.ntmps27]) ?_;rw [Tryz.ntmps27];intro hwf
 repeat refine QS ?_
 refine QY ?_;refine QH 1 0 ?_;have e1:N*8≤140737488355328:=by omega
 have e2:N≤140737488355328:=by omega
 repeat first|refine QG ?_|refine QY ?_ (r:=by conv=>lhs;simp[-List.map_set,QV,hN,e1,e2])
 rw [e3];refine jE [3,17,18,19] (by conv=>lhs; simp [Fr.only,Fr.look]) ?_;refine zp [1] hwf (by decide) (by simp [-List.map_set]) (by conv=>lhs; simp [-List.map_set]) (by conv=>lhs; simp [-List.map_set]) (by conv=>lhs; simp [-List.map_set]) ?_
 repeat refine QS ?_
 refine je [3,17,18,19] rfl (fun c σ S' => ∃ (k:Nat) (out:List Int),k≤bs.length∧c=bs.length-k∧out.length=N∧Ss.hmAll k (bs.drop k) out=Ss.hmAll 0 bs z0∧σ=[(3, .slice (lid S.nx 0) 0 N),(17,vl jd bs),(18,vnat bs.length),(19,vnat k)]∧S'=St S [] [some (1,out.map vint)]) bs.length ?_ ?_
 ·exact ⟨0,_,by omega,rfl,hzl,rfl,by simp [Fr.only],rfl⟩
 ·rintro c σ T ⟨k,out,hk,rfl,hol,hout,rfl,rfl⟩
  by_cases hkt:k<bs.length
  ·have hw:=jo hkt (by omega);have hbm:bs[k]∈bs:=List.getElem_mem hkt;obtain ⟨hbp,_,_,hbc⟩:=hb2 _ hbm;have hpk:=hp _ hbm;have hok:=ho _ hbm;have hfk:=hfb _ hbm;rw [List.drop_eq_getElem_cons hkt,Ss.hmAll] at hout;obtain ⟨⟨ps,code,⟨tk,ta,to,az⟩⟩,hx⟩ : ∃ b,bs[k]=b:=⟨_,rfl⟩
   rw [hx] at hout hbp hbc hpk hok hfk;simp only at hbp hbc hpk hok;have hcf:=hfk.2.1.2;simp only at hcf;have hout0:Ss.hmAll (k+1) (bs.drop (k+1)) (Ss.hmCode (k:Int) (Ss.hmPut (k:Int) out (ps.drop 0)) code)=Ss.hmAll 0 bs z0:=hout
   repeat refine QS ?_
   refine QY ?_ (r:=by conv=>lhs;simp[-List.map_set,QV,hkt,hx])
   repeat refine QS ?_
   refine jH rfl rfl rfl ?_
   repeat refine QS ?_
   refine jD rfl ?_
   repeat refine QS ?_
   refine jL 1 rfl rfl ?_
   repeat refine QS ?_
   refine QY ?_ (r:=by conv=>lhs;simp[-List.map_set,QV,hkt,hx])
   repeat first|refine QG ?_|refine QY ?_
   refine jE [3,4,5,17,18,19,25,26,27] (by conv=>lhs; simp [Fr.only,Fr.look]) ?_
   repeat refine QS ?_
   refine je [3,4,5,17,18,19,25,26,27] rfl (fun c σ S' => ∃ (j:Nat) (out:List Int),j≤ps.length∧c=ps.length-j∧out.length=N∧Ss.hmAll (k+1) (bs.drop (k+1)) (Ss.hmCode (k:Int) (Ss.hmPut (k:Int) out (ps.drop j)) code)=Ss.hmAll 0 bs z0∧σ=[(3, .slice (lid S.nx 0) 0 N),(4,vnat k),(5, .ptr (lid S.nx 1) 0),(17,vl jd bs),(18,vnat bs.length),(19,vnat k),(25,vl vint ps),(26,vnat ps.length),(27,vnat j)]∧S'=St S [] [some (1,out.map vint),some (6,[vl vint ps,vl jm code,vint tk,vint ta,vl jk to,vl vint az])]) ps.length ?_ ?_
   ·exact ⟨0,out,by omega,rfl,hol,hout0,by simp [Fr.only,Fr.look],rfl⟩
   ·rintro c σ T ⟨j,out,hj,rfl,hol,hout,rfl,rfl⟩
    by_cases hjt:j<ps.length
    ·have hwj:=jo hjt (by omega);obtain ⟨m,hm⟩ : ∃ m:Nat,ps[j]=(m:Int):=⟨ps[j].toNat,by have:=(hpk _ (List.getElem_mem hjt)).1; omega⟩
     have hmN:m<N:=by have:=(hpk _ (List.getElem_mem hjt)).2; omega
     have hmo:m<out.length:=by omega
     rw [List.drop_eq_getElem_cons hjt] at hout;have hout2:Ss.hmAll (k+1) (bs.drop (k+1)) (Ss.hmCode (k:Int) (Ss.hmPut (k:Int) (out.set m (k:Int)) (ps.drop (j+1))) code)=Ss.hmAll 0 bs z0:=by
      rw [←hout,hm]; rfl
     repeat first|refine QG ?_|refine QY ?_ (r:=by conv=>lhs;simp[-List.map_set,QV,hjt,hm,hmN,hmo,hwj])
     show jx _ _ _ _ _ _ _;exact again ⟨Nat.sub_lt_sub_left hjt (Nat.lt_succ_self j),j+1,out.set m (k:Int),hjt,rfl,by rw [List.length_set]; exact hol,hout2,by simp [Fr.only,Fr.look],rfl⟩
    ·have e:ps.drop j=[]:=by rw [List.drop_eq_nil_iff]; omega
     rw [e] at hout;have hout3:Ss.hmAll (k+1) (bs.drop (k+1)) (Ss.hmCode (k:Int) out (code.drop 0))=Ss.hmAll 0 bs z0:=hout;clear hout hout0 e
     repeat first|refine QG ?_|refine QY ?_ (r:=by conv=>lhs;simp[-List.map_set,QV,hjt])
     refine jE [3,4,17,18,19,37,38,39] (by conv=>lhs; simp [Fr.only,Fr.look]) ?_;refine zp [0] hwf (by decide) (by simp [-List.map_set]) (by conv=>lhs; simp [-List.map_set]) (by conv=>lhs; simp [-List.map_set]) (by conv=>lhs; simp [-List.map_set]) ?_
     repeat refine QS ?_
     refine je [3,4,17,18,19,37,38,39] rfl (fun c σ S' => ∃ (i:Nat) (out:List Int),i≤code.length∧c=code.length-i∧out.length=N∧Ss.hmAll (k+1) (bs.drop (k+1)) (Ss.hmCode (k:Int) out (code.drop i))=Ss.hmAll 0 bs z0∧σ=[(3, .slice (lid S.nx 0) 0 N),(4,vnat k),(17,vl jd bs),(18,vnat bs.length),(19,vnat k),(37,vl jm code),(38,vnat code.length),(39,vnat i)]∧S'=St S [] [some (1,out.map vint)]) code.length ?_ ?_
     ·exact ⟨0,out,by omega,rfl,hol,hout3,by simp [Fr.only,Fr.look],rfl⟩
     ·rintro c σ T ⟨i,out,hi,rfl,hol,hout,rfl,rfl⟩
      by_cases hit:i<code.length
      ·have hwi:=jo hit (by omega);rw [List.drop_eq_getElem_cons hit] at hout;have hoi:=hok _ (List.getElem_mem hit);have hci:=hcf _ (List.getElem_mem hit);obtain ⟨⟨xo,xn,xa,xs⟩,hx2⟩ : ∃ b,code[i]=b:=⟨_,rfl⟩
       rw [hx2] at hout hoi hci;simp only at hoi;have hxl:xs.length<2^62:=by
        have:=hci.2.2.2.1;simp only at this;omega
       have hout4:Ss.hmAll (k+1) (bs.drop (k+1)) (Ss.hmCode (k:Int) (Ss.hmPut (k:Int) out (xs.drop 0)) (code.drop (i+1)))=Ss.hmAll 0 bs z0:=hout;clear hout hout3
       repeat refine QS ?_
       refine QY ?_ (r:=by conv=>lhs;simp[-List.map_set,QV,hit,hx2])
       repeat refine QS ?_
       refine jH rfl rfl rfl ?_
       repeat refine QS ?_
       refine jD rfl ?_
       repeat refine QS ?_
       refine jL 5 rfl rfl ?_
       repeat refine QS ?_
       refine QY ?_ (r:=by conv=>lhs;simp[-List.map_set,QV,hit,hx2])
       repeat first|refine QG ?_|refine QY ?_
       refine jE [3,4,17,18,19,37,38,39,44,45,46] (by conv=>lhs; simp [Fr.only,Fr.look]) ?_;refine zp [0] hwf (by decide) (by simp [-List.map_set]) (by conv=>lhs; simp [-List.map_set]) (by conv=>lhs; simp [-List.map_set]) (by conv=>lhs; simp [-List.map_set]) ?_
       repeat refine QS ?_
       refine je [3,4,17,18,19,37,38,39,44,45,46] rfl (fun c σ S' => ∃ (q:Nat) (out:List Int),q≤xs.length∧c=xs.length-q∧out.length=N∧Ss.hmAll (k+1) (bs.drop (k+1)) (Ss.hmCode (k:Int) (Ss.hmPut (k:Int) out (xs.drop q)) (code.drop (i+1)))=Ss.hmAll 0 bs z0∧σ=[(3, .slice (lid S.nx 0) 0 N),(4,vnat k),(17,vl jd bs),(18,vnat bs.length),(19,vnat k),(37,vl jm code),(38,vnat code.length),(39,vnat i),(44,vl vint xs),(45,vnat xs.length),(46,vnat q)]∧S'=St S [] [some (1,out.map vint)]) xs.length ?_ ?_
       ·exact ⟨0,out,by omega,rfl,hol,hout4,by simp [Fr.only,Fr.look],rfl⟩
       ·rintro c σ T ⟨q,out,hq,rfl,hol,hout,rfl,rfl⟩
        by_cases hqt:q<xs.length
        ·have hwq:=jo hqt (by omega);obtain ⟨m,hm⟩ : ∃ m:Nat,xs[q]=(m:Int):=⟨xs[q].toNat,by have:=(hoi _ (List.getElem_mem hqt)).1; omega⟩
         have hmN:m<N:=by have:=(hoi _ (List.getElem_mem hqt)).2; omega
         have hmo:m<out.length:=by omega
         rw [List.drop_eq_getElem_cons hqt] at hout;have hout2:Ss.hmAll (k+1) (bs.drop (k+1)) (Ss.hmCode (k:Int) (Ss.hmPut (k:Int) (out.set m (k:Int)) (xs.drop (q+1))) (code.drop (i+1)))=Ss.hmAll 0 bs z0:=by
          rw [←hout,hm]; rfl
         repeat first|refine QG ?_|refine QY ?_ (r:=by conv=>lhs;simp[-List.map_set,QV,hqt,hm,hmN,hmo,hwq])
         show jx _ _ _ _ _ _ _;exact again ⟨Nat.sub_lt_sub_left hqt (Nat.lt_succ_self q),q+1,out.set m (k:Int),hqt,rfl,by rw [List.length_set]; exact hol,hout2,by simp [Fr.only,Fr.look],rfl⟩
        ·have e:xs.drop q=[]:=by rw [List.drop_eq_nil_iff]; omega
         rw [e] at hout;have hout5:Ss.hmAll (k+1) (bs.drop (k+1)) (Ss.hmCode (k:Int) out (code.drop (i+1)))=Ss.hmAll 0 bs z0:=hout
         repeat first|refine QG ?_|refine QY ?_ (r:=by conv=>lhs;simp[-List.map_set,QV,hqt,hwi])
         show jx _ _ _ _ _ _ _;exact again ⟨Nat.sub_lt_sub_left hit (Nat.lt_succ_self i),i+1,out,hit,rfl,hol,hout5,by simp [Fr.only,Fr.look],rfl⟩
      ·have e:code.drop i=[]:=by rw [List.drop_eq_nil_iff]; omega
       rw [e] at hout;have hout5:Ss.hmAll (k+1) (bs.drop (k+1)) out=Ss.hmAll 0 bs z0:=hout
       repeat first|refine QG ?_|refine QY ?_ (r:=by conv=>lhs;simp[-List.map_set,QV,hit,hw])
       show jx _ _ _ _ _ _ _;exact again ⟨Nat.sub_lt_sub_left hkt (Nat.lt_succ_self k),k+1,out,hkt,rfl,hol,hout5,by simp [Fr.only,Fr.look],rfl⟩
  ·have hke:bs.drop k=[]:=by rw [List.drop_eq_nil_iff]; omega
   rw [hke] at hout;have hout5:out=Ss.hmAll 0 bs z0:=hout;rw [←hout5]
   repeat first|refine QG ?_|refine QY ?_ (r:=by conv=>lhs;simp[-List.map_set,QV,hkt])
   exact zm ⟨by simp [lid],rfl⟩
end Go.Vw

namespace Go.Vw
open Go.Proofs Go.RowKit
set_option maxRecDepth 10000
set_option maxHeartbeats 4000000
theorem LClo_v (S:Store) {ph oh:Nat} {hm:List Int} {h:Int} {nodes:List Int} (hp:S.get ph=some (1,[.slice oh 0 hm.length])) (ho:S.get oh=some (1,hm.map vint)) (hs:nodes.Pairwise (· < ·)) (hl:nodes.length<4611686018427387904) {m:Nat} (hmN:m<hm.length) :
  VCalls Tryz.prog 29 [vint (m:Int), .ref (.agg [vint h,vl vint nodes]), .ptr ph 0] S fun r T=>r = .bool (decide (hm[m]∈nodes))∧T=S:=by
 have cb:=BinSearch_v nodes hm[m] hl hs;refine jb (c:=jg Tryz.f29) Tryz.func29 rfl rfl (by simp [Tryz.ntmps29]) ?_;rw [Tryz.ntmps29];intro hwf;have lp:=jA hwf hp;have lo:=jA hwf ho;have bp:=fun u l => @jt S u l ph lp
 have bo:=fun u l => @jt S u l oh lo
 repeat first|refine QG ?_|refine QY ?_
 repeat refine QS ?_
 refine QD (r:=by conv=>lhs;simp[-List.map_set,QV,bp,bo,hp,ho,hmN]) (k:=?_);refine jn rfl (cb) ?_;refine QW ?_
 repeat first|refine QG ?_|refine QY ?_
 exact zm ⟨rfl,qM hwf⟩
theorem LIdx_v {S:Store} {l:List Int} {oc:Nat} {fid:FuncId} {caps:List V} {p:Int→Bool} (hc:qf Tryz.prog fid=true) (hlim:l.length<2^62) (hclo : ∀ v∈l,VCalls Tryz.prog fid (vint v::caps) S fun r T=>r = .bool (p v)∧T=S) (hg:S.get oc=some (1,l.map vint)) :
  VCalls Tryz.prog 84 [.slice oc 0 l.length, .func fid caps] S fun v T=>v=vint (qB p l 0)∧T=S:=by
 refine jb (c:=jg Tryz.f84) Tryz.func84 rfl rfl (by simp [Tryz.ntmps84]) ?_;rw [Tryz.ntmps84];intro hwf;have lo:=jA hwf hg;have b0:=fun u m => @jt S u m oc lo
 repeat first|refine QG ?_|refine QY ?_ (r:=by conv=>lhs;simp[-List.map_set,QV,b0,hg])
 repeat refine QS ?_
 refine je [0,1,7,8] rfl (fun c σ S' => ∃ (k:Nat),k≤l.length∧c=l.length-k∧qB p (l.drop k) k=qB p l 0∧σ=[(0, .slice oc 0 l.length),(1, .func fid caps),(7,vnat l.length),(8,vnat k)]∧S'=St S [] []) l.length ?_ ?_
 ·exact ⟨0,by omega,rfl,rfl,by simp [Fr.only],rfl⟩
 ·rintro c σ T ⟨k,hk,rfl,hd,rfl,rfl⟩
  by_cases hkt:k<l.length
  ·have hst:qB p (l.drop k) k=if p l[k]=true then (k:Int) else qB p (l.drop (k+1)) (k+1):=by rw [List.drop_eq_getElem_cons hkt,qB]
   have hw:=jo hkt (by omega);have cc:=hclo l[k] (List.getElem_mem hkt);rw [←qM hwf] at cc
   repeat first|refine QG ?_|refine QY ?_ (r:=by conv=>lhs;simp[-List.map_set,QV,hkt,b0,hg])
   repeat refine QS ?_
   refine QP ?_ (r:=by conv=>lhs;simp[-List.map_set,QV,hkt,b0,hg]);refine zT rfl hc rfl cc ?_;rintro X T9 ⟨rfl,rfl⟩
   cases hp:p l[k] with
   | true =>
    rw [hp,if_pos rfl] at hst;refine QW ?_
    repeat first|refine QG ?_|refine QY ?_
    exact zm ⟨by rw [←hd,hst]; rfl,by first | exact qM hwf | (rw [qM hwf]; exact qM hwf)⟩
   | false =>
    rw [hp,if_neg (by simp)] at hst;refine QW ?_
    repeat first|refine QG ?_|refine QY ?_ (r:=by conv=>lhs;simp[-List.map_set,QV,hw])
    show jx _ _ _ _ _ _ _;exact again ⟨Nat.sub_lt_sub_left hkt (Nat.lt_succ_self k),k+1,hkt,rfl,by rw [←hst,hd],by simp [Fr.only,Fr.look],by first | rfl | (rw [qM hwf]; rfl)⟩
  ·have e:l.drop k=[]:=by rw [List.drop_eq_nil_iff]; omega
   rw [e] at hd;simp only [qB] at hd
   repeat first|refine QG ?_|refine QY ?_ (r:=by conv=>lhs;simp[-List.map_set,QV,hkt])
   exact zm ⟨congrArg vint hd,qM hwf⟩
theorem LAny_v {S:Store} {l:List Int} {oc:Nat} {fid:FuncId} {caps:List V} {p:Int→Bool} (hc:qf Tryz.prog fid=true) (hlim:l.length<2^62) (hclo : ∀ v∈l,VCalls Tryz.prog fid (vint v::caps) S fun r T=>r = .bool (p v)∧T=S) (hg:S.get oc=some (1,l.map vint)) :
  VCalls Tryz.prog 32 [.slice oc 0 l.length, .func fid caps] S fun v T=>v = .bool (l.any p)∧T=S:=by
 have ci:=LIdx_v hc hlim hclo hg;rw [←Je p l 0];refine jb (c:=jg Tryz.f32) Tryz.func32 rfl rfl (by simp [Tryz.ntmps32]) ?_;rw [Tryz.ntmps32];intro hwf;rw [←qM hwf] at ci
 repeat first|refine QG ?_|refine QY ?_
 repeat refine QS ?_
 refine QP ?_;refine qb rfl ci ?_;rintro X T9 ⟨rfl,rfl⟩;refine QW ?_
 repeat first|refine QG ?_|refine QY ?_
 exact zm ⟨rfl,by first | exact qM hwf | (rw [qM hwf]; exact qM hwf)⟩
end Go.Vw
