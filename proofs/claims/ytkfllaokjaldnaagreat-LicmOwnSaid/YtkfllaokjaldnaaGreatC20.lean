import Derived.Test.YtkfllaokjaldnaaGreatC14
import Derived.Test.YtkfllaokjaldnaaGreatC16
import Derived.Test.YtkfllaokjaldnaaGreatC19
import Derived.Test.YtkfllaokjaldnaaGreatC15
import Derived.Test.YtkfllaokjaldnaaGreatC17
import Derived.Test.YtkfllaokjaldnaaGreatC9
import Derived.Test.YtkfllaokjaldnaaGreatC7
/- Part of the proof. -/
set_option linter.unusedVariables false
set_option linter.unusedSimpArgs false
set_option maxRecDepth 10000
set_option maxHeartbeats 4000000
namespace Go.Vw
open Go.Proofs Go.RowKit
theorem jbM {T:Store} {b:Ss.Block} {r:List V} {ii:List Nat} (h:OwL T blkE r (jb b).cells ii) : ∃ oc oe,r=[vl vint b.params, .slice oc 0 b.code.length,vint b.term.kind,vint b.term.arg, .slice oe 0 b.term.to.length,vl vint b.term.args]∧ii=[oc,oe]∧T.get oc=some (4,je jg b.code)∧T.get oe=some (2,je jf b.term.to):=by
 rw [jz] at h;generalize hA:vl jg b.code=A at h;generalize hB:vl jf b.term.to=B at h
 cases h with
 | c h0 h=>cases h with
  | @s _ _ _ _ ca ys i j oc ho hs d h=>cases h with
   | c h1 h=>cases h with
    | c h2 h=>cases h with
     | @s _ _ _ _ cb zs i2 j2 oe ho2 hs2 d2 h=>cases h with
      | c h3 h=>cases h with
       | nil =>
        have e1:ys=b.code.map jg:=by
         have:V.list (b.code.map jg)=V.list ys:=hA;exact (V.list.inj this).symm
        have e2:zs=b.term.to.map jf:=by
         have:V.list (b.term.to.map jf)=V.list zs:=hB;exact (V.list.inj this).symm
        subst e1; subst e2;have c1:=zf (n:=(b.code.map jg).length*4) (by rw [←KW]; exact d);have c2:=zf (n:=(b.term.to.map jf).length*2) (by rw [←KW]; exact d2);rw [qN] at c1 c2;refine ⟨oc,oe,by simp, ?_, ?_, ?_⟩
        ·rw [c1.2,c2.2]; rfl
        ·rw [ho,c1.1]; rfl
        ·rw [ho2,c2.1]; rfl
theorem Yb {T:Store} {b:Ss.Block} {oc oe:Nat} (h1:T.get oc=some (4,je jg b.code)) (h2:T.get oe=some (2,je jf b.term.to)) :
  OwL T blkE [vl vint b.params, .slice oc 0 b.code.length,vint b.term.kind,vint b.term.arg, .slice oe 0 b.term.to.length,vl vint b.term.args] (jb b).cells [oc,oe]:=by
 rw [jz];exact .c rfl (OwL.slice (fun _=>by rw [jJ]; rfl) qo b.code h1 (.c rfl (.c rfl (OwL.slice (fun _=>by rw [qq]; rfl) qp b.term.to h2 (.c rfl .nil)))))
structure EInv (S H:Store) (hs:List Nat) (ob:Nat) (bs:List Ss.Block) (T:Store) (rs:List (List V)) (ids:List Nat):Prop where
 old:Agree S T
 hd : ∀ o∈hs,T.get o=H.get o
 al : ∀ o∈hs,(H.get o).isSome=true
 cb:T.get ob=some (6,rs.flatten)
 own:Rows T blkE jb bs rs ids
 nd:(hs++ob::ids).Nodup
 lt : ∀ o∈hs++ob::ids,S.nx≤o
theorem EInv.all_lt {S H:Store} {hs:List Nat} {ob:Nat} {bs:List Ss.Block} {T:Store} {rs:List (List V)} {ids:List Nat} (h:EInv S H hs ob bs T rs ids) (hw:T.Wf) : ∀ o∈hs++ob::ids,o<T.nx:=fun o ho=>by
 refine some_lt hw ?_;rcases List.mem_append.1 ho with ho | ho
 ·rw [h.hd o ho]; exact h.al o ho
 ·rcases List.mem_cons.1 ho with rfl | ho
  ·rw [h.cb]; rfl
  ·exact h.own.owl.alive o ho
theorem EInv.at {S H:Store} {hs:List Nat} {ob:Nat} {bs:List Ss.Block} {T:Store} {rs:List (List V)} {ids:List Nat} (h:EInv S H hs ob bs T rs ids) (hw:T.Wf) {i:Nat} (hi:i<bs.length) :
  ∃ (oc oe:Nat),rs.flatten[i*6+1]? = some (.slice oc 0 bs[i].code.length)∧rs.flatten[i*6+4]? = some (.slice oe 0 bs[i].term.to.length)∧T.get oc=some (4,je jg bs[i].code)∧T.get oe=some (2,je jf bs[i].term.to)∧(hs++ob::[oc,oe]).Nodup ∧
   (∀ (T':Store) (oc':Nat) (code':List Ss.Ins),T.nx≤oc'→T.nx≤T'.nx→(∀ o,o<T.nx→o≠ob→T'.get o=T.get o)→T'.get ob=some (6,rs.flatten.set (i*6+1) (.slice oc' 0 code'.length))→T'.get oc'=some (4,je jg code') → ∃ rs' ids',rs'.flatten=rs.flatten.set (i*6+1) (.slice oc' 0 code'.length)∧EInv S H hs ob (bs.set i ⟨bs[i].params,code',bs[i].term⟩) T' rs' ids') ∧
   (∀ (T':Store) (l:List Int),T.nx≤T'.nx→(∀ o,o<T.nx→o≠ob→T'.get o=T.get o)→T'.get ob=some (6,rs.flatten.set (i*6) (vl vint l)) → ∃ rs' ids',rs'.flatten=rs.flatten.set (i*6) (vl vint l)∧EInv S H hs ob (bs.set i ⟨l,bs[i].code,bs[i].term⟩) T' rs' ids') ∧
   (∀ (T':Store) (to':List Ss.Edge),to'.length=bs[i].term.to.length→T.nx≤T'.nx→(∀ o,o<T.nx→o≠oe→T'.get o=T.get o)→T'.get oe=some (2,je jf to')→EInv S H hs ob (bs.set i ⟨bs[i].params,bs[i].code,⟨bs[i].term.kind,bs[i].term.arg,to',bs[i].term.args⟩⟩) T' rs ids):=by
 have hlt:=h.all_lt hw;obtain ⟨old,hd,al,cb,own,nd,lt⟩:=h;obtain ⟨r1,r,r2,i1,ii,i2,rfl,hl,rfl,hb,hput⟩:=own.at (List.getElem?_eq_getElem hi);have hr6:=own.len.2;obtain ⟨oc,oe,rfl,rfl,hoc,hoe⟩:=jbM hb;have h6 : ∀ s∈r1,s.length=6:=fun s hs=>hr6 s (by simp [hs])
 have sub:List.Sublist [oc,oe] (i1++([oc,oe]++i2)):=(List.sublist_append_left _ _).trans (List.sublist_append_right _ _);have hnd3:(hs++ob::[oc,oe]).Nodup:=List.Sublist.nodup ((List.Sublist.refl hs).append (sub.cons_cons ob)) nd;have gen : ∀ (T':Store) (r':List V) (b':Ss.Block) (oc' oe':Nat),T.nx≤T'.nx→(∀ o,o<T.nx→o≠ob→o≠oc→o≠oe→T'.get o=T.get o)→T'.get ob=some (6,(r1++r'::r2).flatten)→OwL T' blkE r' (jb b').cells [oc',oe']→(oc'=oc∨T.nx≤oc')→oe'=oe→EInv S H hs ob (bs.set i b') T' (r1++r'::r2) (i1++([oc',oe']++i2)):=by
  intro T' r' b' oc' oe' hnx hk hcb how ho1 ho2;subst ho2;have cnt : ∀ o,(hs++ob::(i1++([oc,oe']++i2))).count o≤1:=fun o=>List.nodup_iff_count.1 nd o
  simp only [List.count_append,List.count_cons,List.count_nil] at cnt;have pos : ∀ {o:Nat} {l:List Nat},o∈l→1≤l.count o:=fun h=>List.count_pos_iff.2 h
  have nob : ∀ o,o∈hs∨o∈i1∨o∈i2→o≠ob∧o≠oc∧o≠oe':=by
   intro o ho;have c:=cnt o;refine ⟨?_, ?_, ?_⟩ <;>
   ·rintro rfl;simp only [beq_self_eq_true,if_true] at c;rcases ho with ho | ho | ho<;>(have:=pos ho; omega)
  have keep : ∀ o,o∈hs∨o∈i1∨o∈i2→T'.get o=T.get o:=fun o ho=>by
   obtain ⟨a1,a2,a3⟩:=nob o ho;refine hk o (hlt o ?_) a1 a2 a3;rcases ho with ho | ho | ho<;>simp [ho]
  refine ⟨⟨Nat.le_trans old.1 hnx,fun o ho => ?_⟩,fun o ho=>(keep o (.inl ho)).trans (hd o ho),al,hcb,hput T' r' b' [oc',oe'] (fun o ho=>keep o ?_) how, ?_,fun o ho => ?_⟩
  ·have l1:=lt ob (by simp);have l2:=lt oc (by simp);have l3:=lt oe' (by simp);rw [hk o (Nat.lt_of_lt_of_le ho old.1) (by omega) (by omega) (by omega)];exact old.2 o ho
  ·rcases List.mem_append.1 ho with ho | ho
   ·exact .inr (.inl ho)
   ·exact .inr (.inr ho)
  ·refine List.nodup_iff_count.2 fun o => ?_
   simp only [List.count_append,List.count_cons,List.count_nil];have c:=cnt o;rcases ho1 with rfl | hge
   ·exact c
   ·by_cases e:oc'=o
    ·subst e;have z1:hs.count oc'=0:=List.count_eq_zero.2 fun h=>by have:=hlt oc' (by simp [h]); omega
     have z2:i1.count oc'=0:=List.count_eq_zero.2 fun h=>by have:=hlt oc' (by simp [h]); omega
     have z3:i2.count oc'=0:=List.count_eq_zero.2 fun h=>by have:=hlt oc' (by simp [h]); omega
     have z4:(ob==oc')=false:=by have:=hlt ob (by simp); simp only [beq_eq_false_iff_ne]; omega
     have z5:(oe'==oc')=false:=by have:=hlt oe' (by simp); simp only [beq_eq_false_iff_ne]; omega
     rw [z1,z2,z3,z4,z5]; simp
    ·have:(oc'==o)=false:=by simpa using e
     rw [this];simp only [Bool.false_eq_true,if_false];omega
  ·simp only [List.mem_append,List.mem_cons,List.not_mem_nil,or_false] at ho;rcases ho with ho | ho | ho | (ho | ho) | ho
   ·exact lt o (by simp [ho])
   ·exact lt o (by simp [ho])
   ·exact lt o (by simp [ho])
   ·rcases ho1 with h | h
    ·exact lt o (by simp [ho,h])
    ·have:=old.1; omega
   ·exact lt o (by simp [ho])
   ·exact lt o (by simp [ho])
 have ne1:ob≠oc∧ob≠oe∧oc≠oe:=by
  have h2:=(List.nodup_append.1 hnd3).2.1;simp only [List.nodup_cons,List.mem_cons,List.not_mem_nil,or_false,not_or] at h2;exact ⟨h2.1.1,h2.1.2,h2.2.1⟩
 have lc:=jy hw hoc;have le:=jy hw hoe;refine ⟨oc,oe,Jm h6 hl (q:=1) rfl,Jm h6 hl (q:=4) rfl,hoc,hoe,hnd3, ?_, ?_, ?_⟩
 ·intro T' oc' code' hge hnx hk hcb hgc;have hfs:=JY (m:=6) (r:=[vl vint bs[i].params, .slice oc 0 bs[i].code.length,vint bs[i].term.kind,vint bs[i].term.arg, .slice oe 0 bs[i].term.to.length,vl vint bs[i].term.args]) (r2:=r2) (q:=1) (w := .slice oc' 0 code'.length) h6 hl (by simp);rw [hfs] at hcb;refine ⟨_,_,hfs.symm,gen T' _ ⟨bs[i].params,code',bs[i].term⟩ oc' oe hnx (fun o h1 h2 _ _=>hk o h1 h2) hcb ?_ (.inr hge) rfl⟩;exact Yb (b:=⟨bs[i].params,code',bs[i].term⟩) hgc ((hk oe le (Ne.symm ne1.2.1)).trans hoe)
 ·intro T' l hnx hk hcb;have hfs:=JY (m:=6) (r:=[vl vint bs[i].params, .slice oc 0 bs[i].code.length,vint bs[i].term.kind,vint bs[i].term.arg, .slice oe 0 bs[i].term.to.length,vl vint bs[i].term.args]) (r2:=r2) (q:=0) (w:=vl vint l) h6 hl (by simp);rw [show i*6+0=i*6 from rfl] at hfs;rw [hfs] at hcb;refine ⟨_,_,hfs.symm,gen T' _ ⟨l,bs[i].code,bs[i].term⟩ oc oe hnx (fun o h1 h2 _ _=>hk o h1 h2) hcb ?_ (.inl rfl) rfl⟩;exact Yb (b:=⟨l,bs[i].code,bs[i].term⟩) ((hk oc lc (Ne.symm ne1.1)).trans hoc) ((hk oe le (Ne.symm ne1.2.1)).trans hoe)
 ·intro T' to' hlen hnx hk hge;have hb':=Yb (T:=T') (b:=⟨bs[i].params,bs[i].code,⟨bs[i].term.kind,bs[i].term.arg,to',bs[i].term.args⟩⟩) ((hk oc lc ne1.2.2).trans hoc) hge;simp only [hlen] at hb';exact gen T' _ ⟨bs[i].params,bs[i].code,⟨bs[i].term.kind,bs[i].term.arg,to',bs[i].term.args⟩⟩ oc oe hnx (fun o h1 _ _ h4=>hk o h1 h4) ((hk ob (hlt ob (by simp)) ne1.2.1).trans cb) hb' (.inl rfl) rfl
end Go.Vw
namespace Ss
def marks (need:List Bool) (l:List Int):List Bool:=l.foldl (fun o v=>o.set v.toNat true) need
def rIns (o:List Bool) (x:Ins):List Bool:=if pure x.op then (if on o (x.outs.getD 0 0) then marks o x.args else o) else marks (marks o x.outs) x.args
def rPar (o:List Bool) (q:Int × Int):List Bool:=if on o q.1 then o.set q.2.toNat true else o
def rEdge (bs:List Block) (o:List Bool) (e:Edge):List Bool:=((bs.getD e.to.toNat default).params.zip e.args).foldl rPar o
def rTerm (o:List Bool) (t:Term):List Bool:=if branches t then (marks o t.args).set t.arg.toNat true else marks o t.args
def rBlock (bs:List Block) (o:List Bool) (b:Block):List Bool:=b.term.to.foldl (rEdge bs) (rTerm (b.code.foldl rIns o) b.term)
def rRound (f:Fn) (o:List Bool):List Bool:=f.blocks.foldl (rBlock f.blocks) o
def rTurns (f:Fn):Nat→List Bool→List Bool
 | 0,o=>o
 | k+1,o=>if rRound f o=o then o else rTurns f k (rRound f o)
def Inc (a b:List Bool):Prop:=a.length=b.length ∧ ∀ i:Nat,a[i]? = some true→b[i]? = some true
theorem Inc.refl (a:List Bool):Inc a a:=⟨rfl,fun _ h=>h⟩
theorem Inc.trans {a b c:List Bool} (h:Inc a b) (k:Inc b c):Inc a c:=⟨h.1.trans k.1,fun i hi=>k.2 i (h.2 i hi)⟩
def rootsB (b:Block):List Int:=(b.code.flatMap fun x=>if pure x.op then [] else x.args++x.outs)++(b.term.args++if branches b.term then [b.term.arg] else [])
def roots (f:Fn):List Int:=(f.blocks.getD 0 default).params++f.blocks.flatMap rootsB
end Ss
namespace Go.Vw
open Go.Proofs Go.RowKit
def zE:Store:=⟨fun _=>none,0⟩
end Go.Vw
namespace Ss
theorem total_one {e:Env} {op n out:Int} (h:total op=true) : ∃ t,(form e op n out).outs=[t]:=by
 have h1:op≠258:=fun e=>by subst e; revert h; decide
 have h2:op≠16:=fun e=>by subst e; revert h; decide
 have h3:op≠35:=fun e=>by subst e; revert h; decide
 have h4:op≠36:=fun e=>by subst e; revert h; decide
 have h5:op≠256:=fun e=>by subst e; revert h; decide
 have h6:op≠27:=fun e=>by subst e; revert h; decide
 have e0:form e op n out=formNum e op:=by simp [form,h1,h2,h3,h4,h5,h6]
 rw [e0];unfold total at h;unfold formNum numSig
 cases hf:find op with
 | none=>rw [hf] at h; simp at h
 | some g=>exact ⟨_,rfl⟩
theorem pure_one {e:Env} {op n out:Int} (h:pure op=true) : ∃ t,(form e op n out).outs=[t]:=by
 simp only [pure,Bool.or_eq_true,decide_eq_true_eq] at h;rcases h with (rfl | rfl) | h
 ·by_cases ho:out=127<;>simp [form,ho]
 ·simp [form]
 ·exact total_one h
theorem jcD {ts:List Int} {ds:List Def} {near:List Int} {block pos:Int} {l types:List Int} (h:asks ts ds near block pos l types=true) {v:Int} (hv:v∈l):InR ds.length v:=by
 obtain ⟨t,ht⟩:=jaI h v hv;simp only [askOk,Bool.and_eq_true,decide_eq_true_eq] at ht;exact ⟨ht.1.1.1.1,ht.1.1.1.2⟩
theorem check_dok {e:Env} {f:Fn} (h:check e f=true):DOk f:=by
 obtain ⟨hh,ds,hds,hsh,hB⟩:=check_spec h;obtain ⟨hlen,hin⟩:=defs_in hds;obtain ⟨hnd,hmade,hat⟩:=Jc hds;have hpar:=qh hds;have hr:Go.Vw.G.right (succs f.blocks)=true:=by
  simp only [shapeOk,Bool.and_eq_true] at hsh;exact hsh.1.1.1.1
 have hto:=right_to hr;have hblk : ∀ b∈f.blocks, ∃ j:Nat,f.blocks[j]? = some b∧checkCode e f ds (Go.Vw.G.nearI (succs f.blocks)) (j:Int) 0 b.code=true∧termOk f ds (Go.Vw.G.nearI (succs f.blocks)) (j:Int) b=true:=fun b hb=>by
  obtain ⟨j,hj⟩:=List.mem_iff_getElem?.1 hb;have:=qA hB hj;rw [Nat.zero_add] at this;exact ⟨j,hj,this⟩
 have hins : ∀ b∈f.blocks, ∀ x∈b.code, ∃ j k:Nat,f.blocks[j]? = some b∧b.code[k]? = some x∧insOk e f ds (Go.Vw.G.nearI (succs f.blocks)) (j:Int) (k:Int) x=true:=fun b hb x hx=>by
  obtain ⟨j,hj,hc,_⟩:=hblk b hb;obtain ⟨k,hk⟩:=List.mem_iff_getElem?.1 hx;have:=zo hc hk;rw [Nat.zero_add] at this;exact ⟨j,k,hj,hk,this⟩
 have hterm : ∀ b∈f.blocks, ∃ (j:Int) (le mo:Nat) (rs:List Int),termTail f ds (Go.Vw.G.nearI (succs f.blocks)) j b.code.length b.term le mo rs=true:=fun b hb=>by
  obtain ⟨j,hj,_,ht⟩:=hblk b hb;unfold termOk at ht;split at ht
  ·exact ⟨_,_,_,_,ht⟩
  ·cases ht
 have hone : ∀ b∈f.blocks, ∀ x∈b.code,pure x.op=true → ∃ o,x.outs=[o]:=fun b hb x hx hp=>by
  obtain ⟨j,k,_,_,hi⟩:=hins b hb x hx;simp only [insOk,Bool.and_eq_true,decide_eq_true_eq] at hi;obtain ⟨t,ht⟩:=pure_one (e:=e) (n:=x.n) (out:=insOut f.types x) hp;have h1:=hi.1.2;rw [ht] at h1;have h2:=congrArg List.length h1;simp only [typesOf,List.length_map,List.length_singleton] at h2;exact List.length_eq_one_iff.1 h2
 refine ⟨fun hb => ?_,fun b hb x hx v hv=>(hin b hb).2 x hx v hv,hone,fun b hb x hx v hv => ?_,fun b hb v hv=>(hin b hb).1 v hv,fun b hb v hv => ?_,fun b hb hk => ?_,fun b hb x hx v hv => ?_,fun b hb x hx => ?_,fun b hb c hc x hx y hy hp hq he => ?_,fun b hb c hc p hp y hy hm => ?_⟩
 ·simp only [shapeOk,Bool.and_eq_true] at hsh;have:=hsh.2;rw [hb] at this
  cases this
 ·obtain ⟨j,k,_,_,hi⟩:=hins b hb x hx;have:=jcD (insOk_asks hi) hv
  rwa [hlen] at this
 ·obtain ⟨j,le,mo,rs,ht⟩:=hterm b hb;simp only [termTail,Bool.and_eq_true] at ht;have:=jcD ht.1.2 hv
  rwa [hlen] at this
 ·obtain ⟨j,le,mo,rs,ht⟩:=hterm b hb;simp only [termTail,Bool.and_eq_true] at ht;have h1:=ht.1.1.1.1;rw [if_pos hk] at h1;have:=jcD h1 (v:=b.term.arg) (by simp)
  rwa [hlen] at this
 ·obtain ⟨j,le,mo,rs,ht⟩:=hterm b hb;simp only [termTail,Bool.and_eq_true,List.all_eq_true] at ht;have h1:=ht.2 x hx;simp only [edgeOk,Bool.and_eq_true] at h1;have:=jcD h1.2 hv
  rwa [hlen] at this
 ·obtain ⟨j,le,mo,rs,ht⟩:=hterm b hb;simp only [termTail,Bool.and_eq_true,List.all_eq_true] at ht;have h1:=ht.2 x hx;simp only [edgeOk,Bool.and_eq_true] at h1;have h2:=eqF_len h1.2;simp only [typesOf,List.length_map] at h2;exact ⟨(hto b hb x hx).1,(hto b hb x hx).2,h2⟩
 ·obtain ⟨o,ho⟩:=hone b hb x hx hp;obtain ⟨j,k,hj,hk,_⟩:=hins b hb x hx;obtain ⟨j',k',hj',hk',_⟩:=hins c hc y hy;have a1:=hat j b hj k x hk o (by simp [ho]);have a2:=hat j' c hj' k' y hk' o (by simp [←he,ho]);rw [a1] at a2;simp only [Def.mk.injEq,true_and] at a2;have e1:j=j':=by omega
  have e2:k=k':=by omega
  subst e1;subst e2;rw [hj] at hj'
  cases hj'
  rw [hk] at hk'
  cases hk'
  rfl
 ·obtain ⟨j,hj⟩:=List.mem_iff_getElem?.1 hb;obtain ⟨j',k',hj',hk',_⟩:=hins c hc y hy;have a1:=hpar j b hj p hp;have a2:=hat j' c hj' k' y hk' p hm;rw [a1] at a2;simp only [Def.mk.injEq,true_and] at a2;omega
def dNeed (f:Fn):List Bool:=dfs (askTab f) (f.types.length+1) (List.replicate f.types.length false) (roots f)
def dKeep (need:List Bool) (x:Ins):Bool := !pure x.op||on need (x.outs.getD 0 0)
def dEdge (need:List Bool) (bs:List Block) (e:Edge):Edge:=⟨e.to,(((bs.getD e.to.toNat default).params.zip e.args).filter fun q=>on need q.1).map Prod.snd⟩
def dBlock (need:List Bool) (bs:List Block) (b:Block):Block:=⟨b.params.filter (on need),b.code.filter (dKeep need),⟨b.term.kind,b.term.arg,b.term.to.map (dEdge need bs),b.term.args⟩⟩
def dceF (f:Fn):Fn:=⟨f.sig,f.types,f.blocks.map (dBlock (dNeed f) f.blocks)⟩
def dceOut (e:Env) (f:Fn):Fn × Int:=if check e f then (dceF f,0) else (⟨⟨[],[]⟩,[],[]⟩,6)
end Ss
namespace Go.Vw
open Go.Proofs Go.RowKit
theorem some_lt1 {T:Store} (hw:T.Wf) {o:Nat} (h:(T.get o).isSome=true):o<T.nx:=by
 cases hg:T.get o with
 | none=>rw [hg] at h; cases h
 | some c=>exact jy hw hg
structure TInv (S:Store) (pn on pa oa M:Nat) (need:List Bool) (t:List (List Int)) (T:Store):Prop where
 old:Agree S T
 gn:T.get pn=some (1,[.slice on 0 need.length])
 go:T.get on=some (1,need.map V.bool)
 ga:T.get pa=some (1,[.slice oa 0 need.length])
 tab:Tab T M oa t
 len:t.length=need.length
 ls:S.nx≤oa∧oa<M∧pn<M∧on<M∧pa<M∧pn≠oa∧on≠oa∧pa≠oa
section
variable {S:Store} {pn on pa oa M:Nat} {need:List Bool} {t:List (List Int)} {T:Store}
theorem TInv.mono (h:TInv S pn on pa oa M need t T) (hw:T.Wf) {T':Store} (hnx:T.nx≤T'.nx) (hk : ∀ o,o<T.nx→T'.get o=T.get o):TInv S pn on pa oa M need t T':=by
 obtain ⟨old,gn,go,ga,tab,len,ls⟩:=h;have hoa:oa<T.nx:=by obtain ⟨rs,ids,g,_⟩:=tab; exact jy hw g
 exact ⟨⟨Nat.le_trans old.1 hnx,fun o ho=>(hk o (Nat.lt_of_lt_of_le ho old.1)).trans (old.2 o ho)⟩,(hk pn (jy hw gn)).trans gn,(hk on (jy hw go)).trans go,(hk pa (jy hw ga)).trans ga,tab.mono (hk oa hoa) (fun o _ hs=>hk o (some_lt1 hw hs)),len,ls⟩
theorem TInv.at (h:TInv S pn on pa oa M need t T) (hw:T.Wf) {v:Nat} (hv:v<t.length) : ∃ (cells:List V) (o:Nat),T.get oa=some (1,cells)∧cells.length=t.length∧cells[v]? = some (.slice o 0 t[v].length)∧T.get o=some (1,t[v].map vint)∧o≠oa∧o≠pa ∧
  ∀ (T':Store) (o':Nat) (l':List Int),T.nx≤o'→T.nx≤T'.nx→(∀ x,x<T.nx→x≠oa→x≠o→T'.get x=T.get x)→T'.get o'=some (1,l'.map vint)→T'.get oa=some (1,cells.set v (.slice o' 0 l'.length))→TInv S pn on pa oa M need (t.set v l') T':=by
 obtain ⟨old,gn,go,ga,tab,len,l1,l2,l3,l4,l5,l6,l7,l8⟩:=h;obtain ⟨cells,o,g1,g2,g3,g4,g5,g6⟩:=tab.at hv;refine ⟨cells,o,g1,g2,g3,g4,by omega,by omega,fun T' o' l' h1 h2 h3 h4 h5 => ?_⟩;have h0:=old.1;refine ⟨⟨by omega,fun x hx => ?_⟩, ?_, ?_, ?_,g6 T' o' l' ?_ (.inl (hw.gone _ h1)) (fun x hx hne hs=>h3 x (some_lt1 hw hs) (by omega) hne) h4 h5,by rw [List.length_set]; exact len,l1,l2,l3,l4,l5,l6,l7,l8⟩
 ·rw [h3 x (by omega) (by omega) (by omega)]; exact old.2 x hx
 ·rw [h3 pn (jy hw gn) l6 (by omega)]; exact gn
 ·rw [h3 on (jy hw go) l7 (by omega)]; exact go
 ·rw [h3 pa (jy hw ga) l8 (by omega)]; exact ga
 ·have:=jy hw g4; omega
end
def z1 (o:Nat) (c:Nat × List V):Store:=⟨fun q=>if q=o then some c else none,0⟩
end Go.Vw
namespace Ss
def fl (t:Bool) (a b:List Bool):Bool:=t||decide (b≠a)
end Ss
namespace Go.Vw
open Go.Proofs Go.RowKit
abbrev mkC (x0 x1 x2 x3:V) (on N:Nat) (t:Bool):Nat × List V:=(6,[x0,x1,x2,x3, .slice on 0 N, .bool t])
end Go.Vw
namespace Ss
def rtotal (op:Int):Bool := !decide (rof op=0) && !rin op 109 112 && !rin op 127 130
theorem rtotal_small : ∀ n:Nat,n<256→rtotal (n:Int)=total (n:Int):=by decide +kernel
theorem rtotal_eq (op:Int):rtotal op=total op:=by
 by_cases h:0≤op∧op<256
 ·obtain ⟨n,rfl⟩:=Int.eq_ofNat_of_zero_le h.1;exact rtotal_small n (by have:=h.2; omega)
 ·have h1:rof op=0:=by
   unfold rof;rw [if_neg (by simp only [rin,Bool.and_eq_true,decide_eq_true_eq]; omega),if_neg (by simp only [rin,Bool.and_eq_true,decide_eq_true_eq]; omega)]
  have h2:find op=none:=by
   cases hf:find op with
   | none=>rfl
   | some g =>
    exfalso
    obtain ⟨hm,hh⟩:=YF hf;have ha : ∀ g∈groups,0≤g.first∧g.first+g.many≤256:=by decide +kernel
    have:=ha g hm;simp only [Grp.has,Bool.and_eq_true,decide_eq_true_eq] at hh;omega
  simp [rtotal,h1,total,h2]
end Ss
namespace Go.Vw
open Go.Proofs Go.RowKit
attribute [-simp] List.map_set
theorem RTotal_v (op:Int):VPure Tryz.prog 96 [vint op] (.bool (Ss.total op)):=by
 intro S;rw [←Ss.rtotal_eq op];have c1:=Of_v op;have c2:VPure Tryz.prog 126 [vint op, .int .i64 109, .int .i64 112] (.bool (Ss.rin op 109 112)):=in_v op 109 112;have c3:VPure Tryz.prog 126 [vint op, .int .i64 127, .int .i64 130] (.bool (Ss.rin op 127 130)):=in_v op 127 130;have hX:Ss.rtotal op=(!decide (Ss.rof op=0) && !Ss.rin op 109 112 && !Ss.rin op 127 130):=rfl;rw [hX];generalize Ss.rof op=t at *
 generalize Ss.rin op 109 112=x at *
 generalize Ss.rin op 127 130=y at *
 refine QB (c:=jd Tryz.f96) Tryz.func96 Tryz.ntmps96 fun hwf=>?_
 refine QT ?_;refine QY ?_;refine QT ?_;refine QP ?_;refine QL (c1) ?_
 by_cases ht:t=0
 ·refine QM (by conv=>lhs;simp[QV,ht]) ?_;refine QN ?_
  repeat first|refine QG ?_|refine QY ?_ (r:=by conv=>lhs;simp[QV,ht])
  exact ja hwf (by simp [ht]) rfl
 ·refine QM (by conv=>lhs;simp[QV,ht]) ?_;refine QL (c2) ?_
  cases x with
  | true =>
   refine QM (by conv=>lhs;simp[QV,ht]) ?_;refine QN ?_
   repeat first|refine QG ?_|refine QY ?_
   exact ja hwf (by simp [ht]) rfl
  | false =>
   refine QM (by conv=>lhs;simp[QV,ht]) ?_;refine QL (c3) ?_;refine QW ?_
   repeat first|refine QG ?_|refine QY ?_
   exact ja hwf (by simp [ht]) rfl
theorem RPure_v (op:Int):VPure Tryz.prog 61 [vint op] (.bool (Ss.pure op)):=by
 intro S;have c1:=RTotal_v op;have hX:Ss.pure op=(decide (op=256)||decide (op=27)||Ss.total op):=rfl;rw [hX];generalize Ss.total op=t at *
 refine QB (c:=jd Tryz.f61) Tryz.func61 Tryz.ntmps61 fun hwf=>?_
 refine QT ?_;refine QY ?_
 by_cases h1:op=256
 ·repeat first|refine QG ?_|refine QY ?_ (r:=by conv=>lhs;simp[QV,h1])
  exact ja hwf (by simp [h1]) rfl
 by_cases h2:op=27
 ·repeat first|refine QG ?_|refine QY ?_ (r:=by conv=>lhs;simp[QV,h1,h2])
  exact ja hwf (by simp [h2]) rfl
 refine QT ?_;refine QP ?_ (r:=by conv=>lhs;simp[QV,h1,h2]);refine QL (c1) ?_;refine QW ?_
 repeat first|refine QG ?_|refine QY ?_
 exact ja hwf (by simp [h1,h2]) rfl
end Go.Vw
namespace Go.Vw
open Go.Proofs Go.RowKit
end Go.Vw
namespace Ss
structure ThinB (b c:Block):Prop where
 params:c.params=b.params
 term:c.term=b.term
 sub:c.code.Sublist b.code
 keep:c.code.filter (fun x=>decide (x.op≠257))=b.code.filter fun x=>decide (x.op≠257)
theorem ThinB.refl (b:Block):ThinB b b:=⟨rfl,rfl,List.Sublist.refl _,rfl⟩
theorem ThinB.trans {a b c:Block} (h:ThinB a b) (k:ThinB b c):ThinB a c:=⟨k.params.trans h.params,k.term.trans h.term,k.sub.trans h.sub,k.keep.trans h.keep⟩
def ThinL (l m:List Block):Prop:=m.length=l.length ∧ ∀ (i:Nat) (b c:Block),l[i]? = some b→m[i]? = some c→ThinB b c
theorem ThinL.refl (l:List Block):ThinL l l:=⟨rfl,fun i b c h1 h2=>by rw [h1] at h2; cases h2; exact .refl b⟩
theorem ThinL.trans {l m n:List Block} (h:ThinL l m) (k:ThinL m n):ThinL l n:=by
 refine ⟨k.1.trans h.1,fun i b c h1 h2 => ?_⟩;have hi:i<m.length:=by rw [h.1]; exact (List.getElem?_eq_some_iff.1 h1).1
 exact (h.2 i b m[i] h1 (List.getElem?_eq_getElem hi)).trans (k.2 i m[i] c (List.getElem?_eq_getElem hi) h2)
theorem ThinL.fits {l m:List Block} (h:ThinL l m) (hl : ∀ b∈l,b.Fits) : ∀ c∈m,c.Fits:=by
 intro c hc;obtain ⟨i,hi⟩:=List.mem_iff_getElem?.1 hc;have hil:i<l.length:=by rw [←h.1]; exact (List.getElem?_eq_some_iff.1 hi).1
 obtain ⟨h1,h2,h3,h4⟩:=h.2 i l[i] c (List.getElem?_eq_getElem hil) hi;obtain ⟨k1,⟨k2,k3⟩,k4⟩:=hl _ (List.getElem_mem hil);exact ⟨by rw [h1]; exact k1,⟨Nat.le_trans h3.length_le k2,fun x hx=>k3 x (h3.subset hx)⟩,by rw [h2]; exact k4⟩
theorem emptyFn_fits:emptyFn.Fits:=by
 simp [emptyFn,Fn.Fits,Sig.Fits,Ints]
theorem ThinL.count : ∀ {l m:List Block},ThinL l m→count m≤count l
 | [],m,h=>by
  have:m=[]:=List.eq_nil_of_length_eq_zero h.1;subst this; exact Nat.le_refl _
 | b::l,[],h=>by simp [Ss.count]
 | b::l,c::m,h=>by
  have h1:=(h.2 0 b c rfl rfl).sub.length_le;have h2:ThinL l m:=⟨by have:=h.1; simpa using this,fun i x y hx hy=>h.2 (i+1) x y (by simpa using hx) (by simpa using hy)⟩
  have:=ThinL.count h2;simp only [Ss.count,List.map_cons,List.sum_cons] at this ⊢;omega
inductive Drop:List Ins→List Ins→Prop
 | nil:Drop [] []
 | keep (x:Ins) {l m:List Ins} (h:Drop l m):Drop (x::l) (x::m)
 | drop (x:Ins) {l m:List Ins} (o:x.op=257) (h:Drop l m):Drop (x::l) m
theorem Drop.refl : ∀ l:List Ins,Drop l l
 | [] => .nil
 | x::l => .keep x (Drop.refl l)
theorem Drop.trans {a b c:List Ins} (h:Drop a b):Drop b c→Drop a c:=by
 induction h generalizing c with
 | nil=>exact fun k=>k
 | keep x h ih =>
  intro k
  cases k with
  | keep _ k=>exact .keep x (ih k)
  | drop _ o k=>exact .drop x o (ih k)
 | drop x o h ih=>exact fun k => .drop x o (ih k)
theorem Drop.pos {l m:List Ins} (h:Drop l m) : ∃ φ:Nat→Nat,(∀ k k',k≤k'→φ k≤φ k')∧(∀ k x,l[k]? = some x→x.op≠257→m[φ k]? = some x ∧ ∀ k',k<k'→φ k<φ k')∧(∀ j y,m[j]? = some y → ∃ k,l[k]? = some y∧φ k=j)∧φ l.length=m.length:=by
 induction h with
 | nil=>exact ⟨fun _=>0,fun _ _ _=>Nat.le_refl _,by simp,by simp,rfl⟩
 | @keep x l m h ih =>
  obtain ⟨φ,h1,h2,h3,h4⟩:=ih;refine ⟨fun k=>match k with | 0=>0 | k+1=>φ k+1,fun k k' hk => ?_,fun k y hk ho => ?_,fun j y hj => ?_,by simp [h4]⟩
  ·cases k with
   | zero=>simp
   | succ k=>cases k' with
    | zero=>omega
    | succ k'=>have:=h1 k k' (by omega); simp only; omega
  ·cases k with
   | zero=>exact ⟨by simpa using hk,fun k' hk'=>by cases k' with | zero=>omega | succ k'=>simp⟩
   | succ k =>
    obtain ⟨g1,g2⟩:=h2 k y (by simpa using hk) ho;exact ⟨by simpa using g1,fun k' hk'=>by cases k' with | zero=>omega | succ k'=>have:=g2 k' (by omega); simp only; omega⟩
  ·cases j with
   | zero=>exact ⟨0,by simpa using hj,rfl⟩
   | succ j =>
    obtain ⟨k,e1,e2⟩:=h3 j y (by simpa using hj);exact ⟨k+1,by simpa using e1,by simp [e2]⟩
 | @drop x l m o h ih =>
  obtain ⟨φ,h1,h2,h3,h4⟩:=ih;refine ⟨fun k=>match k with | 0=>0 | k+1=>φ k,fun k k' hk => ?_,fun k y hk ho => ?_,fun j y hj => ?_,by simp [h4]⟩
  ·cases k with
   | zero=>simp
   | succ k=>cases k' with
    | zero=>omega
    | succ k'=>exact h1 k k' (by omega)
  ·cases k with
   | zero =>
    simp only [List.getElem?_cons_zero,Option.some.injEq] at hk;subst hk; exact absurd o ho
   | succ k =>
    obtain ⟨g1,g2⟩:=h2 k y (by simpa using hk) ho;exact ⟨g1,fun k' hk'=>by cases k' with | zero=>omega | succ k'=>exact g2 k' (by omega)⟩
  ·obtain ⟨k,e1,e2⟩:=h3 j y hj;exact ⟨k+1,by simpa using e1,e2⟩
theorem Drop.outs {l m:List Ins} (h:Drop l m) (ho : ∀ x∈l,x.op=257→x.outs=[]):zS m=zS l:=by
 induction h with
 | nil=>rfl
 | @keep x l m h ih=>simp only [zS,List.flatMap_cons] at ih ⊢; rw [ih fun y hy=>ho y (by simp [hy])]
 | @drop x l m o h ih =>
  simp only [zS,List.flatMap_cons] at ih ⊢;rw [ih fun y hy=>ho y (by simp [hy]),ho x (by simp) o,List.nil_append]
theorem Drop.tick {l m:List Ins} (h:Drop l m):(m.any fun x=>decide (x.op=258))=l.any fun x=>decide (x.op=258):=by
 induction h with
 | nil=>rfl
 | keep x h ih=>simp only [List.any_cons,ih]
 | drop x o h ih=>simp only [List.any_cons,ih,o]; simp
theorem put_mk {block pos:Int} : ∀ {l:List Int} {ds:List Def},(∀ v∈l,0≤v∧v<ds.length)→l.Nodup→(∀ v∈l,(dAt ds v).made=false) → ∃ d,put block pos ds l=some d
 | [],ds,_,_,_=>⟨ds,rfl⟩
 | v::l,ds,h1,h2,h3=>by
  obtain ⟨a1,a2⟩:=h1 v (by simp);obtain ⟨n1,n2⟩:=List.nodup_cons.1 h2;have hm:=h3 v (by simp);have hm':(ds.getD v.toNat default).made=false:=hm;simp only [put];rw [if_neg (by rw [hm']; simp; omega)];refine put_mk (fun w hw=>by rw [List.length_set]; exact h1 w (by simp [hw])) n2 fun w hw => ?_
  have hne:w≠v:=fun e=>n1 (e▸hw)
  rw [jcy a1 a2 (h1 w (by simp [hw])).1,if_neg hne];exact h3 w (by simp [hw])
theorem jbx {i:Int} : ∀ {l:List Ins} {k:Nat} {ds:List Def},(∀ v∈zS l,0≤v∧v<ds.length)→(zS l).Nodup→(∀ v∈zS l,(dAt ds v).made=false) → ∃ d,putCode i k ds l=some d
 | [],k,ds,_,_,_=>⟨ds,rfl⟩
 | x::l,k,ds,h1,h2,h3=>by
  have e:zS (x::l)=x.outs++zS l:=rfl;rw [e] at h1 h2 h3;obtain ⟨n1,n2,n3⟩:=List.nodup_append.1 h2;obtain ⟨d,hd⟩:=put_mk (block:=i) (pos:=k) (fun v hv=>h1 v (by simp [hv])) n1 (fun v hv=>h3 v (by simp [hv]));have hp:=(KN hd).1;obtain ⟨d',hd'⟩:=jbx (i:=i) (k:=k+1) (l:=l) (ds:=d) (fun v hv=>by rw [Ys hd]; exact h1 v (by simp [hv])) n2 (fun v hv=>by
   rw [hp.keep v (h1 v (by simp [hv])).1 (fun hm=>n3 v hm v hv rfl)]; exact h3 v (by simp [hv]))
  exact ⟨d',by rw [putCode,hd]; exact hd'⟩
theorem YY : ∀ {l:List Block} {i:Nat} {ds:List Def},(∀ v∈allL l,0≤v∧v<ds.length)→(allL l).Nodup→(∀ v∈allL l,(dAt ds v).made=false) → ∃ d,putBlocks i ds l=some d
 | [],i,ds,_,_,_=>⟨ds,rfl⟩
 | b::l,i,ds,h1,h2,h3=>by
  have e:allL (b::l)=(b.params++zS b.code)++allL l:=rfl;rw [e] at h1 h2 h3;obtain ⟨n0,n2,n3⟩:=List.nodup_append.1 h2;obtain ⟨n1,n4,n5⟩:=List.nodup_append.1 n0;obtain ⟨d,hd⟩:=put_mk (block:=i) (pos := -1) (fun v hv=>h1 v (by simp [hv])) n1 (fun v hv=>h3 v (by simp [hv]));have hp:=(KN hd).1;obtain ⟨d1,hd1⟩:=jbx (i:=i) (k:=0) (l:=b.code) (ds:=d) (fun v hv=>by rw [Ys hd]; exact h1 v (by simp [hv])) n4 (fun v hv=>by
   rw [hp.keep v (h1 v (by simp [hv])).1 (fun hm=>n5 v hm v hv rfl)]; exact h3 v (by simp [hv]))
  have hp1:=(JB hd1).1;obtain ⟨d2,hd2⟩:=YY (i:=i+1) (l:=l) (ds:=d1) (fun v hv=>by rw [putCode_len' hd1,Ys hd]; exact h1 v (by simp [hv])) n2 (fun v hv=>by
   have h0:=(h1 v (by simp [hv])).1;rw [hp1.keep v h0 (fun hm=>n3 v (by simp [hm]) v hv rfl),hp.keep v h0 (fun hm=>n3 v (by simp [hm]) v hv rfl)]; exact h3 v (by simp [hv]))
  exact ⟨d2,by rw [putBlocks,hd]; simp only [Option.bind_some]; rw [hd1]; exact hd2⟩
theorem Zj {e:Env} {f:Fn} {ds:List Def} {near:List Int} {i:Int} : ∀ {l:List Ins} {k:Nat},(∀ (j:Nat) (x:Ins),l[j]? = some x→insOk e f ds near i ((k+j:Nat):Int) x=true)→checkCode e f ds near i k l=true
 | [],k,_=>rfl
 | x::l,k,h=>by
  have h0:=h 0 x rfl;rw [Nat.add_zero] at h0;simp only [checkCode,Bool.and_eq_true];refine ⟨h0,Zj fun j y hy => ?_⟩;have:=h (j+1) y (by simpa using hy);rw [show k+(j+1)=k+1+j by omega] at this;exact this
def DropL (l m:List Block):Prop:=m.length=l.length ∧ ∀ (i:Nat) (b c:Block),l[i]? = some b→m[i]? = some c→c.params=b.params∧c.term=b.term∧Drop b.code c.code
theorem DropL.refl (l:List Block):DropL l l:=⟨rfl,fun i b c h1 h2=>by rw [h1] at h2; cases h2; exact ⟨rfl,rfl, .refl _⟩⟩
theorem DropL.trans {l m n:List Block} (h:DropL l m) (k:DropL m n):DropL l n:=by
 refine ⟨k.1.trans h.1,fun i b c h1 h2 => ?_⟩;have hi:i<m.length:=by rw [h.1]; exact (List.getElem?_eq_some_iff.1 h1).1
 obtain ⟨a1,a2,a3⟩:=h.2 i b m[i] h1 (List.getElem?_eq_getElem hi);obtain ⟨b1,b2,b3⟩:=k.2 i m[i] c (List.getElem?_eq_getElem hi) h2;exact ⟨b1.trans a1,b2.trans a2,a3.trans b3⟩
theorem DropL.map {α:Type} {l m:List Block} (h:DropL l m) (F:Block→α) (hF : ∀ b c:Block,b∈l→c.params=b.params→c.term=b.term→Drop b.code c.code→F c=F b):m.map F=l.map F:=by
 apply List.ext_getElem?
 intro i;rw [List.getElem?_map,List.getElem?_map]
 by_cases hi:i<l.length
 ·have hi2:i<m.length:=by rw [h.1]; exact hi
  rw [List.getElem?_eq_getElem hi,List.getElem?_eq_getElem hi2];obtain ⟨h1,h2,h3⟩:=h.2 i l[i] m[i] (List.getElem?_eq_getElem hi) (List.getElem?_eq_getElem hi2);simp only [Option.map_some,Option.some.injEq];exact hF _ _ (List.getElem_mem hi) h1 h2 h3
 ·rw [List.getElem?_eq_none (by rw [h.1]; omega),List.getElem?_eq_none (by omega)]
end Ss
namespace Ss
open Go.Vw.G
def phi {α:Type} (p:α→Bool) (l:List α) (k:Nat):Nat:=((l.take k).filter p).length
theorem pure_tick:pure 258=false:=by decide
end Ss
namespace Ss
end Ss
namespace Go.Vw
open Go.Proofs Go.RowKit
def outOf (q:Int→List Int→Bool) (S:Store):List V→Bool
 | [.int _ op,_,_, .slice ou _ _]=>q op (((S.get ou).getD (0,[])).2.map vToInt)
 | _=>false
section
variable {S H:Store} {hs:List Nat} {ob:Nat} {bs:List Ss.Block} {T:Store} {rs:List (List V)} {ids:List Nat} {i:Nat}
theorem nodup_ne {hs:List Nat} {ob op oc oe:Nat} {ic ie:List Nat} (hd:(hs++ob::(op::oc::(ic++oe::ie))).Nodup):(∀ o∈hs,o≠ob∧o≠op∧o≠oc∧o≠oe∧o∉ic∧o∉ie)∧ob≠op∧ob≠oc∧ob≠oe∧ob∉ic∧ob∉ie∧op≠oc∧op≠oe∧op∉ic∧op∉ie∧oc≠oe∧oc∉ic∧oc∉ie∧oe∉ic∧oe∉ie∧(∀ o∈ic,o∉ie)∧ic.Nodup∧ie.Nodup:=by
 obtain ⟨h1,h2,h3⟩:=List.nodup_append.1 hd;simp only [List.nodup_cons,List.mem_cons,List.mem_append,not_or,List.nodup_append] at h2;obtain ⟨⟨a1,a2,a3,a4,a5⟩,⟨b1,b2,b3,b4⟩,⟨c1,c2,c3⟩,d1,⟨e1,e2⟩,d3⟩:=h2;refine ⟨fun o ho=>⟨h3 o ho ob (by simp),h3 o ho op (by simp),h3 o ho oc (by simp),h3 o ho oe (by simp),fun hm=>h3 o ho o (by simp [hm]) rfl,fun hm=>h3 o ho o (by simp [hm]) rfl⟩,a1,a2,a4,a3,a5,b1,b3,b2,b4,c2,c1,c3, ?_,e1, ?_,d1,e2⟩
 ·exact fun hm=>d3 oe hm oe (by simp) rfl
 ·exact fun o ho hm=>d3 o ho o (by simp [hm]) rfl
theorem BInv.pars (h:BInv S H hs ob bs T rs ids) (hw:T.Wf) (hi:i<bs.length) : ∃ op,rs.flatten[i*6]? = some (.slice op 0 bs[i].params.length)∧T.get op=some (1,bs[i].params.map vint)∧ob≠op∧(∀ o∈hs,o≠op) ∧ ∀ l:List Int, ∃ rs' ids',rs'.flatten=rs.flatten.set (i*6) (.slice op 0 l.length) ∧
  BInv S H hs ob (bs.set i ⟨l,bs[i].code,bs[i].term⟩) ((T.upd op (1,l.map vint)).upd ob (6,rs'.flatten)) rs' ids':=by
 obtain ⟨r1,r2,i1,i2,op,oc,oe,rc,ce,ip,ic,ie,rfl,h6,hl,hop,hoc,hrc,hoe,hie,rfl,hnd,hput⟩:=h.at hw hi;obtain ⟨n0,n1,n2,n3,n4,n5,n6,n7,n8,n9,n10,n11,n12,n13,n14,n15,n16,n17⟩:=nodup_ne hnd;refine ⟨op,Jm h6 hl (q:=0) rfl,hop,n1,fun o ho=>(n0 o ho).2.1,fun l => ?_⟩;have hfs:=JY (m:=6) (r:=[V.slice op 0 bs[i].params.length, .slice oc 0 bs[i].code.length,vint bs[i].term.kind,vint bs[i].term.arg, .slice oe 0 bs[i].term.to.length,vl vint bs[i].term.args]) (r2:=r2) (q:=0) (w := .slice op 0 l.length) h6 hl (by simp);refine ⟨_,_,hfs.symm,hput _ _ ⟨l,bs[i].code,bs[i].term⟩ (op::oc::(ic++oe::ie)) (Nat.le_refl _) ?_ zl ?_ (List.nodup_append.1 hnd).2.1.of_cons fun o ho => .inl ho⟩
 ·intro o _ h1 h2;simp only [List.mem_cons,not_or] at h2;rw [ju h1,ju h2.1]
 ·have g : ∀ o,o≠ob→o≠op→((T.upd op (1,l.map vint)).upd ob (6,(r1++List.set [V.slice op 0 bs[i].params.length, .slice oc 0 bs[i].code.length,vint bs[i].term.kind,vint bs[i].term.arg, .slice oe 0 bs[i].term.to.length,vl vint bs[i].term.args] 0 (.slice op 0 l.length)::r2).flatten)).get o=T.get o:=fun o h1 h2=>by rw [ju h1,ju h2]
  refine jcC (b:=⟨l,bs[i].code,bs[i].term⟩) (rs:=rc) (ce:=ce) ?_ ?_ ?_ ?_ ?_
  ·rw [ju (Ne.symm n1),zl]
  ·rw [g oc (Ne.symm n2) (Ne.symm n6)]; exact hoc
  ·exact hrc.mono fun o ho=>g o (fun e=>n4 (e▸ho)) (fun e=>n8 (e▸ho))
  ·rw [g oe (Ne.symm n3) (Ne.symm n7)]; exact hoe
  ·exact hie.mono fun o ho=>g o (fun e=>n5 (e▸ho)) (fun e=>n9 (e▸ho))
theorem BInv.to (h:BInv S H hs ob bs T rs ids) (hw:T.Wf) (hi:i<bs.length) : ∃ (oe:Nat) (ce:List V),rs.flatten[i*6+4]? = some (.slice oe 0 bs[i].term.to.length)∧T.get oe=some (2,ce):=by
 obtain ⟨r1,r2,i1,i2,op,oc,oe,rc,ce,ip,ic,ie,rfl,h6,hl,hop,hoc,hrc,hoe,hie,rfl,hnd,hput⟩:=h.at hw hi;exact ⟨oe,ce,Jm h6 hl (q:=4) rfl,hoe⟩
end
abbrev idxU (p:Int→Bool) (l:List Int) (k:Nat):Int:=(idxG (fun (_:Unit) x=>p x) (fun _ _=>()) () l k).1
section
variable {S:Store} {l:List Int} {oc:Nat} {fid:FuncId} {caps:List V} {p:Int→Bool}
end
end Go.Vw
namespace Ss
def dKeepO (need:List Bool) (op:Int) (outs:List Int):Bool := !pure op||on need (outs.getD 0 0)
end Ss
namespace Go.Vw
open Go.Proofs Go.RowKit
set_option pp.deepTerms true
end Go.Vw
namespace Go.Vw
open Go.Proofs Go.RowKit
set_option pp.deepTerms true
end Go.Vw
namespace Go.Vw
open Go.Proofs Go.RowKit
theorem fn_ghostE {S:Store} {fi fo ts:List Int} {bs:List Ss.Block} {cells:List V} {ot ob n m:Nat} {ids:List Nat} (h:OwL S (reps n blkE) cells (je jb bs) ids) (hb:S.get ob=some (6,cells)) (hn:bs.length=n) (ht:S.get ot=some (1,ts.map vint)) (hm:ts.length=m) (hd:(ot::ob::ids).Nodup) :
  Ghost (.agg [vl vint fi,vl vint fo, .slice ot 0 m, .slice ob 0 n]) S (.agg [vl vint fi,vl vint fo,vl vint ts,vl jb bs]) (S.dels (ot::ob::ids)):=by
 subst hn;subst hm;refine jaD ?_;have hw:OwL S [.c, .c, .s (List.replicate 1 .c), .s blkE] [vl vint fi,vl vint fo, .slice ot 0 ts.length, .slice ob 0 bs.length] [vl vint fi,vl vint fo,vl vint ts,vl jb bs] (ot::ob::ids):=by
  refine .c rfl (.c rfl (OwL.slice (enc:=vint) (fun _=>rfl) (fun _=>rfl) ts (by rw [qu]; exact ht) ?_));have:=OwL.s (S:=S) (o:=ob) (tys:=blkE) (cells:=cells) (ys:=bs.map jb) (i:=ids) (j:=[]) hb (fun y hy=>(by
   obtain ⟨b,_,rfl⟩:=List.mem_map.1 hy;exact ⟨by rw [jz]; rfl,zM b⟩)) (by rw [List.length_map,qN]; exact h) .nil
  rw [List.length_map,List.append_nil] at this;exact this
 exact hw.freeze hd S fun _ _=>rfl
end Go.Vw
namespace Go.Vw
open Go.Proofs Go.RowKit
attribute [-simp] List.map_set
theorem Nan0_v (x:Int):VPure Tryz.prog 116 [vint x] (.bool false):=by
 intro S;refine QB (c:=jd Tryz.f116) Tryz.func116 Tryz.ntmps116 fun hwf=>?_
 repeat first|refine QG ?_|refine QY ?_
 exact ja hwf rfl rfl
theorem Nan1_v (x:Int):VPure Tryz.prog 82 [vint x] (.bool false):=by
 intro S;refine QB (c:=jd Tryz.f82) Tryz.func82 Tryz.ntmps82 fun hwf=>?_
 repeat first|refine QG ?_|refine QY ?_
 exact ja hwf rfl rfl
theorem Less_int_v (x y:Int):VPure Tryz.prog 81 [vint x,vint y] (.bool (decide (x<y))):=by
 intro S;have cn:=Nan0_v x;refine QB (c:=jd Tryz.f81) Tryz.func81 Tryz.ntmps81 fun hwf=>?_
 repeat first|refine QG ?_|refine QY ?_
 refine QT ?_;refine QP ?_;refine jm rfl (cn) ?_
 by_cases h:x<y
 ·refine QM (by conv=>lhs;simp[QV,h]) ?_;refine QN ?_
  repeat first|refine QG ?_|refine QY ?_ (r:=by conv=>lhs;simp[QV,h])
  exact ja hwf (by simp [h]) rfl
 ·refine QM (by conv=>lhs;simp[QV,h]) ?_;refine QN ?_
  repeat first|refine QG ?_|refine QY ?_ (r:=by conv=>lhs;simp[QV,h])
  exact ja hwf (by simp [h]) rfl
theorem Index_v (l:List Int) (x:Int) (hl:l.length<2^63):VPure Tryz.prog 115 [vl vint l,vint x] (vint (qy (fun y=>decide (x=y)) l 0)):=by
 intro S;refine QB (c:=jd Tryz.f115) Tryz.func115 Tryz.ntmps115 fun hwf=>?_
 repeat first|refine QG ?_|refine QY ?_
 refine QT ?_;refine jc [0,1,7,8] rfl (fun c σ S' => ∃ (k:Nat),k≤l.length∧c=l.length-k∧qy (fun y=>decide (x=y)) (l.drop k) k=qy (fun y=>decide (x=y)) l 0∧σ=[(0,vl vint l),(1,vint x),(7,vnat l.length),(8,vnat k)]∧S'=St S [] []) l.length ?_ ?_
 ·exact ⟨0,by omega,rfl,rfl,by simp [Fr.only],rfl⟩
 ·rintro c σ T ⟨k,hk,rfl,hd,rfl,rfl⟩
  by_cases hkt:k<l.length
  ·have hst:qy (fun y=>decide (x=y)) (l.drop k) k=if decide (x=l[k])=true then (k:Int) else qy (fun y=>decide (x=y)) (l.drop (k+1)) (k+1):=by rw [List.drop_eq_getElem_cons hkt,qy]
   have hw:=ji hkt hl
   by_cases hp:x=l[k]
   ·rw [if_pos (by simpa using hp)] at hst
    repeat first|refine QG ?_|refine QY ?_ (r:=by conv=>lhs;simp[QV,hkt,hp])
    exact ja hwf (by rw [←hd,hst]; rfl) rfl
   ·rw [if_neg (by simpa using hp)] at hst
    repeat first|refine QG ?_|refine QY ?_ (r:=by conv=>lhs;simp[QV,hkt,hp])
    show jp _ _ _ _ _ _ _;exact again ⟨Nat.sub_lt_sub_left hkt (Nat.lt_succ_self k),k+1,hkt,rfl,by rw [←hd,hst],by simp [Fr.only,hw],rfl⟩
  ·have e:l.drop k=[]:=by rw [List.drop_eq_nil_iff]; omega
   rw [e] at hd
   repeat first|refine QG ?_|refine QY ?_ (r:=by conv=>lhs;simp[QV,hkt])
   exact ja hwf (by rw [←hd]; rfl) rfl
theorem Contains_v (l:List Int) (x:Int) (hl:l.length<2^63):VPure Tryz.prog 80 [vl vint l,vint x] (.bool (decide (x∈l))):=by
 intro S;have ci:=Index_v l x hl;have he:decide (x∈l)=decide (0≤qy (fun y=>decide (x=y)) l 0):=by
  rw [Jb,Bool.eq_iff_iff];simp
 rw [he];refine QB (c:=jd Tryz.f80) Tryz.func80 Tryz.ntmps80 fun hwf=>?_
 repeat first|refine QG ?_|refine QY ?_
 refine QT ?_;refine QP ?_;refine jm rfl (ci) ?_;refine QW ?_
 repeat first|refine QG ?_|refine QY ?_
 exact ja hwf rfl rfl
def bsI (l:List Int) (x:Int) (i j:Nat):Nat:=if h:i<j then (if l.getD ((i+j) / 2) 0<x then bsI l x ((i+j) / 2+1) j else bsI l x i ((i+j) / 2)) else i
termination_by j-i
theorem BinSearch_v (l:List Int) (x:Int) (hl:l.length<4611686018427387904) (hs:l.Pairwise (· < ·)):VPure Tryz.prog 30 [vl vint l,vint x] (.tuple [vnat (bsI l x 0 l.length), .bool (decide (x∈l))]):=by
 intro S;have hle : ∀ (a b:Nat) (ha:a<l.length) (hb:b<l.length),a<b→l[a]<l[b]:=fun a b ha hb hab=>List.pairwise_iff_getElem.1 hs a b ha hb hab
 refine QB (c:=jd Tryz.f30) Tryz.func30 Tryz.ntmps30 fun hwf=>?_
 repeat first|refine QG ?_|refine QY ?_
 refine QT ?_;refine jc [0,1,6,7,8] rfl (fun c σ S' => ∃ (i j:Nat),i≤j∧j≤l.length∧c=j-i∧bsI l x i j=bsI l x 0 l.length∧(∀ (k:Nat) (hk:k<l.length),k<i→l[k]<x)∧(∀ (k:Nat) (hk:k<l.length),j≤k→x≤l[k])∧σ=[(0,vl vint l),(1,vint x),(6,vnat l.length),(7,vnat i),(8,vnat j)]∧S'=St S [] []) l.length ?_ ?_
 ·exact ⟨0,l.length,by omega,by omega,rfl,rfl,fun k hk h=>by omega,fun k hk h=>by omega,by simp [Fr.only],rfl⟩
 ·rintro c σ T ⟨i,j,hij,hj,rfl,hbs,hlo,hhi,rfl,rfl⟩
  by_cases hlt:i<j
  ·obtain ⟨h,hh⟩ : ∃ h,h=(i+j) / 2:=⟨_,rfl⟩
   have h1:i≤h:=by omega
   have h2:h<j:=by omega
   have h3:h<l.length:=by omega
   have cl:=Less_int_v l[h] x;have hw:IntKind.i64.wrap ((IntKind.u64.wrap (IntKind.i64.wrap ((i:Int)+(j:Int)))).fdiv (2^min 1 IntKind.u64.bits))=(h:Int):=by
    have e1:IntKind.i64.wrap ((i:Int)+(j:Int))=((i+j:Nat):Int):=by
     rw [wrap_i64 (by omega) (by omega)]; omega
    have e2:IntKind.u64.wrap ((i+j:Nat):Int)=((i+j:Nat):Int):=by
     show ((i+j:Nat):Int) % 18446744073709551616=_;omega
    have e3:((i+j:Nat):Int).fdiv (2^min 1 IntKind.u64.bits)=((h:Nat):Int):=by
     show ((i+j:Nat):Int).fdiv 2=_;rw [Int.fdiv_eq_ediv_of_nonneg _ (by omega),hh]; omega
    rw [e1,e2,e3];exact wrap_i64 (by omega) (by omega)
   have hw2:=ji (k:=h) (n:=l.length) h3 (by omega);have hgd:l.getD h 0=l[h]:=by rw [List.getD_eq_getElem?_getD,List.getElem?_eq_getElem h3]; rfl
   rw [bsI,dif_pos hlt, ←hh,hgd] at hbs
   repeat first|refine QG ?_|refine QY ?_ (r:=by conv=>lhs;simp[QV,hlt])
   refine QT ?_;refine QP ?_ (r:=by conv=>lhs;simp[QV,hw,h3]);refine jm rfl (cl) ?_
   by_cases hx:l[h]<x
   ·have hlo2 : ∀ (k:Nat) (hk:k<l.length),k<h+1→l[k]<x:=fun k hk hkh=>by
     rcases Nat.lt_or_ge k h with h5 | h5
     ·exact Int.lt_trans (hle k h hk h3 h5) hx
     ·have:k=h:=by omega
      subst this; exact hx
    refine QM (by conv=>lhs;simp[QV,hx]) ?_;refine QN ?_
    repeat first|refine QG ?_|refine QY ?_ (r:=by conv=>lhs;simp[QV,hx,hw2])
    show jp _ _ _ _ _ _ _;exact again ⟨(by omega),h+1,j,by omega,hj,rfl,(by rw [if_pos hx] at hbs; exact hbs),hlo2,hhi,by simp [Fr.only,Fr.look],rfl⟩
   ·have hhi2 : ∀ (k:Nat) (hk:k<l.length),h≤k→x≤l[k]:=fun k hk hkh=>by
     rcases Nat.lt_or_ge h k with h5 | h5
     ·have:=hle h k h3 hk h5; omega
     ·have:k=h:=by omega
      subst this; omega
    refine QM (by conv=>lhs;simp[QV,hx]) ?_;refine QN ?_
    repeat first|refine QG ?_|refine QY ?_ (r:=by conv=>lhs;simp[QV,hx])
    show jp _ _ _ _ _ _ _;exact again ⟨(by omega),i,h,by omega,by omega,rfl,(by rw [if_neg hx] at hbs; exact hbs),hlo,hhi2,by simp [Fr.only,Fr.look],rfl⟩
  ·have e:i=j:=by omega
   subst e;have c1:=Nan1_v;rw [bsI,dif_neg hlt] at hbs;rw [←hbs]
   by_cases hil:i<l.length
   ·by_cases he:l[i]=x
    ·have hm:decide (x∈l)=true:=decide_eq_true (he▸List.getElem_mem hil);rw [hm]
     repeat first|refine QG ?_|refine QY ?_ (r:=by conv=>lhs;simp[QV,hlt])
     refine QT ?_;refine QY ?_ (r:=by conv=>lhs;simp[QV,hil,he])
     repeat first|refine QG ?_|refine QY ?_
     exact ja hwf rfl rfl
    ·have hm:decide (x∈l)=false:=decide_eq_false fun hx=>by
      obtain ⟨k,hk,rfl⟩:=List.getElem_of_mem hx;rcases Nat.lt_or_ge k i with h5 | h5
      ·have:=hlo k hk h5; omega
      ·rcases Nat.lt_or_ge i k with h6 | h6
       ·have h7:=hle i k hil hk h6;have:=hhi i hil (Nat.le_refl _); omega
       ·have:k=i:=by omega
        subst this; exact he rfl
     rw [hm]
     repeat first|refine QG ?_|refine QY ?_ (r:=by conv=>lhs;simp[QV,hlt])
     refine QT ?_;refine QP ?_ (r:=by conv=>lhs;simp[QV,hil,he]);refine jm rfl (c1 l[i]) ?_;refine QM (by conv=>lhs;simp[QV,hil,he]) ?_;refine QN ?_
     repeat first|refine QG ?_|refine QY ?_
     exact ja hwf rfl rfl
   ·have hm:decide (x∈l)=false:=decide_eq_false fun hx=>by
     obtain ⟨k,hk,rfl⟩:=List.getElem_of_mem hx;have:=hlo k hk (by omega); omega
    rw [hm]
    repeat first|refine QG ?_|refine QY ?_ (r:=by conv=>lhs;simp[QV,hlt])
    refine QT ?_;refine QY ?_ (r:=by conv=>lhs;simp[QV,hil])
    repeat first|refine QG ?_|refine QY ?_
    exact ja hwf rfl rfl
end Go.Vw
namespace Ss
def scanRow (head:Int) (i:Nat) (l:List Int) (st:Int × Nat):Int × Nat:=l.foldl (fun st to=>if to=head then ((i:Int),st.2+1) else st) st
def scanG (head:Int) (nodes:List Int):Nat→List (List Int)→Int × Nat→Int × Nat
 | _,[],st=>st
 | i,l::r,st=>scanG head nodes (i+1) r (if (i:Int)∈nodes then st else scanRow head i l st)
def porch (bs:List Block) (head:Int) (nodes:List Int):Option Int :=
 if (scanG head nodes 0 (succs bs) (0,0)).2≠1∨(bs.getD (scanG head nodes 0 (succs bs) (0,0)).1.toNat default).term.kind≠1 then none else some (scanG head nodes 0 (succs bs) (0,0)).1
theorem jbp (head:Int) (i:Nat) : ∀ (l:List Int) (st:Int × Nat),scanRow head i l st=if l.count head=0 then st else ((i:Int),st.2+l.count head)
 | [],st=>by simp [scanRow]
 | a::l,st=>by
  have ih:=jbp head i l;unfold scanRow at ih ⊢;rw [List.foldl_cons,ih]
  by_cases e:a=head
  ·subst e;simp only [if_true,List.count_cons_self,Nat.add_eq_zero_iff,Nat.one_ne_zero,and_false,if_false];split
   ·rename_i h0; rw [h0]
   ·exact Prod.ext rfl (by show st.2+1+List.count a l=st.2+(List.count a l+1); omega)
  ·rw [if_neg e,List.count_cons_of_ne (by simpa using e)]
theorem scan_spec (head:Int) (nodes:List Int) : ∀ (rows:List (List Int)) (i:Nat) (st:Int × Nat),st.2≤(scanG head nodes i rows st).2 ∧
  ((scanG head nodes i rows st).2=st.2→scanG head nodes i rows st=st ∧ ∀ (j:Nat) l,rows[j]? = some l→((i+j:Nat):Int)∉nodes→head∉l) ∧
  ((scanG head nodes i rows st).2=st.2+1 → ∃ (j:Nat) (l:List Int),rows[j]? = some l∧((i+j:Nat):Int)∉nodes∧head∈l∧(scanG head nodes i rows st).1=((i+j:Nat):Int) ∧ ∀ (j':Nat) l',rows[j']? = some l'→((i+j':Nat):Int)∉nodes→head∈l'→j'=j)
 | [],i,st=>⟨Nat.le_refl _,fun _=>⟨rfl,by simp⟩,fun h=>by simp [scanG] at h⟩
 | l::r,i,st=>by
  have hsh : ∀ j:Nat,i+1+j=i+(j+1):=fun j=>by omega
  rw [scanG]
  by_cases hn:(i:Int)∈nodes
  ·rw [if_pos hn];obtain ⟨h1,h2,h3⟩:=scan_spec head nodes r (i+1) st;refine ⟨h1,fun h => ?_,fun h => ?_⟩
   ·obtain ⟨e,k⟩:=h2 h;refine ⟨e,fun j m hm hj => ?_⟩
    cases j with
    | zero=>exact absurd hn (by simpa using hj)
    | succ j=>exact k j m (by simpa using hm) (by rw [hsh]; exact hj)
   ·obtain ⟨j,m,a1,a2,a3,a4,a5⟩:=h3 h;refine ⟨j+1,m,by simpa using a1,by rw [←hsh]; exact a2,a3,by rw [a4,hsh],fun j' l' b1 b2 b3 => ?_⟩
    cases j' with
    | zero=>exact absurd hn (by simpa using b2)
    | succ j'=>rw [a5 j' l' (by simpa using b1) (by rw [hsh]; exact b2) b3]
  ·rw [if_neg hn];obtain ⟨h1,h2,h3⟩:=scan_spec head nodes r (i+1) (scanRow head i l st);have e:=jbp head i l st
   by_cases h0:l.count head=0
   ·rw [if_pos h0] at e;rw [e] at h1 h2 h3 ⊢;have hnl:head∉l:=List.count_eq_zero.1 h0;refine ⟨h1,fun h => ?_,fun h => ?_⟩
    ·obtain ⟨e,k⟩:=h2 h;refine ⟨e,fun j m hm hj => ?_⟩
     cases j with
     | zero=>simp only [List.getElem?_cons_zero,Option.some.injEq] at hm; subst hm; exact hnl
     | succ j=>exact k j m (by simpa using hm) (by rw [hsh]; exact hj)
    ·obtain ⟨j,m,a1,a2,a3,a4,a5⟩:=h3 h;refine ⟨j+1,m,by simpa using a1,by rw [←hsh]; exact a2,a3,by rw [a4,hsh],fun j' l' b1 b2 b3 => ?_⟩
     cases j' with
     | zero=>simp only [List.getElem?_cons_zero,Option.some.injEq] at b1; subst b1; exact absurd b3 hnl
     | succ j'=>rw [a5 j' l' (by simpa using b1) (by rw [hsh]; exact b2) b3]
   ·rw [if_neg h0] at e;rw [e] at h1 h2 h3 ⊢;simp only at h1 h2 h3 ⊢;have hin:head∈l:=List.count_pos_iff.1 (by omega);refine ⟨by omega,fun h=>by omega,fun h => ?_⟩;obtain ⟨e2,k⟩:=h2 (by omega);refine ⟨0,l,rfl,by simpa using hn,hin,by rw [e2]; simp,fun j' l' b1 b2 b3 => ?_⟩
    cases j' with
    | zero=>rfl
    | succ j'=>exact absurd b3 (k j' l' (by simpa using b1) (by rw [hsh]; exact b2))
theorem porch_spec {bs:List Block} {head p:Int} {nodes:List Int} (h:porch bs head nodes=some p) : ∃ (i:Nat) (b:Block),p=i∧bs[i]? = some b∧b.term.kind=1∧(i:Int)∉nodes∧head∈rowOf b ∧ ∀ (j:Nat) (c:Block),bs[j]? = some c→(j:Int)∉nodes→head∈rowOf c→j=i:=by
 unfold porch at h;split at h
 ·cases h
 ·rename_i hc;have h2:(scanG head nodes 0 (succs bs) (0,0)).2=1:=by
   by_cases e:(scanG head nodes 0 (succs bs) (0,0)).2=1
   ·exact e
   ·exact absurd (.inl e) hc
  have h3:(bs.getD (scanG head nodes 0 (succs bs) (0,0)).1.toNat default).term.kind=1:=by
   by_cases e:(bs.getD (scanG head nodes 0 (succs bs) (0,0)).1.toNat default).term.kind=1
   ·exact e
   ·exact absurd (.inr e) hc
  obtain ⟨j,l,a1,a2,a3,a4,a5⟩:=(scan_spec head nodes (succs bs) 0 (0,0)).2.2 h2;rw [Nat.zero_add] at a2 a4
  cases h
  rw [a4] at h3 ⊢;rw [Int.toNat_natCast] at h3;simp only [succs,List.getElem?_map,Option.map_eq_some_iff] at a1;obtain ⟨b,hb,rfl⟩:=a1;refine ⟨j,b,rfl,hb, ?_,a2,a3,fun j' c hc' hj' hh=>a5 j' (rowOf c) (by simp [succs,hc']) (by rw [Nat.zero_add]; exact hj') hh⟩;rw [List.getD_eq_getElem?_getD,hb] at h3;exact h3
end Ss
/-
 The nodes of a loop, found from a list of nodes to do.
-/
namespace Go.Vw.G
open Go.Vw
inductive Bk (fr:List (List Nat)) (h:Nat) (ts:List Nat):Nat→Prop
 | start {n:Nat} (hn:n∈ts):Bk fr h ts n
 | step {n p:Nat} (hb:Bk fr h ts n) (hn:n≠h) (hp:p∈fr.getD n []):Bk fr h ts p
structure Srch (fr:List (List Nat)) (h:Nat) (ts:List Nat) (N:Nat) (inn:List Bool) (todo:List Nat):Prop where
 len:inn.length=N
 head:inn.getD h false=true
 sound : ∀ n,inn.getD n false=true→n=h∨Bk fr h ts n
 work : ∀ t∈todo,Bk fr h ts t
 closed : ∀ n,inn.getD n false=true→n≠h → ∀ p∈fr.getD n [],inn.getD p false=true∨p∈todo
 all : ∀ t∈ts,inn.getD t false=true∨t∈todo
 lt : ∀ t∈todo,t<N
theorem Srch.start {fr:List (List Nat)} {h:Nat} {ts:List Nat} {N:Nat} (hh:h<N) (ht : ∀ t∈ts,t<N):Srch fr h ts N ((List.replicate N false).set h true) ts:=by
 have hl:h<(List.replicate N false).length:=by simpa using hh
 have hset : ∀ n,((List.replicate N false).set h true).getD n false=true↔n=h:=by
  intro n;have:=jcq hl n;unfold Met at this;rw [this];constructor
  ·rintro (h1 | h1)
   ·exact h1
   ·rw [rep_getD] at h1; cases h1
  ·exact .inl
 refine ⟨by simp,(hset h).2 rfl,fun n hn => .inl ((hset n).1 hn),fun t h1 => .start h1,fun n hn hne=>absurd ((hset n).1 hn) hne,fun t h1 => .inr h1,ht⟩
section
variable {fr:List (List Nat)} {h:Nat} {ts:List Nat} {N:Nat} {inn:List Bool} {n:Nat}
theorem Srch.seen {todo todo':List Nat} (hS:Srch fr h ts N inn todo) (hn:inn.getD n false=true) (hsub : ∀ t∈todo',t∈todo) (hre : ∀ t∈todo,t=n∨t∈todo'):Srch fr h ts N inn todo':=by
 refine ⟨hS.len,hS.head,hS.sound,fun t ht=>hS.work t (hsub t ht),fun m hm hne p hp => ?_,fun t ht => ?_,fun t ht=>hS.lt t (hsub t ht)⟩
 ·rcases hS.closed m hm hne p hp with h1 | h1
  ·exact .inl h1
  ·rcases hre p h1 with h2 | h2
   ·subst h2; exact .inl hn
   ·exact .inr h2
 ·rcases hS.all t ht with h1 | h1
  ·exact .inl h1
  ·rcases hre t h1 with h2 | h2
   ·subst h2; exact .inl hn
   ·exact .inr h2
theorem Srch.take {todo todo':List Nat} (hS:Srch fr h ts N inn todo) (hn:n∈todo) (hfl : ∀ p∈fr.getD n [],p<N) (hni:inn.getD n false=false) (hsub : ∀ t∈todo',t∈todo∨t∈fr.getD n []) (hre : ∀ t∈todo,t=n∨t∈todo') (hfr : ∀ t∈fr.getD n [],t∈todo'):Srch fr h ts N (inn.set n true) todo':=by
 have hnl:n<inn.length:=by rw [hS.len]; exact hS.lt n hn
 have hset : ∀ m,(inn.set n true).getD m false=true↔m=n∨inn.getD m false=true:=fun m=>jcq hnl m
 have hnh:n≠h:=by intro e; subst e; rw [hS.head] at hni; cases hni
 refine ⟨by simpa using hS.len,(hset h).2 (.inr hS.head),fun m hm => ?_,fun t ht => ?_,fun m hm hne p hp => ?_,fun t ht => ?_,fun t ht => ?_⟩
 ·rcases (hset m).1 hm with e | h1
  ·subst e; exact .inr (hS.work m hn)
  ·exact hS.sound m h1
 ·rcases hsub t ht with h1 | h1
  ·exact hS.work t h1
  ·exact .step (hS.work n hn) hnh h1
 ·rcases (hset m).1 hm with e | h1
  ·subst e; exact .inr (hfr p hp)
  ·rcases hS.closed m h1 hne p hp with h2 | h2
   ·exact .inl ((hset p).2 (.inr h2))
   ·rcases hre p h2 with h3 | h3
    ·exact .inl ((hset p).2 (.inl h3))
    ·exact .inr h3
 ·rcases hS.all t ht with h1 | h1
  ·exact .inl ((hset t).2 (.inr h1))
  ·rcases hre t h1 with h3 | h3
   ·exact .inl ((hset t).2 (.inl h3))
   ·exact .inr h3
 ·rcases hsub t ht with h1 | h1
  ·exact hS.lt t h1
  ·exact hfl t h1
theorem Srch.done (hS:Srch fr h ts N inn []) (n:Nat):inn.getD n false=true↔n=h∨Bk fr h ts n:=by
 refine ⟨hS.sound n, ?_⟩;rintro (e | hb)
 ·subst e; exact hS.head
 ·induction hb with
  | start hn =>
   rcases hS.all _ hn with h1 | h1
   ·exact h1
   ·simp at h1
  | step _ hne hp ih =>
   rcases hS.closed _ ih hne _ hp with h1 | h1
   ·exact h1
   ·simp at h1
end
def picked (inn:List Bool):Nat→List Nat
 | 0=>[]
 | k+1=>if inn.getD k false then picked inn k++[k] else picked inn k
theorem picked_len (inn:List Bool) : ∀ k,(picked inn k).length≤k
 | 0=>Nat.le_refl _
 | k+1=>by have:=picked_len inn k; simp only [picked]; split<;>simp<;>omega
open Classical in
/-- Whether each node is of a loop. -/
noncomputable def loopIn (fr:List (List Nat)) (h:Nat) (ts:List Nat) (N:Nat):List Bool:=(List.range N).map fun n=>decide (n=h∨Bk fr h ts n)
theorem loopIn_eq {fr:List (List Nat)} {h:Nat} {ts:List Nat} {N:Nat} {inn:List Bool} (hS:Srch fr h ts N inn []):inn=loopIn fr h ts N:=by
 refine List.ext_getElem (by simp [loopIn,hS.len]) fun i h1 h2 => ?_
 have:=hS.done i;have e:inn.getD i false=inn[i]:=by simp [h1]
 rw [e] at this;simp only [loopIn,List.getElem_map,List.getElem_range]
 cases hx:inn[i] with
 | false=>rw [hx] at this; simp only [Bool.false_eq_true,false_iff] at this; simp [this]
 | true=>rw [hx] at this; simp only [true_iff] at this; simp [this]
def backs (near:List Int) (h:Nat) (row:List Nat):List Nat:=row.filter fun p=>dominates near h p
noncomputable def loopsTo (near:List Int) (fr:List (List Nat)) (N:Nat):Nat→List (Nat × List Nat)
 | 0=>[]
 | h+1=>if (0<h∧near.getD h 0<0)∨backs near h (fr.getD h [])=[] then loopsTo near fr N h
  else loopsTo near fr N h++[(h,picked (loopIn fr h (backs near h (fr.getD h [])) N) N)]
theorem loopsTo_len (near:List Int) (fr:List (List Nat)) (N:Nat) : ∀ k,(loopsTo near fr N k).length≤k
 | 0=>Nat.le_refl _
 | k+1=>by have:=loopsTo_len near fr N k; simp only [loopsTo]; split<;>simp<;>omega
def rbacks (t:List (List Bool)) (h:Nat) (row:List Nat):List Nat:=row.filter fun p=>tabAt t h p
noncomputable def rloopsTo (t:List (List Bool)) (fr:List (List Nat)) (N:Nat):Nat→List (Nat × List Nat)
 | 0=>[]
 | h+1=>if rbacks t h (fr.getD h [])=[] then rloopsTo t fr N h
  else rloopsTo t fr N h++[(h,picked (loopIn fr h (rbacks t h (fr.getD h [])) N) N)]
theorem rloopsTo_len (t:List (List Bool)) (fr:List (List Nat)) (N:Nat) : ∀ k,(rloopsTo t fr N k).length≤k
 | 0=>Nat.le_refl _
 | k+1=>by have:=rloopsTo_len t fr N k; simp only [rloopsTo]; split<;>simp<;>omega
theorem backs_eq {g:List (List Nat)} (hg:Ok g) {h:Nat} (hh:h∈order g) (row:List Nat) (hr : ∀ p∈row,p<g.length):rbacks (table g) h row=backs (rNear g) h row:=by
 refine List.filter_congr fun p hp => ?_
 have h1:=JE hg h p;have h2:=zx hg (rNear_ok hg) ((order_ok hg).lt h hh) (hr p hp);rw [Bool.eq_iff_iff,h1,h2];constructor
 ·exact .inl
 ·rintro (h | h)
  ·exact h
  ·subst h; exact ⟨hh,hh,Dom.self _⟩
theorem backs_none {g:List (List Nat)} (hg:Ok g) {h:Nat} (hh:h∉order g) (row:List Nat):rbacks (table g) h row=[]:=by
 rw [rbacks,List.filter_eq_nil_iff];intro p _ hp;exact hh ((JE hg h p).1 hp).1
theorem loops_eq {g:List (List Nat)} (hg:Ok g) : ∀ k,k≤g.length→rloopsTo (table g) (froms g) g.length k=loopsTo (rNear g) (froms g) g.length k
 | 0,_=>rfl
 | h+1,hk=>by
  have ih:=loops_eq hg h (by omega);have hN:=rNear_ok hg;simp only [rloopsTo,loopsTo,ih]
  by_cases hh:h∈order g
  ·have hr : ∀ p∈(froms g).getD h [],p<g.length:=fun p hp=>((mem_froms hg h p (by omega)).1 hp).1
   rw [backs_eq hg hh _ hr];have hno : ¬ (0<h∧(rNear g).getD h 0<0):=by
    rintro ⟨h0,hn⟩;obtain ⟨p,e,_⟩:=hN.near h hh (by omega);have:nd (rNear g) h<0:=hn;omega
   by_cases he:backs (rNear g) h ((froms g).getD h [])=[]
   ·rw [if_pos he,if_pos (.inr he)]
   ·rw [if_neg he,if_neg (by rintro (h1 | h1); exact hno h1; exact he h1)]
  ·rw [if_pos (backs_none hg hh _)];have h0:0<h:=by
    rcases Nat.eq_zero_or_pos h with e | e
    ·subst e; exact absurd (Wu (order_ok hg)) hh
    ·exact e
   have hn:(rNear g).getD h 0<0:=by
    have:=hN.out h (by omega) hh;have e:(rNear g).getD h 0=nd (rNear g) h:=rfl;omega
   rw [if_pos (.inl ⟨h0,hn⟩)]
def todoM (M:Nat) (inn:List Bool) (todo:List Nat):Nat:=unmet inn*(M+1)+todo.length
theorem todoM_take {M:Nat} {inn:List Bool} {n:Nat} {todo todo':List Nat} {k:Nat} (hn:n<inn.length) (hf:inn[n]=false) (hk:k≤M) (hl:todo'.length+1=todo.length+k):todoM M (inn.set n true) todo'<todoM M inn todo:=by
 have:=unmet_set hn hf;simp only [todoM, ←this,Nat.add_mul,Nat.one_mul];omega
end Go.Vw.G
