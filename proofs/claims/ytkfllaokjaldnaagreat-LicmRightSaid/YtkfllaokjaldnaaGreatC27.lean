import Derived.Test.YtkfllaokjaldnaaGreatC24
import Derived.Test.YtkfllaokjaldnaaGreatC26
import Derived.Test.YtkfllaokjaldnaaGreatC23
import Derived.Test.YtkfllaokjaldnaaGreatC22
import Derived.Test.YtkfllaokjaldnaaGreatC17
/-
  Part of the proof (texts LPlain, GLoop, GHead, BClo, BChk, LDom, DRound, SMoreP, DOkc, DRun, BRun, SMoreQ, SLMore).
-/
set_option linter.unusedVariables false
set_option linter.unusedSimpArgs false
namespace Ss
def scanRow (head:Int) (i:Nat) (l:List Int) (st:Int × Nat):Int × Nat:=l.foldl (fun st to=>if to=head then ((i:Int),st.2+1) else st) st
def scanG (head:Int) (nodes:List Int):Nat→List (List Int)→Int × Nat→Int × Nat
 | _,[],st=>st
 | i,l::r,st=>scanG head nodes (i+1) r (if (i:Int)∈nodes then st else scanRow head i l st)
def porch (bs:List Block) (head:Int) (nodes:List Int):Option Int :=
 if (scanG head nodes 0 (succs bs) (0,0)).2≠1∨(bs.getD (scanG head nodes 0 (succs bs) (0,0)).1.toNat default).term.kind≠1 then none else some (scanG head nodes 0 (succs bs) (0,0)).1
theorem jaB (head:Int) (i:Nat) : ∀ (l:List Int) (st:Int × Nat),scanRow head i l st=if l.count head=0 then st else ((i:Int),st.2+l.count head)
 | [],st=>by simp [scanRow]
 | a::l,st=>by
  have ih:=jaB head i l
  unfold scanRow at ih ⊢
  rw [List.foldl_cons,ih]
  by_cases e:a=head
  ·subst e
   simp only [if_true,List.count_cons_self,Nat.add_eq_zero_iff,Nat.one_ne_zero,and_false,if_false]
   split
   ·rename_i h0; rw [h0]
   ·exact Prod.ext rfl (by show st.2+1+List.count a l=st.2+(List.count a l+1); omega)
  ·rw [if_neg e,List.count_cons_of_ne (by simpa using e)]
theorem scan_spec (head:Int) (nodes:List Int) : ∀ (rows:List (List Int)) (i:Nat) (st:Int × Nat),st.2≤(scanG head nodes i rows st).2 ∧
  ((scanG head nodes i rows st).2=st.2→scanG head nodes i rows st=st ∧ ∀ (j:Nat) l,rows[j]? = some l→((i+j:Nat):Int)∉nodes→head∉l) ∧
  ((scanG head nodes i rows st).2=st.2+1 → ∃ (j:Nat) (l:List Int),rows[j]? = some l∧((i+j:Nat):Int)∉nodes∧head∈l∧(scanG head nodes i rows st).1=((i+j:Nat):Int) ∧ ∀ (j':Nat) l',rows[j']? = some l'→((i+j':Nat):Int)∉nodes→head∈l'→j'=j)
 | [],i,st=>⟨Nat.le_refl _,fun _=>⟨rfl,by simp⟩,fun h=>by simp [scanG] at h⟩
 | l::r,i,st=>by
  have hsh : ∀ j:Nat,i+1+j=i+(j+1):=fun j=>by omega
  rw [scanG]
  by_cases hn:(i:Int)∈nodes
  ·rw [if_pos hn]
   obtain ⟨h1,h2,h3⟩:=scan_spec head nodes r (i+1) st
   refine ⟨h1,fun h => ?_,fun h => ?_⟩
   ·obtain ⟨e,k⟩:=h2 h
    refine ⟨e,fun j m hm hj => ?_⟩
    cases j with
    | zero=>exact absurd hn (by simpa using hj)
    | succ j=>exact k j m (by simpa using hm) (by rw [hsh]; exact hj)
   ·obtain ⟨j,m,a1,a2,a3,a4,a5⟩:=h3 h
    refine ⟨j+1,m,by simpa using a1,by rw [←hsh]; exact a2,a3,by rw [a4,hsh],fun j' l' b1 b2 b3 => ?_⟩
    cases j' with
    | zero=>exact absurd hn (by simpa using b2)
    | succ j'=>rw [a5 j' l' (by simpa using b1) (by rw [hsh]; exact b2) b3]
  ·rw [if_neg hn]
   obtain ⟨h1,h2,h3⟩:=scan_spec head nodes r (i+1) (scanRow head i l st)
   have e:=jaB head i l st
   by_cases h0:l.count head=0
   ·rw [if_pos h0] at e
    rw [e] at h1 h2 h3 ⊢
    have hnl:head∉l:=List.count_eq_zero.1 h0
    refine ⟨h1,fun h => ?_,fun h => ?_⟩
    ·obtain ⟨e,k⟩:=h2 h
     refine ⟨e,fun j m hm hj => ?_⟩
     cases j with
     | zero=>simp only [List.getElem?_cons_zero,Option.some.injEq] at hm; subst hm; exact hnl
     | succ j=>exact k j m (by simpa using hm) (by rw [hsh]; exact hj)
    ·obtain ⟨j,m,a1,a2,a3,a4,a5⟩:=h3 h
     refine ⟨j+1,m,by simpa using a1,by rw [←hsh]; exact a2,a3,by rw [a4,hsh],fun j' l' b1 b2 b3 => ?_⟩
     cases j' with
     | zero=>simp only [List.getElem?_cons_zero,Option.some.injEq] at b1; subst b1; exact absurd b3 hnl
     | succ j'=>rw [a5 j' l' (by simpa using b1) (by rw [hsh]; exact b2) b3]
   ·rw [if_neg h0] at e
    rw [e] at h1 h2 h3 ⊢
    simp only at h1 h2 h3 ⊢
    have hin:head∈l:=List.count_pos_iff.1 (by omega)
    refine ⟨by omega,fun h=>by omega,fun h => ?_⟩
    obtain ⟨e2,k⟩:=h2 (by omega)
    refine ⟨0,l,rfl,by simpa using hn,hin,by rw [e2]; simp,fun j' l' b1 b2 b3 => ?_⟩
    cases j' with
    | zero=>rfl
    | succ j'=>exact absurd b3 (k j' l' (by simpa using b1) (by rw [hsh]; exact b2))
theorem porch_spec {bs:List Block} {head p:Int} {nodes:List Int} (h:porch bs head nodes=some p) : ∃ (i:Nat) (b:Block),p=i∧bs[i]? = some b∧b.term.kind=1∧(i:Int)∉nodes∧head∈rowOf b ∧ ∀ (j:Nat) (c:Block),bs[j]? = some c→(j:Int)∉nodes→head∈rowOf c→j=i:=by
 unfold porch at h
 split at h
 ·cases h
 ·rename_i hc
  have h2:(scanG head nodes 0 (succs bs) (0,0)).2=1:=by
   by_cases e:(scanG head nodes 0 (succs bs) (0,0)).2=1
   ·exact e
   ·exact absurd (.inl e) hc
  have h3:(bs.getD (scanG head nodes 0 (succs bs) (0,0)).1.toNat default).term.kind=1:=by
   by_cases e:(bs.getD (scanG head nodes 0 (succs bs) (0,0)).1.toNat default).term.kind=1
   ·exact e
   ·exact absurd (.inr e) hc
  obtain ⟨j,l,a1,a2,a3,a4,a5⟩:=(scan_spec head nodes (succs bs) 0 (0,0)).2.2 h2
  rw [Nat.zero_add] at a2 a4
  cases h
  rw [a4] at h3 ⊢
  rw [Int.toNat_natCast] at h3
  simp only [succs,List.getElem?_map,Option.map_eq_some_iff] at a1
  obtain ⟨b,hb,rfl⟩:=a1
  refine ⟨j,b,rfl,hb, ?_,a2,a3,fun j' c hc' hj' hh=>a5 j' (rowOf c) (by simp [succs,hc']) (by rw [Nat.zero_add]; exact hj') hh⟩
  rw [List.getD_eq_getElem?_getD,hb] at h3
  exact h3
end Ss

/-
 The nodes of a loop, found from a list of nodes to do.
-/
namespace Go.Vw.G
open Go.Vw
inductive Bk (fr:List (List Nat)) (h:Nat) (ts:List Nat):Nat→Prop
 | start {n:Nat} (hn:n∈ts):Bk fr h ts n
 | step {n p:Nat} (hb:Bk fr h ts n) (hn:n≠h) (hp:p∈fr.getD n []):Bk fr h ts p
structure Srch (fr:List (List Nat)) (h:Nat) (ts:List Nat) (N:Nat) (inn:List Bool) (todo:List Nat):Prop where
 len:inn.length=N
 head:inn.getD h false=true
 sound : ∀ n,inn.getD n false=true→n=h∨Bk fr h ts n
 work : ∀ t∈todo,Bk fr h ts t
 closed : ∀ n,inn.getD n false=true→n≠h → ∀ p∈fr.getD n [],inn.getD p false=true∨p∈todo
 all : ∀ t∈ts,inn.getD t false=true∨t∈todo
 lt : ∀ t∈todo,t<N
theorem Srch.start {fr:List (List Nat)} {h:Nat} {ts:List Nat} {N:Nat} (hh:h<N) (ht : ∀ t∈ts,t<N):Srch fr h ts N ((List.replicate N false).set h true) ts:=by
 have hl:h<(List.replicate N false).length:=by simpa using hh
 have hset : ∀ n,((List.replicate N false).set h true).getD n false=true↔n=h:=by
  intro n
  have:=jbC hl n
  unfold Met at this
  rw [this]
  constructor
  ·rintro (h1 | h1)
   ·exact h1
   ·rw [rep_getD] at h1; cases h1
  ·exact .inl
 refine ⟨by simp,(hset h).2 rfl,fun n hn => .inl ((hset n).1 hn),fun t h1 => .start h1,fun n hn hne=>absurd ((hset n).1 hn) hne,fun t h1 => .inr h1,ht⟩
section
variable {fr:List (List Nat)} {h:Nat} {ts:List Nat} {N:Nat} {inn:List Bool} {n:Nat}
theorem Srch.seen {todo todo':List Nat} (hS:Srch fr h ts N inn todo) (hn:inn.getD n false=true) (hsub : ∀ t∈todo',t∈todo) (hre : ∀ t∈todo,t=n∨t∈todo'):Srch fr h ts N inn todo':=by
 refine ⟨hS.len,hS.head,hS.sound,fun t ht=>hS.work t (hsub t ht),fun m hm hne p hp => ?_,fun t ht => ?_,fun t ht=>hS.lt t (hsub t ht)⟩
 ·rcases hS.closed m hm hne p hp with h1 | h1
  ·exact .inl h1
  ·rcases hre p h1 with h2 | h2
   ·subst h2; exact .inl hn
   ·exact .inr h2
 ·rcases hS.all t ht with h1 | h1
  ·exact .inl h1
  ·rcases hre t h1 with h2 | h2
   ·subst h2; exact .inl hn
   ·exact .inr h2
theorem Srch.take {todo todo':List Nat} (hS:Srch fr h ts N inn todo) (hn:n∈todo) (hfl : ∀ p∈fr.getD n [],p<N) (hni:inn.getD n false=false) (hsub : ∀ t∈todo',t∈todo∨t∈fr.getD n []) (hre : ∀ t∈todo,t=n∨t∈todo') (hfr : ∀ t∈fr.getD n [],t∈todo'):Srch fr h ts N (inn.set n true) todo':=by
 have hnl:n<inn.length:=by rw [hS.len]; exact hS.lt n hn
 have hset : ∀ m,(inn.set n true).getD m false=true↔m=n∨inn.getD m false=true:=fun m=>jbC hnl m
 have hnh:n≠h:=by intro e; subst e; rw [hS.head] at hni; cases hni
 refine ⟨by simpa using hS.len,(hset h).2 (.inr hS.head),fun m hm => ?_,fun t ht => ?_,fun m hm hne p hp => ?_,fun t ht => ?_,fun t ht => ?_⟩
 ·rcases (hset m).1 hm with e | h1
  ·subst e; exact .inr (hS.work m hn)
  ·exact hS.sound m h1
 ·rcases hsub t ht with h1 | h1
  ·exact hS.work t h1
  ·exact .step (hS.work n hn) hnh h1
 ·rcases (hset m).1 hm with e | h1
  ·subst e; exact .inr (hfr p hp)
  ·rcases hS.closed m h1 hne p hp with h2 | h2
   ·exact .inl ((hset p).2 (.inr h2))
   ·rcases hre p h2 with h3 | h3
    ·exact .inl ((hset p).2 (.inl h3))
    ·exact .inr h3
 ·rcases hS.all t ht with h1 | h1
  ·exact .inl ((hset t).2 (.inr h1))
  ·rcases hre t h1 with h3 | h3
   ·exact .inl ((hset t).2 (.inl h3))
   ·exact .inr h3
 ·rcases hsub t ht with h1 | h1
  ·exact hS.lt t h1
  ·exact hfl t h1
theorem Srch.done (hS:Srch fr h ts N inn []) (n:Nat):inn.getD n false=true↔n=h∨Bk fr h ts n:=by
 refine ⟨hS.sound n, ?_⟩
 rintro (e | hb)
 ·subst e; exact hS.head
 ·induction hb with
  | start hn =>
   rcases hS.all _ hn with h1 | h1
   ·exact h1
   ·simp at h1
  | step _ hne hp ih =>
   rcases hS.closed _ ih hne _ hp with h1 | h1
   ·exact h1
   ·simp at h1
end
def picked (inn:List Bool):Nat→List Nat
 | 0=>[]
 | k+1=>if inn.getD k false then picked inn k++[k] else picked inn k
theorem picked_len (inn:List Bool) : ∀ k,(picked inn k).length≤k
 | 0=>Nat.le_refl _
 | k+1=>by have:=picked_len inn k; simp only [picked]; split<;>simp<;>omega
open Classical in
/-- Whether each node is of a loop. -/
noncomputable def loopIn (fr:List (List Nat)) (h:Nat) (ts:List Nat) (N:Nat):List Bool:=(List.range N).map fun n=>decide (n=h∨Bk fr h ts n)
theorem loopIn_eq {fr:List (List Nat)} {h:Nat} {ts:List Nat} {N:Nat} {inn:List Bool} (hS:Srch fr h ts N inn []):inn=loopIn fr h ts N:=by
 refine List.ext_getElem (by simp [loopIn,hS.len]) fun i h1 h2 => ?_
 have:=hS.done i
 have e:inn.getD i false=inn[i]:=by simp [h1]
 rw [e] at this
 simp only [loopIn,List.getElem_map,List.getElem_range]
 cases hx:inn[i] with
 | false=>rw [hx] at this; simp only [Bool.false_eq_true,false_iff] at this; simp [this]
 | true=>rw [hx] at this; simp only [true_iff] at this; simp [this]
def backs (near:List Int) (h:Nat) (row:List Nat):List Nat:=row.filter fun p=>dominates near h p
noncomputable def loopsTo (near:List Int) (fr:List (List Nat)) (N:Nat):Nat→List (Nat × List Nat)
 | 0=>[]
 | h+1=>if (0<h∧near.getD h 0<0)∨backs near h (fr.getD h [])=[] then loopsTo near fr N h
  else loopsTo near fr N h++[(h,picked (loopIn fr h (backs near h (fr.getD h [])) N) N)]
theorem loopsTo_len (near:List Int) (fr:List (List Nat)) (N:Nat) : ∀ k,(loopsTo near fr N k).length≤k
 | 0=>Nat.le_refl _
 | k+1=>by have:=loopsTo_len near fr N k; simp only [loopsTo]; split<;>simp<;>omega
def rbacks (t:List (List Bool)) (h:Nat) (row:List Nat):List Nat:=row.filter fun p=>tabAt t h p
noncomputable def rloopsTo (t:List (List Bool)) (fr:List (List Nat)) (N:Nat):Nat→List (Nat × List Nat)
 | 0=>[]
 | h+1=>if rbacks t h (fr.getD h [])=[] then rloopsTo t fr N h
  else rloopsTo t fr N h++[(h,picked (loopIn fr h (rbacks t h (fr.getD h [])) N) N)]
def todoM (M:Nat) (inn:List Bool) (todo:List Nat):Nat:=unmet inn*(M+1)+todo.length
theorem todoM_take {M:Nat} {inn:List Bool} {n:Nat} {todo todo':List Nat} {k:Nat} (hn:n<inn.length) (hf:inn[n]=false) (hk:k≤M) (hl:todo'.length+1=todo.length+k):todoM M (inn.set n true) todo'<todoM M inn todo:=by
 have:=unmet_set hn hf
 simp only [todoM, ←this,Nat.add_mul,Nat.one_mul]
 omega
end Go.Vw.G

/-
 What is so of each loop: its head dominates its nodes that are reached, and they come from its nodes alone.
-/
namespace Go.Vw.G
open Go.Vw
theorem jaM (inn:List Bool) (n:Nat) : ∀ k,n∈picked inn k↔n<k∧inn.getD n false=true
 | 0=>by simp [picked]
 | k+1=>by
  have ih:=jaM inn n k
  simp only [picked]
  split
  ·rename_i h
   rw [List.mem_append,ih]
   simp only [List.mem_singleton]
   constructor
   ·rintro (⟨h1,h2⟩ | h1)
    ·exact ⟨by omega,h2⟩
    ·subst h1; exact ⟨by omega,h⟩
   ·rintro ⟨h1,h2⟩
    by_cases e:n=k
    ·exact .inr e
    ·exact .inl ⟨by omega,h2⟩
  ·rename_i h
   rw [ih]
   constructor
   ·rintro ⟨h1,h2⟩; exact ⟨by omega,h2⟩
   ·rintro ⟨h1,h2⟩
    refine ⟨?_,h2⟩
    by_cases e:n=k
    ·subst e; exact absurd h2 h
    ·omega
theorem jaN {fr:List (List Nat)} {h:Nat} {ts:List Nat} {N n:Nat} (hn:n<N):(loopIn fr h ts N).getD n false=true↔n=h∨Bk fr h ts n:=by
 classical
 have e:(loopIn fr h ts N).getD n false=true↔(n=h∨Bk fr h ts n):=by simp [loopIn,hn]
 exact e
theorem Bk.lt {g:List (List Nat)} (hg:Ok g) {h:Nat} {ts:List Nat} (hts : ∀ t∈ts,t<g.length) {n:Nat} (hb:Bk (froms g) h ts n):n<g.length:=by
 induction hb with
 | start hn=>exact hts _ hn
 | step hb hne hp ih=>exact ((mem_froms hg _ _ ih).1 hp).1
theorem Bk.dom {g:List (List Nat)} (hg:Ok g) {h:Nat} {ts:List Nat} (hts : ∀ t∈ts,t<g.length) (htd : ∀ t∈ts,Dom g (order g) h t) {n:Nat} (hb:Bk (froms g) h ts n) (hn:n∈order g):Dom g (order g) h n:=by
 induction hb with
 | start ht=>exact htd _ ht
 | @step n p hb hne hp ih =>
  have hl:=Bk.lt hg hts hb
  have hp':=(mem_froms hg n p hl).1 hp
  have ho:=order_ok hg
  have hno:n∈order g:=(ho.mem n).2 (From.step ((ho.mem p).1 hn) hp'.2 (jT _ _))
  exact (ih hno).pred (Ne.symm hne) hp'.2
structure HeadOk (g:List (List Nat)) (x:Nat × List Nat):Prop where
 lt:x.1<g.length
 head:x.1∈x.2
 nodes : ∀ n∈x.2,n<g.length
 dom : ∀ n∈x.2,(without g none).getD n false=true→dominates (rNear g) (x.1:Int) (n:Int)=true
 pred : ∀ n∈x.2,n≠x.1 → ∀ p∈(froms g).getD n [],p∈x.2
theorem heads {g:List (List Nat)} (hg:Ok g) : ∀ k,k≤g.length → ∀ x∈loopsTo (rNear g) (froms g) g.length k,HeadOk g x
 | 0,_,x,hx=>by simp [loopsTo] at hx
 | h+1,hk,x,hx=>by
  have ih:=heads hg h (by omega)
  simp only [loopsTo] at hx
  split at hx
  ·exact ih x hx
  ·rename_i hc
   rcases List.mem_append.1 hx with hx | hx
   ·exact ih x hx
   ·have hN:=rNear_ok hg
    have ho:=order_ok hg
    have hh:h∈order g:=by
     by_cases hh:h∈order g
     ·exact hh
     ·refine absurd (.inl ⟨?_, ?_⟩) hc
      ·rcases Nat.eq_zero_or_pos h with e | e
       ·subst e; exact absurd (YJ ho) hh
       ·exact e
      ·have:=hN.out h (by omega) hh
       have e:(rNear g).getD h 0=nd (rNear g) h:=rfl
       omega
    have hrow : ∀ p∈(froms g).getD h [],p<g.length:=fun p hp=>((mem_froms hg h p (by omega)).1 hp).1
    have hts : ∀ t∈backs (rNear g) h ((froms g).getD h []),t<g.length:=fun t ht=>hrow t (List.mem_filter.1 ht).1
    have htd : ∀ t∈backs (rNear g) h ((froms g).getD h []),Dom g (order g) h t:=by
     intro t ht
     have h1:=(List.mem_filter.1 ht).2
     rcases (zt hg hN (by omega) (hts t ht)).1 h1 with h2 | h2
     ·exact h2.2.2
     ·subst h2; exact Dom.self _
    rw [List.mem_singleton] at hx
    subst hx
    generalize backs (rNear g) h ((froms g).getD h [])=ts at *
    have hmem : ∀ n,n∈picked (loopIn (froms g) h ts g.length) g.length↔n<g.length∧(n=h∨Bk (froms g) h ts n):=by
     intro n
     rw [jaM]
     constructor
     ·rintro ⟨h1,h2⟩; exact ⟨h1,(jaN h1).1 h2⟩
     ·rintro ⟨h1,h2⟩; exact ⟨h1,(jaN h1).2 h2⟩
    refine ⟨by show h<g.length; omega,(hmem h).2 ⟨by omega, .inl rfl⟩,fun n hn=>((hmem n).1 hn).1, ?_, ?_⟩
    ·intro n hn hm
     obtain ⟨h1,h2⟩:=(hmem n).1 hn
     have hno:=(without_none hg n).1 hm
     refine (zt hg hN (by show h<g.length; omega) h1).2 ?_
     rcases h2 with e | hb
     ·exact .inr e.symm
     ·exact .inl ⟨hh,hno,Bk.dom hg hts htd hb hno⟩
    ·intro n hn hne p hp
     obtain ⟨h1,h2⟩:=(hmem n).1 hn
     rcases h2 with e | hb
     ·exact absurd e hne
     ·exact (hmem p).2 ⟨((mem_froms hg n p h1).1 hp).1, .inr (.step hb hne hp)⟩
end Go.Vw.G

namespace Ss
open Go.Vw.G
def UpEnds (near:List Int):Nat→Int→Prop
 | 0,b=>b<0
 | k+1,b=>b<0∨(okIx near b∧UpEnds near k (near.getD b.toNat 0))
end Ss
namespace Go.Vw
open Go.Proofs Go.RowKit
set_option maxRecDepth 10000
set_option maxHeartbeats 2000000
def encFar (M:Ss.Far):List V:=M.map fun e => .tuple [.agg [.int .i64 e.1.1, .int .i64 e.1.2], .int .u64 e.2]
end Go.Vw

namespace Ss
open Go.Vw Go.Vw.G
theorem eqF_len {α:Type} {p:α→α→Bool} : ∀ {l m:List α},eqF p l m=true→l.length=m.length
 | [],[],_=>rfl
 | [],_::_,h=>by simp [eqF] at h
 | _::_,[],h=>by simp [eqF] at h
 | x::l,y::m,h=>by
  have:eqF p l m=true:=by
   simp only [eqF,Bool.and_eq_true] at h
   first | exact h.2 | exact h.2.2
  simp [eqF_len this]
theorem ends_of {g:List (List Nat)} (hg:Ok g) {near:List Int} (hN:NearOk g near) : ∀ (k:Nat) (b:Nat),b∈order g→rk g (order g) b<k→UpEnds near k b
 | 0,b,_,h=>by omega
 | k+1,b,hb,h=>by
  have ho:=order_ok hg
  have hbl:=ho.lt b hb
  have hok:okIx near (b:Int):=⟨by omega,by rw [hN.len]; omega⟩
  refine .inr ⟨hok, ?_⟩
  rw [Int.toNat_natCast]
  by_cases hb0:b=0
  ·subst hb0
   have:near.getD 0 0 = -1:=hN.zero
   rw [this]
   cases k with
   | zero=>show (-1:Int)<0; omega
   | succ k=>exact .inl (by omega)
  ·obtain ⟨p,q1,q2,q3,q4,q5⟩:=hN.near b hb hb0
   have hnd:near.getD b 0=(p:Int):=q1
   rw [hnd]
   have hr:=q4.rk ho q2 hb q3
   exact ends_of hg hN k p q2 (by omega)
structure Graphic (f:Fn):Prop where
 ok:Ok (nats (succs f.blocks))
 right:G.right (succs f.blocks)=true
 ord:G.ordI (succs f.blocks)=order (nats (succs f.blocks))
 near:G.nearI (succs f.blocks)=rNear (nats (succs f.blocks))
 len:(order (nats (succs f.blocks))).length=f.blocks.length
 lt : ∀ n∈order (nats (succs f.blocks)),n<f.blocks.length
 nlen:(rNear (nats (succs f.blocks))).length=f.blocks.length
 ends : ∀ n∈order (nats (succs f.blocks)),UpEnds (rNear (nats (succs f.blocks))) 256 n
 blocks:f.blocks.length≤256
theorem nats_succs_len (bs:List Block):(nats (succs bs)).length=bs.length:=by rw [nats_length,succs,List.length_map]
theorem graphic {e:Env} {f:Fn} (h:check e f=true):Graphic f:=by
 obtain ⟨h1,ds,hds,hsh,hB⟩:=qY h
 have hr:G.right (succs f.blocks)=true:=by
  unfold shapeOk at hsh
  simp only [Bool.and_eq_true] at hsh
  exact hsh.1.1.1.1
 have hol:(G.ordI (succs f.blocks)).length=f.blocks.length:=by
  unfold shapeOk at hsh
  simp only [Bool.and_eq_true,decide_eq_true_eq] at hsh
  exact hsh.1.1.1.2
 have hok:=right_ok hr
 have e1:G.ordI (succs f.blocks)=order (nats (succs f.blocks)):=by simp [G.ordI,hr]
 have e2:G.nearI (succs f.blocks)=rNear (nats (succs f.blocks)):=by simp [G.nearI,hr]
 have hN:=rNear_ok hok
 have ho:=order_ok hok
 have hl:=nats_succs_len f.blocks
 rw [e1] at hol
 have hmx:=hok.max
 rw [hl] at hmx
 exact ⟨hok,hr,e1,e2,hol,fun n hn=>by rw [←hl]; exact ho.lt n hn,by rw [hN.len,hl],fun n hn=>ends_of hok hN 256 n hn (by have:=rk_lt ho hn; omega),hmx⟩
theorem check_small {e:Env} {f:Fn} (h:check e f=true):f.small=true:=by
 have:=(qY h).1
 unfold checkHead at this
 simp only [Bool.and_eq_true] at this
 exact this.1.1.1.1.2
end Ss

namespace Go.Vw.G
open Go.Vw
section
variable {g:List (List Nat)} {l:List Nat} {hd p:Nat} {nodes:List Nat}
theorem porch_dom (hpred : ∀ n∈nodes,n≠hd → ∀ q,n∈g.getD q []→q∈nodes) (hp : ∀ j,j∉nodes→hd∈g.getD j []→j=p) (h0:0∉nodes) : ∀ n∈nodes,Dom g l p n:=by
 intro n hn k hw
 have step : ∀ {a n:Nat},n∈g.getD a []→n∈nodes→a≠p→(a∈nodes→False)→False:=fun {a n} he hn hap ih=>by
  by_cases e:n=hd
  ·subst e
   by_cases ha:a∈nodes
   ·exact ih ha
   ·exact hap (hp a ha he)
  ·exact ih (hpred n hn e a he)
 induction hw with
 | start k h=>exact h0 hn
 | on ha he hr hy ih=>exact step he hn ha.ne ih
 | back ha he hy ih=>exact step he hn ha.ne ih
theorem out_dom (hpred : ∀ n∈nodes,n≠hd → ∀ q,n∈g.getD q []→q∈nodes) (hhd:hd∈nodes) (hpe:hd∈g.getD p []) (h0:0∉nodes) {h n:Nat} (hh:h∉nodes) (hn:n∈nodes) (hr:R g n) (hdom:Dom g l h n):Dom g l h p:=by
 intro k hw
 have hwh:Way g l h (k+1) hd := .back hw hpe fun e=>hh (e▸hhd)
 have key : ∀ m,R g m→m∈nodes → ∃ k,Way g l h k m:=by
  intro m hm
  induction hm with
  | start _=>exact fun h=>absurd h h0
  | @step a m ha he _ ih =>
   intro hmn
   by_cases e:m=hd
   ·subst e; exact ⟨_,hwh⟩
   ·obtain ⟨k',hk⟩:=ih (hpred m hmn e a he)
    exact ⟨k'+1, .back hk he fun e2=>hh (e2▸hmn)⟩
 obtain ⟨k',hk⟩:=key n hr hn
 exact hdom k' hk
end
theorem KQ {near:List Int} {fr:List (List Nat)} {N:Nat} : ∀ k, ∀ x∈loopsTo near fr N k, ∃ t,t∈fr.getD x.1 []
 | 0,x,hx=>by simp [loopsTo] at hx
 | h+1,x,hx=>by
  simp only [loopsTo] at hx
  split at hx
  ·exact KQ h x hx
  ·rename_i hc
   rcases List.mem_append.1 hx with hx | hx
   ·exact KQ h x hx
   ·rw [List.mem_singleton] at hx
    subst hx
    cases hb:backs near h (fr.getD h []) with
    | nil=>exact absurd (.inr hb) hc
    | cons t r =>
     have:t∈backs near h (fr.getD h []):=by rw [hb]; simp
     exact ⟨t,(List.mem_filter.1 this).1⟩
theorem loop_not0 {g:List (List Nat)} (hg:Ok g) (hz : ∀ q,0∉g.getD q []) {x:Nat × List Nat} (hx:x∈loopsTo (rNear g) (froms g) g.length g.length):0∉x.2:=by
 intro h0
 have ho:=order_ok hg
 obtain ⟨q1,q2,q3,q4,q5⟩:=heads hg g.length (Nat.le_refl _) x hx
 have h1:=q4 0 h0 ((without_none hg 0).2 (YJ ho))
 have hx0:x.1=0:=by
  rcases (zt hg (rNear_ok hg) q1 hg.pos).1 h1 with h | h
  ·by_cases e:x.1=0
   ·exact e
   ·exact absurd (Way.start 0 (Ne.symm e)) (h.2.2 0)
  ·exact h
 obtain ⟨t,ht⟩:=KQ g.length x hx
 rw [hx0] at ht
 exact hz t ((mem_froms hg 0 t hg.pos).1 ht).2
theorem picked_lt (inn:List Bool) : ∀ k, ∀ x∈picked inn k,x<k
 | 0,x,h=>by simp [picked] at h
 | k+1,x,h=>by
  have ih:=picked_lt inn k
  simp only [picked] at h
  split at h
  ·rcases List.mem_append.1 h with h | h
   ·have:=ih x h; omega
   ·rw [List.mem_singleton] at h; omega
  ·have:=ih x h; omega
theorem Wi (inn:List Bool) : ∀ k,(picked inn k).Pairwise (· < ·)
 | 0=>by simp [picked]
 | k+1=>by
  have ih:=Wi inn k
  simp only [picked]
  split
  ·refine List.pairwise_append.2 ⟨ih,by simp,fun a ha b hb => ?_⟩
   rw [List.mem_singleton] at hb
   have:=picked_lt inn k a ha; omega
  ·exact ih
theorem loops_sorted {near:List Int} {fr:List (List Nat)} {N:Nat} : ∀ k, ∀ x∈loopsTo near fr N k,x.2.Pairwise (· < ·)
 | 0,x,hx=>by simp [loopsTo] at hx
 | h+1,x,hx=>by
  simp only [loopsTo] at hx
  split at hx
  ·exact loops_sorted h x hx
  ·rcases List.mem_append.1 hx with hx | hx
   ·exact loops_sorted h x hx
   ·rw [List.mem_singleton] at hx
    subst hx
    exact Wi _ _
end Go.Vw.G

namespace Ss
def marks (need:List Bool) (l:List Int):List Bool:=l.foldl (fun o v=>o.set v.toNat true) need
def rIns (o:List Bool) (x:Ins):List Bool:=if pure x.op then (if on o (x.outs.getD 0 0) then marks o x.args else o) else marks (marks o x.outs) x.args
def rPar (o:List Bool) (q:Int × Int):List Bool:=if on o q.1 then o.set q.2.toNat true else o
def rEdge (bs:List Block) (o:List Bool) (e:Edge):List Bool:=((bs.getD e.to.toNat default).params.zip e.args).foldl rPar o
def rTerm (o:List Bool) (t:Term):List Bool:=if branches t then (marks o t.args).set t.arg.toNat true else marks o t.args
def rBlock (bs:List Block) (o:List Bool) (b:Block):List Bool:=b.term.to.foldl (rEdge bs) (rTerm (b.code.foldl rIns o) b.term)
def rRound (f:Fn) (o:List Bool):List Bool:=f.blocks.foldl (rBlock f.blocks) o
def rTurns (f:Fn):Nat→List Bool→List Bool
 | 0,o=>o
 | k+1,o=>if rRound f o=o then o else rTurns f k (rRound f o)
def Inc (a b:List Bool):Prop:=a.length=b.length ∧ ∀ i:Nat,a[i]? = some true→b[i]? = some true
theorem Inc.refl (a:List Bool):Inc a a:=⟨rfl,fun _ h=>h⟩
theorem Inc.trans {a b c:List Bool} (h:Inc a b) (k:Inc b c):Inc a c:=⟨h.1.trans k.1,fun i hi=>k.2 i (h.2 i hi)⟩
def rootsB (b:Block):List Int:=(b.code.flatMap fun x=>if pure x.op then [] else x.args++x.outs)++(b.term.args++if branches b.term then [b.term.arg] else [])
def roots (f:Fn):List Int:=(f.blocks.getD 0 default).params++f.blocks.flatMap rootsB
end Ss

namespace Ss
/-! ### An instruction more -/
def moreX (ts:List Int) (b:Block):Ins:=b.params.foldl (fun (x:Ins) (p:Int)=>if 0≤p∧p<(ts.length:Int)∧ts.getD p.toNat 0=126 then ⟨124,0,[p,p],[(ts.length:Int)]⟩ else x) ⟨256,9,[],[(ts.length:Int)]⟩
def addB (b:Block) (x:Ins):Block:=⟨b.params,b.code++[x],b.term⟩
def more (f:Fn) (j:Nat):Fn:=⟨f.sig,f.types++[126],f.blocks.set j (addB (f.blocks.getD j default) (moreX f.types (f.blocks.getD j default)))⟩
theorem putCode_len' {i:Int} : ∀ {l:List Ins} {k:Nat} {ds d:List Def},putCode i k ds l=some d→d.length=ds.length:=fun h=>(WR h).1
theorem jW : ∀ {l:List Block} {i:Nat} {ds d:List Def},putBlocks i ds l=some d → ∀ (j:Nat) (b:Block),l[j]? = some b → ∀ v∈b.params,dAt d v=⟨true,((i+j:Nat):Int), -1⟩
 | [],i,ds,d,h=>by simp
 | b::l,i,ds,d,h=>by
  simp only [putBlocks] at h
  obtain ⟨d2,h1,h2⟩:=Option.bind_eq_some_iff.1 h
  obtain ⟨d1,h3,h4⟩:=Option.bind_eq_some_iff.1 h1
  obtain ⟨p1,q1⟩:=Kx h3
  obtain ⟨p2,_⟩:=Jo h4
  obtain ⟨p3,_⟩:=Js h2
  intro j y hj v hv
  cases j with
  | zero =>
   simp only [List.getElem?_cons_zero,Option.some.injEq] at hj
   subst hj
   have n2:v∉zz b.code:=fun hm=>by
    have:=p2.new v hm
    rw [p1.made v hv] at this; cases this
   have e2:dAt d2 v=dAt d1 v:=p2.keep v (p1.pos v hv) n2
   have n3:v∉allL l:=fun hm=>by
    have:=p3.new v hm
    rw [e2,p1.made v hv] at this; cases this
   rw [p3.keep v (p1.pos v hv) n3,e2,q1 v hv]; simp
  | succ j =>
   have:=jW h2 j y (by simpa using hj) v hv
   rw [this]; congr 2; omega
theorem YT {α:Type} {p q:α→α→Bool} : ∀ {l m:List α},(∀ x∈l, ∀ y,p x y=true→q x y=true)→Go.Vw.eqF p l m=true→Go.Vw.eqF q l m=true
 | [],[],_,_=>rfl
 | [],_::_,_,h=>by simp [Go.Vw.eqF] at h
 | _::_,[],_,h=>by simp [Go.Vw.eqF] at h
 | a::l,b::m,hp,h=>by
  simp only [Go.Vw.eqF,Bool.and_eq_true] at h ⊢
  exact ⟨hp a (by simp) b h.1,YT (fun x hx=>hp x (by simp [hx])) h.2⟩
end Ss

namespace Ss
theorem total_one {e:Env} {op n out:Int} (h:total op=true) : ∃ t,(form e op n out).outs=[t]:=by
 have h1:op≠258:=fun e=>by subst e; revert h; decide
 have h2:op≠16:=fun e=>by subst e; revert h; decide
 have h3:op≠35:=fun e=>by subst e; revert h; decide
 have h4:op≠36:=fun e=>by subst e; revert h; decide
 have h5:op≠256:=fun e=>by subst e; revert h; decide
 have h6:op≠27:=fun e=>by subst e; revert h; decide
 have e0:form e op n out=formNum e op:=by simp [form,h1,h2,h3,h4,h5,h6]
 rw [e0]
 unfold total at h
 unfold formNum numSig
 cases hf:find op with
 | none=>rw [hf] at h; simp at h
 | some g=>exact ⟨_,rfl⟩
theorem pure_one {e:Env} {op n out:Int} (h:pure op=true) : ∃ t,(form e op n out).outs=[t]:=by
 simp only [pure,Bool.or_eq_true,decide_eq_true_eq] at h
 rcases h with (rfl | rfl) | h
 ·by_cases ho:out=127<;>simp [form,ho]
 ·simp [form]
 ·exact total_one h
theorem jbT {ts:List Int} {ds:List Def} {near:List Int} {block pos:Int} {l types:List Int} (h:asks ts ds near block pos l types=true) {v:Int} (hv:v∈l):InR ds.length v:=by
 obtain ⟨t,ht⟩:=jbK h v hv
 simp only [askOk,Bool.and_eq_true,decide_eq_true_eq] at ht
 exact ⟨ht.1.1.1.1,ht.1.1.1.2⟩
theorem check_dok {e:Env} {f:Fn} (h:check e f=true):DOk f:=by
 obtain ⟨hh,ds,hds,hsh,hB⟩:=qY h
 obtain ⟨hlen,hin⟩:=defs_in hds
 obtain ⟨hnd,hmade,hat⟩:=zM hds
 have hpar:=jW hds
 have hr:Go.Vw.G.right (succs f.blocks)=true:=by
  simp only [shapeOk,Bool.and_eq_true] at hsh
  exact hsh.1.1.1.1
 have hto:=right_to hr
 have hblk : ∀ b∈f.blocks, ∃ j:Nat,f.blocks[j]? = some b∧checkCode e f ds (Go.Vw.G.nearI (succs f.blocks)) (j:Int) 0 b.code=true∧termOk f ds (Go.Vw.G.nearI (succs f.blocks)) (j:Int) b=true:=fun b hb=>by
  obtain ⟨j,hj⟩:=List.mem_iff_getElem?.1 hb
  have:=qD hB hj
  rw [Nat.zero_add] at this
  exact ⟨j,hj,this⟩
 have hins : ∀ b∈f.blocks, ∀ x∈b.code, ∃ j k:Nat,f.blocks[j]? = some b∧b.code[k]? = some x∧insOk e f ds (Go.Vw.G.nearI (succs f.blocks)) (j:Int) (k:Int) x=true:=fun b hb x hx=>by
  obtain ⟨j,hj,hc,_⟩:=hblk b hb
  obtain ⟨k,hk⟩:=List.mem_iff_getElem?.1 hx
  have:=zk hc hk
  rw [Nat.zero_add] at this
  exact ⟨j,k,hj,hk,this⟩
 have hterm : ∀ b∈f.blocks, ∃ (j:Int) (le mo:Nat) (rs:List Int),termTail f ds (Go.Vw.G.nearI (succs f.blocks)) j b.code.length b.term le mo rs=true:=fun b hb=>by
  obtain ⟨j,hj,_,ht⟩:=hblk b hb
  unfold termOk at ht
  split at ht
  ·exact ⟨_,_,_,_,ht⟩
  ·cases ht
 have hone : ∀ b∈f.blocks, ∀ x∈b.code,pure x.op=true → ∃ o,x.outs=[o]:=fun b hb x hx hp=>by
  obtain ⟨j,k,_,_,hi⟩:=hins b hb x hx
  simp only [insOk,Bool.and_eq_true,decide_eq_true_eq] at hi
  obtain ⟨t,ht⟩:=pure_one (e:=e) (n:=x.n) (out:=insOut f.types x) hp
  have h1:=hi.1.2
  rw [ht] at h1
  have h2:=congrArg List.length h1
  simp only [typesOf,List.length_map,List.length_singleton] at h2
  exact List.length_eq_one_iff.1 h2
 refine ⟨fun hb => ?_,fun b hb x hx v hv=>(hin b hb).2 x hx v hv,hone,fun b hb x hx v hv => ?_,fun b hb v hv=>(hin b hb).1 v hv,fun b hb v hv => ?_,fun b hb hk => ?_,fun b hb x hx v hv => ?_,fun b hb x hx => ?_,fun b hb c hc x hx y hy hp hq he => ?_,fun b hb c hc p hp y hy hm => ?_⟩
 ·simp only [shapeOk,Bool.and_eq_true] at hsh
  have:=hsh.2
  rw [hb] at this
  cases this
 ·obtain ⟨j,k,_,_,hi⟩:=hins b hb x hx
  have:=jbT (insOk_asks hi) hv
  rwa [hlen] at this
 ·obtain ⟨j,le,mo,rs,ht⟩:=hterm b hb
  simp only [termTail,Bool.and_eq_true] at ht
  have:=jbT ht.1.2 hv
  rwa [hlen] at this
 ·obtain ⟨j,le,mo,rs,ht⟩:=hterm b hb
  simp only [termTail,Bool.and_eq_true] at ht
  have h1:=ht.1.1.1.1
  rw [if_pos hk] at h1
  have:=jbT h1 (v:=b.term.arg) (by simp)
  rwa [hlen] at this
 ·obtain ⟨j,le,mo,rs,ht⟩:=hterm b hb
  simp only [termTail,Bool.and_eq_true,List.all_eq_true] at ht
  have h1:=ht.2 x hx
  simp only [edgeOk,Bool.and_eq_true] at h1
  have:=jbT h1.2 hv
  rwa [hlen] at this
 ·obtain ⟨j,le,mo,rs,ht⟩:=hterm b hb
  simp only [termTail,Bool.and_eq_true,List.all_eq_true] at ht
  have h1:=ht.2 x hx
  simp only [edgeOk,Bool.and_eq_true] at h1
  have h2:=eqF_len h1.2
  simp only [typesOf,List.length_map] at h2
  exact ⟨(hto b hb x hx).1,(hto b hb x hx).2,h2⟩
 ·obtain ⟨o,ho⟩:=hone b hb x hx hp
  obtain ⟨j,k,hj,hk,_⟩:=hins b hb x hx
  obtain ⟨j',k',hj',hk',_⟩:=hins c hc y hy
  have a1:=hat j b hj k x hk o (by simp [ho])
  have a2:=hat j' c hj' k' y hk' o (by simp [←he,ho])
  rw [a1] at a2
  simp only [Def.mk.injEq,true_and] at a2
  have e1:j=j':=by omega
  have e2:k=k':=by omega
  subst e1
  subst e2
  rw [hj] at hj'
  cases hj'
  rw [hk] at hk'
  cases hk'
  rfl
 ·obtain ⟨j,hj⟩:=List.mem_iff_getElem?.1 hb
  obtain ⟨j',k',hj',hk',_⟩:=hins c hc y hy
  have a1:=hpar j b hj p hp
  have a2:=hat j' c hj' k' y hk' p hm
  rw [a1] at a2
  simp only [Def.mk.injEq,true_and] at a2
  omega
end Ss

namespace Ss
def dNeed (f:Fn):List Bool:=dfs (askTab f) (f.types.length+1) (List.replicate f.types.length false) (roots f)
def dKeep (need:List Bool) (x:Ins):Bool := !pure x.op||on need (x.outs.getD 0 0)
def dEdge (need:List Bool) (bs:List Block) (e:Edge):Edge:=⟨e.to,(((bs.getD e.to.toNat default).params.zip e.args).filter fun q=>on need q.1).map Prod.snd⟩
def dBlock (need:List Bool) (bs:List Block) (b:Block):Block:=⟨b.params.filter (on need),b.code.filter (dKeep need),⟨b.term.kind,b.term.arg,b.term.to.map (dEdge need bs),b.term.args⟩⟩
def dceF (f:Fn):Fn:=⟨f.sig,f.types,f.blocks.map (dBlock (dNeed f) f.blocks)⟩
def dceOut (e:Env) (f:Fn):Fn × Int:=if check e f then (dceF f,0) else (⟨⟨[],[]⟩,[],[]⟩,6)
end Ss

namespace Go.Vw
open Go.Proofs Go.RowKit
set_option maxRecDepth 10000
set_option maxHeartbeats 4000000
theorem succs_fits {f:Ss.Fn} (hf:f.Fits):Fits (Ss.succs f.blocks):=by
 refine ⟨by rw [Ss.succs,List.length_map]; have:=hf.2.2.1; omega,fun l hl => ?_⟩
 obtain ⟨b,hb,rfl⟩:=List.mem_map.1 hl
 have:=(hf.2.2.2 b hb).2.2.2.2.1.1
 rw [Ss.rowOf,List.length_map]; omega
def vToInt:V→Int
 | .int _ n=>n
 | _=>0
def insOf (S:Store):List V→Ss.Ins
 | [.int _ op, .int _ n, .slice oa _ _,_]=>⟨op,n,((S.get oa).getD (0,[])).2.map vToInt,[]⟩
 | _=>default
structure RunInv (S:Store) (p4 pg pr pm pf ot ob:Nat) (hd:List V) (ts near:List Int) (bs:List Ss.Block) (M:Ss.Far) (T:Store) (rs:List (List V)) (ids:List Nat):Prop where
 old:Agree S T
 c4:T.get p4=some (4,[V.nils,V.nils,V.nils,V.nils])
 cg:T.get pg=some (4,hd)
 cr:T.get pr=some (1,[vl vint near])
 cm:T.get pm=some (0,encFar M)
 cf:T.get pf=some (1,[.map pm])
 ct:T.get ot=some (1,ts.map vint)
 cb:T.get ob=some (6,rs.flatten)
 own:Rows T blkD jd bs rs ids
 nd:(p4::pg::pr::pf::pm::ot::ob::ids).Nodup
 lt : ∀ o∈p4::pg::pr::pf::pm::ot::ob::ids,S.nx≤o
 fits : ∀ b∈bs, ∀ x∈b.code,x.Fits∧(x.op=257→x.args≠[]∧x.n≤8589934592)
 len : ∀ b∈bs,b.code.length<2^62
end Go.Vw

namespace Ss
def NewX (ts ps:List Int) (x:Ins):Prop:=x=⟨256,9,[],[(ts.length:Int)]⟩ ∨ ∃ p∈ps,0≤p∧p<ts.length∧ts.getD p.toNat 0=126∧x=⟨124,0,[p,p],[(ts.length:Int)]⟩
theorem NewX.op {ts ps:List Int} {x:Ins} (h:NewX ts ps x):x.op≠258∧x.outs=[(ts.length:Int)]∧x.args.length≤2:=by
 rcases h with rfl | ⟨p,_,_,_,_,rfl⟩<;>simp
theorem KI {e:Env} {f:Fn} {ds:List Def} {near:List Int} : ∀ {l:List Block} {i:Nat},(∀ (j:Nat) (b:Block),l[j]? = some b→checkCode e f ds near ((i+j:Nat):Int) 0 b.code=true∧termOk f ds near ((i+j:Nat):Int) b=true)→checkBlocks e f ds near i l=true
 | [],i,_=>rfl
 | b::l,i,h=>by
  simp only [checkBlocks,Bool.and_eq_true]
  refine ⟨h 0 b rfl,KI fun j y hy => ?_⟩
  have:=h (j+1) y (by simpa using hy)
  rw [show i+1+j=i+(j+1) by omega]; exact this
end Ss

namespace Go.Vw
open Go.Proofs Go.RowKit
set_option maxRecDepth 10000
set_option maxHeartbeats 2000000
end Go.Vw
