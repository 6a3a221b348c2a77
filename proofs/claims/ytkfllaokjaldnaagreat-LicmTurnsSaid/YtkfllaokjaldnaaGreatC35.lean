import Derived.Test.YtkfllaokjaldnaaGreatC24
import Derived.Test.YtkfllaokjaldnaaGreatC26
import Derived.Test.YtkfllaokjaldnaaGreatC34
/-
  Part of the proof (texts LPlain, GLoop, GHead, LDom, LMove).
-/
set_option linter.unusedVariables false
set_option linter.unusedSimpArgs false
namespace Ss
def scanRow (head:Int) (i:Nat) (l:List Int) (st:Int × Nat):Int × Nat:=l.foldl (fun st to=>if to=head then ((i:Int),st.2+1) else st) st
def scanG (head:Int) (nodes:List Int):Nat→List (List Int)→Int × Nat→Int × Nat
 | _,[],st=>st
 | i,l::r,st=>scanG head nodes (i+1) r (if (i:Int)∈nodes then st else scanRow head i l st)
def porch (bs:List Block) (head:Int) (nodes:List Int):Option Int :=
 if (scanG head nodes 0 (succs bs) (0,0)).2≠1∨(bs.getD (scanG head nodes 0 (succs bs) (0,0)).1.toNat default).term.kind≠1 then none else some (scanG head nodes 0 (succs bs) (0,0)).1
theorem jbi (head:Int) (i:Nat) : ∀ (l:List Int) (st:Int × Nat),scanRow head i l st=if l.count head=0 then st else ((i:Int),st.2+l.count head)
 | [],st=>by simp [scanRow]
 | a::l,st=>by
  have ih:=jbi head i l;unfold scanRow at ih ⊢;rw [List.foldl_cons,ih]
  by_cases e:a=head
  ·subst e;simp only [if_true,List.count_cons_self,Nat.add_eq_zero_iff,Nat.one_ne_zero,and_false,if_false];split
   ·rename_i h0; rw [h0]
   ·exact Prod.ext rfl (by show st.2+1+List.count a l=st.2+(List.count a l+1); omega)
  ·rw [if_neg e,List.count_cons_of_ne (by simpa using e)]
theorem scan_spec (head:Int) (nodes:List Int) : ∀ (rows:List (List Int)) (i:Nat) (st:Int × Nat),st.2≤(scanG head nodes i rows st).2 ∧
  ((scanG head nodes i rows st).2=st.2→scanG head nodes i rows st=st ∧ ∀ (j:Nat) l,rows[j]? = some l→((i+j:Nat):Int)∉nodes→head∉l) ∧
  ((scanG head nodes i rows st).2=st.2+1 → ∃ (j:Nat) (l:List Int),rows[j]? = some l∧((i+j:Nat):Int)∉nodes∧head∈l∧(scanG head nodes i rows st).1=((i+j:Nat):Int) ∧ ∀ (j':Nat) l',rows[j']? = some l'→((i+j':Nat):Int)∉nodes→head∈l'→j'=j)
 | [],i,st=>⟨Nat.le_refl _,fun _=>⟨rfl,by simp⟩,fun h=>by simp [scanG] at h⟩
 | l::r,i,st=>by
  have hsh : ∀ j:Nat,i+1+j=i+(j+1):=fun j=>by omega
  rw [scanG]
  by_cases hn:(i:Int)∈nodes
  ·rw [if_pos hn];obtain ⟨h1,h2,h3⟩:=scan_spec head nodes r (i+1) st;refine ⟨h1,fun h => ?_,fun h => ?_⟩
   ·obtain ⟨e,k⟩:=h2 h;refine ⟨e,fun j m hm hj => ?_⟩
    cases j with
    | zero=>exact absurd hn (by simpa using hj)
    | succ j=>exact k j m (by simpa using hm) (by rw [hsh]; exact hj)
   ·obtain ⟨j,m,a1,a2,a3,a4,a5⟩:=h3 h;refine ⟨j+1,m,by simpa using a1,by rw [←hsh]; exact a2,a3,by rw [a4,hsh],fun j' l' b1 b2 b3 => ?_⟩
    cases j' with
    | zero=>exact absurd hn (by simpa using b2)
    | succ j'=>rw [a5 j' l' (by simpa using b1) (by rw [hsh]; exact b2) b3]
  ·rw [if_neg hn];obtain ⟨h1,h2,h3⟩:=scan_spec head nodes r (i+1) (scanRow head i l st);have e:=jbi head i l st
   by_cases h0:l.count head=0
   ·rw [if_pos h0] at e;rw [e] at h1 h2 h3 ⊢;have hnl:head∉l:=List.count_eq_zero.1 h0;refine ⟨h1,fun h => ?_,fun h => ?_⟩
    ·obtain ⟨e,k⟩:=h2 h;refine ⟨e,fun j m hm hj => ?_⟩
     cases j with
     | zero=>simp only [List.getElem?_cons_zero,Option.some.injEq] at hm; subst hm; exact hnl
     | succ j=>exact k j m (by simpa using hm) (by rw [hsh]; exact hj)
    ·obtain ⟨j,m,a1,a2,a3,a4,a5⟩:=h3 h;refine ⟨j+1,m,by simpa using a1,by rw [←hsh]; exact a2,a3,by rw [a4,hsh],fun j' l' b1 b2 b3 => ?_⟩
     cases j' with
     | zero=>simp only [List.getElem?_cons_zero,Option.some.injEq] at b1; subst b1; exact absurd b3 hnl
     | succ j'=>rw [a5 j' l' (by simpa using b1) (by rw [hsh]; exact b2) b3]
   ·rw [if_neg h0] at e;rw [e] at h1 h2 h3 ⊢;simp only at h1 h2 h3 ⊢;have hin:head∈l:=List.count_pos_iff.1 (by omega);refine ⟨by omega,fun h=>by omega,fun h => ?_⟩;obtain ⟨e2,k⟩:=h2 (by omega);refine ⟨0,l,rfl,by simpa using hn,hin,by rw [e2]; simp,fun j' l' b1 b2 b3 => ?_⟩
    cases j' with
    | zero=>rfl
    | succ j'=>exact absurd b3 (k j' l' (by simpa using b1) (by rw [hsh]; exact b2))
theorem porch_spec {bs:List Block} {head p:Int} {nodes:List Int} (h:porch bs head nodes=some p) : ∃ (i:Nat) (b:Block),p=i∧bs[i]? = some b∧b.term.kind=1∧(i:Int)∉nodes∧head∈rowOf b ∧ ∀ (j:Nat) (c:Block),bs[j]? = some c→(j:Int)∉nodes→head∈rowOf c→j=i:=by
 unfold porch at h;split at h
 ·cases h
 ·rename_i hc;have h2:(scanG head nodes 0 (succs bs) (0,0)).2=1:=by
   by_cases e:(scanG head nodes 0 (succs bs) (0,0)).2=1
   ·exact e
   ·exact absurd (.inl e) hc
  have h3:(bs.getD (scanG head nodes 0 (succs bs) (0,0)).1.toNat default).term.kind=1:=by
   by_cases e:(bs.getD (scanG head nodes 0 (succs bs) (0,0)).1.toNat default).term.kind=1
   ·exact e
   ·exact absurd (.inr e) hc
  obtain ⟨j,l,a1,a2,a3,a4,a5⟩:=(scan_spec head nodes (succs bs) 0 (0,0)).2.2 h2;rw [Nat.zero_add] at a2 a4
  cases h
  rw [a4] at h3 ⊢;rw [Int.toNat_natCast] at h3;simp only [succs,List.getElem?_map,Option.map_eq_some_iff] at a1;obtain ⟨b,hb,rfl⟩:=a1;refine ⟨j,b,rfl,hb, ?_,a2,a3,fun j' c hc' hj' hh=>a5 j' (rowOf c) (by simp [succs,hc']) (by rw [Nat.zero_add]; exact hj') hh⟩;rw [List.getD_eq_getElem?_getD,hb] at h3;exact h3
end Ss

/-
 The nodes of a loop, found from a list of nodes to do.
-/
namespace Go.Vw.G
open Go.Vw
inductive Bk (fr:List (List Nat)) (h:Nat) (ts:List Nat):Nat→Prop
 | start {n:Nat} (hn:n∈ts):Bk fr h ts n
 | step {n p:Nat} (hb:Bk fr h ts n) (hn:n≠h) (hp:p∈fr.getD n []):Bk fr h ts p
structure Srch (fr:List (List Nat)) (h:Nat) (ts:List Nat) (N:Nat) (inn:List Bool) (todo:List Nat):Prop where
 len:inn.length=N
 head:inn.getD h false=true
 sound : ∀ n,inn.getD n false=true→n=h∨Bk fr h ts n
 work : ∀ t∈todo,Bk fr h ts t
 closed : ∀ n,inn.getD n false=true→n≠h → ∀ p∈fr.getD n [],inn.getD p false=true∨p∈todo
 all : ∀ t∈ts,inn.getD t false=true∨t∈todo
 lt : ∀ t∈todo,t<N
theorem Srch.start {fr:List (List Nat)} {h:Nat} {ts:List Nat} {N:Nat} (hh:h<N) (ht : ∀ t∈ts,t<N):Srch fr h ts N ((List.replicate N false).set h true) ts:=by
 have hl:h<(List.replicate N false).length:=by simpa using hh
 have hset : ∀ n,((List.replicate N false).set h true).getD n false=true↔n=h:=by
  intro n;have:=jck hl n;unfold Met at this;rw [this];constructor
  ·rintro (h1 | h1)
   ·exact h1
   ·rw [rep_getD] at h1; cases h1
  ·exact .inl
 refine ⟨by simp,(hset h).2 rfl,fun n hn => .inl ((hset n).1 hn),fun t h1 => .start h1,fun n hn hne=>absurd ((hset n).1 hn) hne,fun t h1 => .inr h1,ht⟩
section
variable {fr:List (List Nat)} {h:Nat} {ts:List Nat} {N:Nat} {inn:List Bool} {n:Nat}
theorem Srch.seen {todo todo':List Nat} (hS:Srch fr h ts N inn todo) (hn:inn.getD n false=true) (hsub : ∀ t∈todo',t∈todo) (hre : ∀ t∈todo,t=n∨t∈todo'):Srch fr h ts N inn todo':=by
 refine ⟨hS.len,hS.head,hS.sound,fun t ht=>hS.work t (hsub t ht),fun m hm hne p hp => ?_,fun t ht => ?_,fun t ht=>hS.lt t (hsub t ht)⟩
 ·rcases hS.closed m hm hne p hp with h1 | h1
  ·exact .inl h1
  ·rcases hre p h1 with h2 | h2
   ·subst h2; exact .inl hn
   ·exact .inr h2
 ·rcases hS.all t ht with h1 | h1
  ·exact .inl h1
  ·rcases hre t h1 with h2 | h2
   ·subst h2; exact .inl hn
   ·exact .inr h2
theorem Srch.take {todo todo':List Nat} (hS:Srch fr h ts N inn todo) (hn:n∈todo) (hfl : ∀ p∈fr.getD n [],p<N) (hni:inn.getD n false=false) (hsub : ∀ t∈todo',t∈todo∨t∈fr.getD n []) (hre : ∀ t∈todo,t=n∨t∈todo') (hfr : ∀ t∈fr.getD n [],t∈todo'):Srch fr h ts N (inn.set n true) todo':=by
 have hnl:n<inn.length:=by rw [hS.len]; exact hS.lt n hn
 have hset : ∀ m,(inn.set n true).getD m false=true↔m=n∨inn.getD m false=true:=fun m=>jck hnl m
 have hnh:n≠h:=by intro e; subst e; rw [hS.head] at hni; cases hni
 refine ⟨by simpa using hS.len,(hset h).2 (.inr hS.head),fun m hm => ?_,fun t ht => ?_,fun m hm hne p hp => ?_,fun t ht => ?_,fun t ht => ?_⟩
 ·rcases (hset m).1 hm with e | h1
  ·subst e; exact .inr (hS.work m hn)
  ·exact hS.sound m h1
 ·rcases hsub t ht with h1 | h1
  ·exact hS.work t h1
  ·exact .step (hS.work n hn) hnh h1
 ·rcases (hset m).1 hm with e | h1
  ·subst e; exact .inr (hfr p hp)
  ·rcases hS.closed m h1 hne p hp with h2 | h2
   ·exact .inl ((hset p).2 (.inr h2))
   ·rcases hre p h2 with h3 | h3
    ·exact .inl ((hset p).2 (.inl h3))
    ·exact .inr h3
 ·rcases hS.all t ht with h1 | h1
  ·exact .inl ((hset t).2 (.inr h1))
  ·rcases hre t h1 with h3 | h3
   ·exact .inl ((hset t).2 (.inl h3))
   ·exact .inr h3
 ·rcases hsub t ht with h1 | h1
  ·exact hS.lt t h1
  ·exact hfl t h1
theorem Srch.done (hS:Srch fr h ts N inn []) (n:Nat):inn.getD n false=true↔n=h∨Bk fr h ts n:=by
 refine ⟨hS.sound n, ?_⟩;rintro (e | hb)
 ·subst e; exact hS.head
 ·induction hb with
  | start hn =>
   rcases hS.all _ hn with h1 | h1
   ·exact h1
   ·simp at h1
  | step _ hne hp ih =>
   rcases hS.closed _ ih hne _ hp with h1 | h1
   ·exact h1
   ·simp at h1
end
def picked (inn:List Bool):Nat→List Nat
 | 0=>[]
 | k+1=>if inn.getD k false then picked inn k++[k] else picked inn k
theorem picked_len (inn:List Bool) : ∀ k,(picked inn k).length≤k
 | 0=>Nat.le_refl _
 | k+1=>by have:=picked_len inn k; simp only [picked]; split<;>simp<;>omega
open Classical in
/-- Whether each node is of a loop. -/
noncomputable def loopIn (fr:List (List Nat)) (h:Nat) (ts:List Nat) (N:Nat):List Bool:=(List.range N).map fun n=>decide (n=h∨Bk fr h ts n)
theorem loopIn_eq {fr:List (List Nat)} {h:Nat} {ts:List Nat} {N:Nat} {inn:List Bool} (hS:Srch fr h ts N inn []):inn=loopIn fr h ts N:=by
 refine List.ext_getElem (by simp [loopIn,hS.len]) fun i h1 h2 => ?_
 have:=hS.done i;have e:inn.getD i false=inn[i]:=by simp [h1]
 rw [e] at this;simp only [loopIn,List.getElem_map,List.getElem_range]
 cases hx:inn[i] with
 | false=>rw [hx] at this; simp only [Bool.false_eq_true,false_iff] at this; simp [this]
 | true=>rw [hx] at this; simp only [true_iff] at this; simp [this]
def backs (near:List Int) (h:Nat) (row:List Nat):List Nat:=row.filter fun p=>dominates near h p
noncomputable def loopsTo (near:List Int) (fr:List (List Nat)) (N:Nat):Nat→List (Nat × List Nat)
 | 0=>[]
 | h+1=>if (0<h∧near.getD h 0<0)∨backs near h (fr.getD h [])=[] then loopsTo near fr N h
  else loopsTo near fr N h++[(h,picked (loopIn fr h (backs near h (fr.getD h [])) N) N)]
theorem loopsTo_len (near:List Int) (fr:List (List Nat)) (N:Nat) : ∀ k,(loopsTo near fr N k).length≤k
 | 0=>Nat.le_refl _
 | k+1=>by have:=loopsTo_len near fr N k; simp only [loopsTo]; split<;>simp<;>omega
def rbacks (t:List (List Bool)) (h:Nat) (row:List Nat):List Nat:=row.filter fun p=>tabAt t h p
noncomputable def rloopsTo (t:List (List Bool)) (fr:List (List Nat)) (N:Nat):Nat→List (Nat × List Nat)
 | 0=>[]
 | h+1=>if rbacks t h (fr.getD h [])=[] then rloopsTo t fr N h
  else rloopsTo t fr N h++[(h,picked (loopIn fr h (rbacks t h (fr.getD h [])) N) N)]
theorem rloopsTo_len (t:List (List Bool)) (fr:List (List Nat)) (N:Nat) : ∀ k,(rloopsTo t fr N k).length≤k
 | 0=>Nat.le_refl _
 | k+1=>by have:=rloopsTo_len t fr N k; simp only [rloopsTo]; split<;>simp<;>omega
theorem backs_eq {g:List (List Nat)} (hg:Ok g) {h:Nat} (hh:h∈order g) (row:List Nat) (hr : ∀ p∈row,p<g.length):rbacks (table g) h row=backs (rNear g) h row:=by
 refine List.filter_congr fun p hp => ?_
 have h1:=JJ hg h p;have h2:=zx hg (rNear_ok hg) ((order_ok hg).lt h hh) (hr p hp);rw [Bool.eq_iff_iff,h1,h2];constructor
 ·exact .inl
 ·rintro (h | h)
  ·exact h
  ·subst h; exact ⟨hh,hh,Dom.self _⟩
theorem backs_none {g:List (List Nat)} (hg:Ok g) {h:Nat} (hh:h∉order g) (row:List Nat):rbacks (table g) h row=[]:=by
 rw [rbacks,List.filter_eq_nil_iff];intro p _ hp;exact hh ((JJ hg h p).1 hp).1
theorem loops_eq {g:List (List Nat)} (hg:Ok g) : ∀ k,k≤g.length→rloopsTo (table g) (froms g) g.length k=loopsTo (rNear g) (froms g) g.length k
 | 0,_=>rfl
 | h+1,hk=>by
  have ih:=loops_eq hg h (by omega);have hN:=rNear_ok hg;simp only [rloopsTo,loopsTo,ih]
  by_cases hh:h∈order g
  ·have hr : ∀ p∈(froms g).getD h [],p<g.length:=fun p hp=>((mem_froms hg h p (by omega)).1 hp).1
   rw [backs_eq hg hh _ hr];have hno : ¬ (0<h∧(rNear g).getD h 0<0):=by
    rintro ⟨h0,hn⟩;obtain ⟨p,e,_⟩:=hN.near h hh (by omega);have:nd (rNear g) h<0:=hn;omega
   by_cases he:backs (rNear g) h ((froms g).getD h [])=[]
   ·rw [if_pos he,if_pos (.inr he)]
   ·rw [if_neg he,if_neg (by rintro (h1 | h1); exact hno h1; exact he h1)]
  ·rw [if_pos (backs_none hg hh _)];have h0:0<h:=by
    rcases Nat.eq_zero_or_pos h with e | e
    ·subst e; exact absurd (Wt (order_ok hg)) hh
    ·exact e
   have hn:(rNear g).getD h 0<0:=by
    have:=hN.out h (by omega) hh;have e:(rNear g).getD h 0=nd (rNear g) h:=rfl;omega
   rw [if_pos (.inl ⟨h0,hn⟩)]
def todoM (M:Nat) (inn:List Bool) (todo:List Nat):Nat:=unmet inn*(M+1)+todo.length
theorem todoM_take {M:Nat} {inn:List Bool} {n:Nat} {todo todo':List Nat} {k:Nat} (hn:n<inn.length) (hf:inn[n]=false) (hk:k≤M) (hl:todo'.length+1=todo.length+k):todoM M (inn.set n true) todo'<todoM M inn todo:=by
 have:=unmet_set hn hf;simp only [todoM, ←this,Nat.add_mul,Nat.one_mul];omega
end Go.Vw.G

/-
 What is so of each loop: its head dominates its nodes that are reached, and they come from its nodes alone.
-/
namespace Go.Vw.G
open Go.Vw
theorem jbt (inn:List Bool) (n:Nat) : ∀ k,n∈picked inn k↔n<k∧inn.getD n false=true
 | 0=>by simp [picked]
 | k+1=>by
  have ih:=jbt inn n k;simp only [picked];split
  ·rename_i h;rw [List.mem_append,ih];simp only [List.mem_singleton];constructor
   ·rintro (⟨h1,h2⟩ | h1)
    ·exact ⟨by omega,h2⟩
    ·subst h1; exact ⟨by omega,h⟩
   ·rintro ⟨h1,h2⟩
    by_cases e:n=k
    ·exact .inr e
    ·exact .inl ⟨by omega,h2⟩
  ·rename_i h;rw [ih];constructor
   ·rintro ⟨h1,h2⟩; exact ⟨by omega,h2⟩
   ·rintro ⟨h1,h2⟩;refine ⟨?_,h2⟩
    by_cases e:n=k
    ·subst e; exact absurd h2 h
    ·omega
theorem jbu {fr:List (List Nat)} {h:Nat} {ts:List Nat} {N n:Nat} (hn:n<N):(loopIn fr h ts N).getD n false=true↔n=h∨Bk fr h ts n:=by
 classical
 have e:(loopIn fr h ts N).getD n false=true↔(n=h∨Bk fr h ts n):=by simp [loopIn,hn]
 exact e
theorem Bk.lt {g:List (List Nat)} (hg:Ok g) {h:Nat} {ts:List Nat} (hts : ∀ t∈ts,t<g.length) {n:Nat} (hb:Bk (froms g) h ts n):n<g.length:=by
 induction hb with
 | start hn=>exact hts _ hn
 | step hb hne hp ih=>exact ((mem_froms hg _ _ ih).1 hp).1
theorem Bk.dom {g:List (List Nat)} (hg:Ok g) {h:Nat} {ts:List Nat} (hts : ∀ t∈ts,t<g.length) (htd : ∀ t∈ts,Dom g (order g) h t) {n:Nat} (hb:Bk (froms g) h ts n) (hn:n∈order g):Dom g (order g) h n:=by
 induction hb with
 | start ht=>exact htd _ ht
 | @step n p hb hne hp ih =>
  have hl:=Bk.lt hg hts hb;have hp':=(mem_froms hg n p hl).1 hp;have ho:=order_ok hg;have hno:n∈order g:=(ho.mem n).2 (From.step ((ho.mem p).1 hn) hp'.2 (qg _ _));exact (ih hno).pred (Ne.symm hne) hp'.2
structure HeadOk (g:List (List Nat)) (x:Nat × List Nat):Prop where
 lt:x.1<g.length
 head:x.1∈x.2
 nodes : ∀ n∈x.2,n<g.length
 dom : ∀ n∈x.2,(without g none).getD n false=true→dominates (rNear g) (x.1:Int) (n:Int)=true
 pred : ∀ n∈x.2,n≠x.1 → ∀ p∈(froms g).getD n [],p∈x.2
theorem heads {g:List (List Nat)} (hg:Ok g) : ∀ k,k≤g.length → ∀ x∈loopsTo (rNear g) (froms g) g.length k,HeadOk g x
 | 0,_,x,hx=>by simp [loopsTo] at hx
 | h+1,hk,x,hx=>by
  have ih:=heads hg h (by omega);simp only [loopsTo] at hx;split at hx
  ·exact ih x hx
  ·rename_i hc;rcases List.mem_append.1 hx with hx | hx
   ·exact ih x hx
   ·have hN:=rNear_ok hg;have ho:=order_ok hg;have hh:h∈order g:=by
     by_cases hh:h∈order g
     ·exact hh
     ·refine absurd (.inl ⟨?_, ?_⟩) hc
      ·rcases Nat.eq_zero_or_pos h with e | e
       ·subst e; exact absurd (Wt ho) hh
       ·exact e
      ·have:=hN.out h (by omega) hh;have e:(rNear g).getD h 0=nd (rNear g) h:=rfl;omega
    have hrow : ∀ p∈(froms g).getD h [],p<g.length:=fun p hp=>((mem_froms hg h p (by omega)).1 hp).1
    have hts : ∀ t∈backs (rNear g) h ((froms g).getD h []),t<g.length:=fun t ht=>hrow t (List.mem_filter.1 ht).1
    have htd : ∀ t∈backs (rNear g) h ((froms g).getD h []),Dom g (order g) h t:=by
     intro t ht;have h1:=(List.mem_filter.1 ht).2;rcases (zx hg hN (by omega) (hts t ht)).1 h1 with h2 | h2
     ·exact h2.2.2
     ·subst h2; exact Dom.self _
    rw [List.mem_singleton] at hx;subst hx;generalize backs (rNear g) h ((froms g).getD h [])=ts at *
    have hmem : ∀ n,n∈picked (loopIn (froms g) h ts g.length) g.length↔n<g.length∧(n=h∨Bk (froms g) h ts n):=by
     intro n;rw [jbt];constructor
     ·rintro ⟨h1,h2⟩; exact ⟨h1,(jbu h1).1 h2⟩
     ·rintro ⟨h1,h2⟩; exact ⟨h1,(jbu h1).2 h2⟩
    refine ⟨by show h<g.length; omega,(hmem h).2 ⟨by omega, .inl rfl⟩,fun n hn=>((hmem n).1 hn).1, ?_, ?_⟩
    ·intro n hn hm;obtain ⟨h1,h2⟩:=(hmem n).1 hn;have hno:=(without_none hg n).1 hm;refine (zx hg hN (by show h<g.length; omega) h1).2 ?_;rcases h2 with e | hb
     ·exact .inr e.symm
     ·exact .inl ⟨hh,hno,Bk.dom hg hts htd hb hno⟩
    ·intro n hn hne p hp;obtain ⟨h1,h2⟩:=(hmem n).1 hn;rcases h2 with e | hb
     ·exact absurd e hne
     ·exact (hmem p).2 ⟨((mem_froms hg n p h1).1 hp).1, .inr (.step hb hne hp)⟩
end Go.Vw.G

namespace Go.Vw.G
open Go.Vw
section
variable {g:List (List Nat)} {l:List Nat} {hd p:Nat} {nodes:List Nat}
theorem porch_dom (hpred : ∀ n∈nodes,n≠hd → ∀ q,n∈g.getD q []→q∈nodes) (hp : ∀ j,j∉nodes→hd∈g.getD j []→j=p) (h0:0∉nodes) : ∀ n∈nodes,Dom g l p n:=by
 intro n hn k hw;have step : ∀ {a n:Nat},n∈g.getD a []→n∈nodes→a≠p→(a∈nodes→False)→False:=fun {a n} he hn hap ih=>by
  by_cases e:n=hd
  ·subst e
   by_cases ha:a∈nodes
   ·exact ih ha
   ·exact hap (hp a ha he)
  ·exact ih (hpred n hn e a he)
 induction hw with
 | start k h=>exact h0 hn
 | on ha he hr hy ih=>exact step he hn ha.ne ih
 | back ha he hy ih=>exact step he hn ha.ne ih
theorem out_dom (hpred : ∀ n∈nodes,n≠hd → ∀ q,n∈g.getD q []→q∈nodes) (hhd:hd∈nodes) (hpe:hd∈g.getD p []) (h0:0∉nodes) {h n:Nat} (hh:h∉nodes) (hn:n∈nodes) (hr:R g n) (hdom:Dom g l h n):Dom g l h p:=by
 intro k hw;have hwh:Way g l h (k+1) hd := .back hw hpe fun e=>hh (e▸hhd)
 have key : ∀ m,R g m→m∈nodes → ∃ k,Way g l h k m:=by
  intro m hm
  induction hm with
  | start _=>exact fun h=>absurd h h0
  | @step a m ha he _ ih =>
   intro hmn
   by_cases e:m=hd
   ·subst e; exact ⟨_,hwh⟩
   ·obtain ⟨k',hk⟩:=ih (hpred m hmn e a he);exact ⟨k'+1, .back hk he fun e2=>hh (e2▸hmn)⟩
 obtain ⟨k',hk⟩:=key n hr hn;exact hdom k' hk
end
theorem Wj {near:List Int} {fr:List (List Nat)} {N:Nat} : ∀ k, ∀ x∈loopsTo near fr N k, ∃ t,t∈fr.getD x.1 []
 | 0,x,hx=>by simp [loopsTo] at hx
 | h+1,x,hx=>by
  simp only [loopsTo] at hx;split at hx
  ·exact Wj h x hx
  ·rename_i hc;rcases List.mem_append.1 hx with hx | hx
   ·exact Wj h x hx
   ·rw [List.mem_singleton] at hx;subst hx
    cases hb:backs near h (fr.getD h []) with
    | nil=>exact absurd (.inr hb) hc
    | cons t r =>
     have:t∈backs near h (fr.getD h []):=by rw [hb]; simp
     exact ⟨t,(List.mem_filter.1 this).1⟩
theorem loop_not0 {g:List (List Nat)} (hg:Ok g) (hz : ∀ q,0∉g.getD q []) {x:Nat × List Nat} (hx:x∈loopsTo (rNear g) (froms g) g.length g.length):0∉x.2:=by
 intro h0;have ho:=order_ok hg;obtain ⟨q1,q2,q3,q4,q5⟩:=heads hg g.length (Nat.le_refl _) x hx;have h1:=q4 0 h0 ((without_none hg 0).2 (Wt ho));have hx0:x.1=0:=by
  rcases (zx hg (rNear_ok hg) q1 hg.pos).1 h1 with h | h
  ·by_cases e:x.1=0
   ·exact e
   ·exact absurd (Way.start 0 (Ne.symm e)) (h.2.2 0)
  ·exact h
 obtain ⟨t,ht⟩:=Wj g.length x hx;rw [hx0] at ht;exact hz t ((mem_froms hg 0 t hg.pos).1 ht).2
theorem picked_lt (inn:List Bool) : ∀ k, ∀ x∈picked inn k,x<k
 | 0,x,h=>by simp [picked] at h
 | k+1,x,h=>by
  have ih:=picked_lt inn k;simp only [picked] at h;split at h
  ·rcases List.mem_append.1 h with h | h
   ·have:=ih x h; omega
   ·rw [List.mem_singleton] at h; omega
  ·have:=ih x h; omega
theorem WH (inn:List Bool) : ∀ k,(picked inn k).Pairwise (· < ·)
 | 0=>by simp [picked]
 | k+1=>by
  have ih:=WH inn k;simp only [picked];split
  ·refine List.pairwise_append.2 ⟨ih,by simp,fun a ha b hb => ?_⟩;rw [List.mem_singleton] at hb;have:=picked_lt inn k a ha; omega
  ·exact ih
theorem loops_sorted {near:List Int} {fr:List (List Nat)} {N:Nat} : ∀ k, ∀ x∈loopsTo near fr N k,x.2.Pairwise (· < ·)
 | 0,x,hx=>by simp [loopsTo] at hx
 | h+1,x,hx=>by
  simp only [loopsTo] at hx;split at hx
  ·exact loops_sorted h x hx
  ·rcases List.mem_append.1 hx with hx | hx
   ·exact loops_sorted h x hx
   ·rw [List.mem_singleton] at hx;subst hx;exact WH _ _
end Go.Vw.G

namespace Ss
def cutAt (b:Block) (i:Nat):Block:=⟨b.params,b.code.eraseIdx i,b.term⟩
def endWith (b:Block) (x:Ins):Block:=⟨b.params,b.code++[x],b.term⟩
def moveAt (bs:List Block) (p n i:Nat):List Block:=(bs.set n (cutAt (bs.getD n default) i)).set p (endWith (bs.getD p default) ((bs.getD n default).code.getD i default))
structure Mv (bs:List Block) (p n i:Nat) (bp bn:Block) (x:Ins):Prop where
 hp:bs[p]? = some bp
 hn:bs[n]? = some bn
 hi:bn.code[i]? = some x
 ne:p≠n
section
variable {bs:List Block} {p n i:Nat} {bp bn:Block} {x:Ins}
theorem Mv.eq (h:Mv bs p n i bp bn x):moveAt bs p n i=(bs.set n (cutAt bn i)).set p (endWith bp x):=by
 simp only [moveAt,List.getD_eq_getElem?_getD,h.hp,h.hn,h.hi,Option.getD_some]
theorem Mv.len (h:Mv bs p n i bp bn x):(moveAt bs p n i).length=bs.length:=by simp [moveAt]
theorem Mv.at (h:Mv bs p n i bp bn x) (j:Nat):(moveAt bs p n i)[j]? = if j=p then some (endWith bp x) else if j=n then some (cutAt bn i) else bs[j]? := by
 have h1:=(List.getElem?_eq_some_iff.1 h.hp).1;have h2:=(List.getElem?_eq_some_iff.1 h.hn).1;rw [h.eq]
 by_cases e1:j=p
 ·subst e1;rw [if_pos rfl,List.getElem?_set_self (by simpa using h1)]
 ·rw [if_neg e1,List.getElem?_set_ne (Ne.symm e1)]
  by_cases e2:j=n
  ·subst e2;rw [if_pos rfl,List.getElem?_set_self h2]
  ·rw [if_neg e2,List.getElem?_set_ne (Ne.symm e2)]
theorem Yt {α:Type} {a:α} : ∀ {l:List α} {k:Nat},l[k]? = some a→l.Perm (a::l.eraseIdx k)
 | [],k,h=>by simp at h
 | b::l,0,h=>by
  simp only [List.getElem?_cons_zero,Option.some.injEq] at h;subst h; exact List.Perm.refl _
 | b::l,k+1,h=>by
  have:=Yt (l:=l) (k:=k) (by simpa using h);rw [List.eraseIdx_cons_succ];exact (this.cons b).trans (List.Perm.swap a b _)
theorem jcf {α:Type} {l:List α} {k:Nat} {a b:α} (h:l[k]? = some a):l.Perm (a::l.eraseIdx k)∧(l.set k b).Perm (b::l.eraseIdx k):=by
 have hk:=(List.getElem?_eq_some_iff.1 h).1;refine ⟨Yt h, ?_⟩;have:=Yt (l:=l.set k b) (k:=k) (a:=b) (List.getElem?_set_self hk)
 rwa [List.eraseIdx_set_eq] at this
theorem Mv.perm (h:Mv bs p n i bp bn x) {α:Type} (F:Block→List α) (X:List α) (h1:(F bn).Perm (X++F (cutAt bn i))) (h2:(F (endWith bp x)).Perm (X++F bp)):((moveAt bs p n i).flatMap F).Perm (bs.flatMap F):=by
 have hp2:(bs.set n (cutAt bn i))[p]? = some bp:=by rw [List.getElem?_set_ne (Ne.symm h.ne)]; exact h.hp
 obtain ⟨a1,a2⟩:=jcf (b:=cutAt bn i) h.hn;obtain ⟨c1,c2⟩:=jcf (b:=endWith bp x) hp2;rw [h.eq];generalize (bs.set n (cutAt bn i)).eraseIdx p=E at *
 generalize bs.eraseIdx n=G at *
 have e1:=c2.flatMap_right F;have e2:=c1.flatMap_right F;have e3:=a2.flatMap_right F;have e4:=a1.flatMap_right F;simp only [List.flatMap_cons] at e1 e2 e3 e4;refine e1.trans ?_;refine (h2.append_right _).trans ?_;rw [List.append_assoc];refine ((e2.symm.trans e3).append_left X).trans ?_;rw [←List.append_assoc];exact (h1.symm.append_right _).trans e4.symm
theorem code_perm {l:List Ins} {i:Nat} {x:Ins} (h:l[i]? = some x):l.Perm (x::l.eraseIdx i):=(jcf (b:=x) h).1
theorem Mv.all (h:Mv bs p n i bp bn x):(allL (moveAt bs p n i)).Perm (allL bs):=by
 have hc:=code_perm h.hi;refine h.perm (fun b=>b.params++zW b.code) x.outs ?_ ?_
 ·have h1:(zW bn.code).Perm (x.outs++zW (bn.code.eraseIdx i)):=by
   have:=hc.flatMap_right Ins.outs;simpa [zW] using this
  refine (h1.append_left _).trans ?_;simp only [cutAt];rw [←List.append_assoc, ←List.append_assoc];exact List.perm_append_comm.append_right _
 ·simp only [endWith,zW,List.flatMap_append,List.flatMap_cons,List.flatMap_nil,List.append_nil];rw [←List.append_assoc];exact List.perm_append_comm
theorem Mv.codes (h:Mv bs p n i bp bn x):((moveAt bs p n i).flatMap Block.code).Perm (bs.flatMap Block.code):=by
 refine h.perm Block.code [x] (code_perm h.hi) ?_;simp only [endWith];exact List.perm_append_comm
theorem Mv.count (h:Mv bs p n i bp bn x):count (moveAt bs p n i)=count bs:=by
 have e : ∀ l:List Block,Ss.count l=(l.flatMap Block.code).length:=fun l=>by
  rw [List.length_flatMap]; rfl
 rw [e,e,h.codes.length_eq]
theorem Mv.map (h:Mv bs p n i bp bn x) {α:Type} (F:Block→α) (h1:F (cutAt bn i)=F bn) (h2:F (endWith bp x)=F bp):(moveAt bs p n i).map F=bs.map F:=by
 apply List.ext_getElem?
 intro j;rw [List.getElem?_map,List.getElem?_map,h.at j]
 by_cases e1:j=p
 ·subst e1; rw [if_pos rfl,h.hp,Option.map_some,Option.map_some,h2]
 ·rw [if_neg e1]
  by_cases e2:j=n
  ·subst e2; rw [if_pos rfl,h.hn,Option.map_some,Option.map_some,h1]
  ·rw [if_neg e2]
theorem Mv.succs (h:Mv bs p n i bp bn x):succs (moveAt bs p n i)=succs bs:=h.map rowOf rfl rfl
theorem any_erase {q:Ins→Bool} : ∀ {l:List Ins} {i:Nat} {x:Ins},l[i]? = some x→q x=false→(l.eraseIdx i).any q=l.any q
 | [],i,x,h,_=>by simp at h
 | a::l,0,x,h,hq=>by
  simp only [List.getElem?_cons_zero,Option.some.injEq] at h;subst h; simp [hq]
 | a::l,i+1,x,h,hq=>by
  simp only [List.eraseIdx_cons_succ,List.any_cons,any_erase (l:=l) (by simpa using h) hq]
theorem Mv.ticks (h:Mv bs p n i bp bn x) (hx:x.op≠258):(moveAt bs p n i).map tickB=bs.map tickB:=by
 refine h.map tickB ?_ ?_
 ·exact any_erase (q:=fun y=>decide (y.op=258)) h.hi (by simpa using hx)
 ·simp [tickB,endWith,hx]
end
end Ss
