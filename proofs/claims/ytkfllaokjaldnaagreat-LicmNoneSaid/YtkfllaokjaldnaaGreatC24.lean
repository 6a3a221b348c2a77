import Derived.Test.YtkfllaokjaldnaaGreatC16
import Derived.Test.YtkfllaokjaldnaaGreatC23
import Derived.Test.YtkfllaokjaldnaaGreatC19
import Derived.Test.YtkfllaokjaldnaaGreatC22
/-
  Part of the proof (texts GNearTh2, GLoop, GHead, BPlain, SRepl).
-/
set_option linter.unusedVariables false
set_option linter.unusedSimpArgs false
/-
 What the nearest ones tell.
-/
namespace Go.Vw.G
open Go.Vw
structure NearOk (g:List (List Nat)) (near:List Int):Prop where
 len:near.length=g.length
 zero:nd near 0 = -1
 out : ∀ x,x<g.length→x∉order g→nd near x = -1
 near : ∀ x∈order g,x≠0 → ∃ p:Nat,nd near x=p∧p∈order g∧p≠x∧Dom g (order g) p x ∧ ∀ d,Dom g (order g) d x→d≠x→Dom g (order g) d p
section
variable {g:List (List Nat)}
theorem rNear_ok (hg:Ok g):NearOk g (rNear g):=by
 obtain ⟨F,K,nearF,h1,h2⟩:=chk_ends hg
 rw [near_eq hg h2]
 have h0:0<nearF.length:=by rw [h2.len]; exact hg.pos
 have hset:=nd_set h0 (-1)
 refine ⟨by simpa using h2.len,by rw [hset,if_pos rfl],fun x hx hxl => ?_,fun x hx hx0 => ?_⟩
 ·rw [hset]; split
  ·rfl
  ·exact h2.out x hx hxl
 ·rw [hset,if_neg hx0]; exact h2.near x hx hx0
theorem dom1_out {near:List Int} {a x:Nat} (hx:x<near.length) (h:nd near x = -1) : ∀ n,dom1 near a (n+1) x=decide (a=x):=by
 intro n
 have hok:okIx near (x:Int):=⟨by omega,by omega⟩
 rw [dom1,if_pos hok]
 by_cases e:a=x
 ·subst e; simp
 ·have e' : ¬ (a:Int)=(x:Int):=by omega
  rw [if_neg e']
  have:near.getD x 0 = -1:=h
  simp only [Int.toNat_natCast,this]
  have hno : ¬ okIx near (-1):=fun h=>by have:=h.1; omega
  cases n with
  | zero=>simp [dom1,e]
  | succ n=>rw [dom1,if_neg hno]; simp [e]
theorem dom1_iff (hg:Ok g) {near:List Int} (hN:NearOk g near) (a:Nat) : ∀ (n b:Nat),b∈order g→rk g (order g) b<n→(dom1 near a n b=true↔Dom g (order g) a b)
 | 0,b,_,h=>by omega
 | n+1,b,hb,h=>by
  have ho:=order_ok hg
  have hbl:=ho.lt b hb
  by_cases hb0:b=0
  ·subst hb0
   rw [dom1_out (by rw [hN.len]; exact hbl) hN.zero]
   simp only [decide_eq_true_eq]
   constructor
   ·intro e; subst e; exact Dom.self 0
   ·intro hd
    by_cases e:a=0
    ·exact e
    ·exact absurd (Way.start 0 (Ne.symm e)) (hd 0)
  ·obtain ⟨p,q1,q2,q3,q4,q5⟩:=hN.near b hb hb0
   have hok:okIx near (b:Int):=⟨by omega,by rw [hN.len]; omega⟩
   rw [dom1,if_pos hok]
   by_cases e:a=b
   ·subst e
    simp only [if_true,true_iff]
    exact Dom.self a
   ·have e' : ¬ (a:Int)=(b:Int):=by omega
    have hnd:near.getD b 0=(p:Int):=q1
    rw [if_neg e']
    simp only [Int.toNat_natCast,hnd]
    have hr:=q4.rk ho q2 hb q3
    rw [dom1_iff hg hN a n p q2 (by omega)]
    exact ⟨fun hd=>hd.trans q4,fun hd=>q5 a hd e⟩
theorem ze (hg:Ok g) {near:List Int} (hN:NearOk g near) {a b:Nat} (ha:a<g.length) (hb:b<g.length):dominates near a b=true↔(a∈order g∧b∈order g∧Dom g (order g) a b)∨a=b:=by
 have ho:=order_ok hg
 have hoka:okIx near (a:Int):=⟨by omega,by rw [hN.len]; omega⟩
 rw [dominates,if_pos hoka]
 have hm:=hg.max
 by_cases hbl:b∈order g
 ·have hr:rk g (order g) b<257:=by
   have h1:=rk_lt ho hbl
   obtain ⟨t,k1,k2,k3⟩:=order_ends hg
   have:(order g).length≤g.length:=by simp [order,k1]; exact k2
   omega
  rw [dom1_iff hg hN a 257 b hbl hr]
  constructor
  ·exact fun h => .inl ⟨h.mem ho hbl,hbl,h⟩
  ·rintro (h | h)
   ·exact h.2.2
   ·subst h; exact Dom.self a
 ·rw [dom1_out (n:=256) (by rw [hN.len]; exact hb) (hN.out b hb hbl)]
  simp only [decide_eq_true_eq]
  constructor
  ·exact .inr
  ·rintro (h | h)
   ·exact absurd h.2.1 hbl
   ·exact h
theorem ways (hg:Ok g) {near:List Int} (hN:NearOk g near) {a b:Nat} (ha:a<g.length) (hb:b<g.length) :
  dominates near a b=(((without g none).getD a false&&(without g none).getD b false && !((without g (some a)).getD b false))||decide (a=b)):=by
 have h1:=ze hg hN ha hb
 have w1:=without_none hg a
 have w2:=without_none hg b
 have w3:=Yu hg (b:=b) ha
 unfold Met at w1 w2 w3
 rw [Bool.eq_iff_iff,h1]
 simp only [Bool.or_eq_true,Bool.and_eq_true,Bool.not_eq_true',decide_eq_true_eq,w1,w2]
 constructor
 ·rintro (⟨k1,k2,k3⟩ | h)
  ·refine .inl ⟨⟨k1,k2⟩, ?_⟩
   cases hx:(without g (some a)).getD b false with
   | false=>rfl
   | true=>obtain ⟨_,k,hw⟩:=w3.1 hx; exact absurd hw (k3 k)
  ·exact .inr h
 ·rintro (⟨⟨k1,k2⟩,k3⟩ | h)
  ·by_cases e:b=a
   ·exact .inr e.symm
   ·refine .inl ⟨k1,k2,fun k hw => ?_⟩
    have:=w3.2 ⟨e,k,hw⟩
    rw [k3] at this; cases this
  ·exact .inr h
def atTo (n:Nat) (l:List Nat):Nat→List Nat
 | 0=>List.replicate n 0
 | k+1=>(atTo n l k).set (l.getD k 0) (k+1)
end
end Go.Vw.G

/-
 The nodes of a loop, found from a list of nodes to do.
-/
namespace Go.Vw.G
open Go.Vw
inductive Bk (fr:List (List Nat)) (h:Nat) (ts:List Nat):Nat→Prop
 | start {n:Nat} (hn:n∈ts):Bk fr h ts n
 | step {n p:Nat} (hb:Bk fr h ts n) (hn:n≠h) (hp:p∈fr.getD n []):Bk fr h ts p
structure Srch (fr:List (List Nat)) (h:Nat) (ts:List Nat) (N:Nat) (inn:List Bool) (todo:List Nat):Prop where
 len:inn.length=N
 head:inn.getD h false=true
 sound : ∀ n,inn.getD n false=true→n=h∨Bk fr h ts n
 work : ∀ t∈todo,Bk fr h ts t
 closed : ∀ n,inn.getD n false=true→n≠h → ∀ p∈fr.getD n [],inn.getD p false=true∨p∈todo
 all : ∀ t∈ts,inn.getD t false=true∨t∈todo
 lt : ∀ t∈todo,t<N
theorem Srch.start {fr:List (List Nat)} {h:Nat} {ts:List Nat} {N:Nat} (hh:h<N) (ht : ∀ t∈ts,t<N):Srch fr h ts N ((List.replicate N false).set h true) ts:=by
 have hl:h<(List.replicate N false).length:=by simpa using hh
 have hset : ∀ n,((List.replicate N false).set h true).getD n false=true↔n=h:=by
  intro n
  have:=jbJ hl n
  unfold Met at this
  rw [this]
  constructor
  ·rintro (h1 | h1)
   ·exact h1
   ·rw [rep_getD] at h1; cases h1
  ·exact .inl
 refine ⟨by simp,(hset h).2 rfl,fun n hn => .inl ((hset n).1 hn),fun t h1 => .start h1,fun n hn hne=>absurd ((hset n).1 hn) hne,fun t h1 => .inr h1,ht⟩
section
variable {fr:List (List Nat)} {h:Nat} {ts:List Nat} {N:Nat} {inn:List Bool} {n:Nat}
theorem Srch.seen {todo todo':List Nat} (hS:Srch fr h ts N inn todo) (hn:inn.getD n false=true) (hsub : ∀ t∈todo',t∈todo) (hre : ∀ t∈todo,t=n∨t∈todo'):Srch fr h ts N inn todo':=by
 refine ⟨hS.len,hS.head,hS.sound,fun t ht=>hS.work t (hsub t ht),fun m hm hne p hp => ?_,fun t ht => ?_,fun t ht=>hS.lt t (hsub t ht)⟩
 ·rcases hS.closed m hm hne p hp with h1 | h1
  ·exact .inl h1
  ·rcases hre p h1 with h2 | h2
   ·subst h2; exact .inl hn
   ·exact .inr h2
 ·rcases hS.all t ht with h1 | h1
  ·exact .inl h1
  ·rcases hre t h1 with h2 | h2
   ·subst h2; exact .inl hn
   ·exact .inr h2
theorem Srch.take {todo todo':List Nat} (hS:Srch fr h ts N inn todo) (hn:n∈todo) (hfl : ∀ p∈fr.getD n [],p<N) (hni:inn.getD n false=false) (hsub : ∀ t∈todo',t∈todo∨t∈fr.getD n []) (hre : ∀ t∈todo,t=n∨t∈todo') (hfr : ∀ t∈fr.getD n [],t∈todo'):Srch fr h ts N (inn.set n true) todo':=by
 have hnl:n<inn.length:=by rw [hS.len]; exact hS.lt n hn
 have hset : ∀ m,(inn.set n true).getD m false=true↔m=n∨inn.getD m false=true:=fun m=>jbJ hnl m
 have hnh:n≠h:=by intro e; subst e; rw [hS.head] at hni; cases hni
 refine ⟨by simpa using hS.len,(hset h).2 (.inr hS.head),fun m hm => ?_,fun t ht => ?_,fun m hm hne p hp => ?_,fun t ht => ?_,fun t ht => ?_⟩
 ·rcases (hset m).1 hm with e | h1
  ·subst e; exact .inr (hS.work m hn)
  ·exact hS.sound m h1
 ·rcases hsub t ht with h1 | h1
  ·exact hS.work t h1
  ·exact .step (hS.work n hn) hnh h1
 ·rcases (hset m).1 hm with e | h1
  ·subst e; exact .inr (hfr p hp)
  ·rcases hS.closed m h1 hne p hp with h2 | h2
   ·exact .inl ((hset p).2 (.inr h2))
   ·rcases hre p h2 with h3 | h3
    ·exact .inl ((hset p).2 (.inl h3))
    ·exact .inr h3
 ·rcases hS.all t ht with h1 | h1
  ·exact .inl ((hset t).2 (.inr h1))
  ·rcases hre t h1 with h3 | h3
   ·exact .inl ((hset t).2 (.inl h3))
   ·exact .inr h3
 ·rcases hsub t ht with h1 | h1
  ·exact hS.lt t h1
  ·exact hfl t h1
theorem Srch.done (hS:Srch fr h ts N inn []) (n:Nat):inn.getD n false=true↔n=h∨Bk fr h ts n:=by
 refine ⟨hS.sound n, ?_⟩
 rintro (e | hb)
 ·subst e; exact hS.head
 ·induction hb with
  | start hn =>
   rcases hS.all _ hn with h1 | h1
   ·exact h1
   ·simp at h1
  | step _ hne hp ih =>
   rcases hS.closed _ ih hne _ hp with h1 | h1
   ·exact h1
   ·simp at h1
end
def picked (inn:List Bool):Nat→List Nat
 | 0=>[]
 | k+1=>if inn.getD k false then picked inn k++[k] else picked inn k
theorem picked_len (inn:List Bool) : ∀ k,(picked inn k).length≤k
 | 0=>Nat.le_refl _
 | k+1=>by have:=picked_len inn k; simp only [picked]; split<;>simp<;>omega
open Classical in
/-- Whether each node is of a loop. -/
noncomputable def loopIn (fr:List (List Nat)) (h:Nat) (ts:List Nat) (N:Nat):List Bool:=(List.range N).map fun n=>decide (n=h∨Bk fr h ts n)
theorem loopIn_eq {fr:List (List Nat)} {h:Nat} {ts:List Nat} {N:Nat} {inn:List Bool} (hS:Srch fr h ts N inn []):inn=loopIn fr h ts N:=by
 refine List.ext_getElem (by simp [loopIn,hS.len]) fun i h1 h2 => ?_
 have:=hS.done i
 have e:inn.getD i false=inn[i]:=by simp [h1]
 rw [e] at this
 simp only [loopIn,List.getElem_map,List.getElem_range]
 cases hx:inn[i] with
 | false=>rw [hx] at this; simp only [Bool.false_eq_true,false_iff] at this; simp [this]
 | true=>rw [hx] at this; simp only [true_iff] at this; simp [this]
def backs (near:List Int) (h:Nat) (row:List Nat):List Nat:=row.filter fun p=>dominates near h p
noncomputable def loopsTo (near:List Int) (fr:List (List Nat)) (N:Nat):Nat→List (Nat × List Nat)
 | 0=>[]
 | h+1=>if (0<h∧near.getD h 0<0)∨backs near h (fr.getD h [])=[] then loopsTo near fr N h
  else loopsTo near fr N h++[(h,picked (loopIn fr h (backs near h (fr.getD h [])) N) N)]
theorem loopsTo_len (near:List Int) (fr:List (List Nat)) (N:Nat) : ∀ k,(loopsTo near fr N k).length≤k
 | 0=>Nat.le_refl _
 | k+1=>by have:=loopsTo_len near fr N k; simp only [loopsTo]; split<;>simp<;>omega
def rbacks (t:List (List Bool)) (h:Nat) (row:List Nat):List Nat:=row.filter fun p=>tabAt t h p
noncomputable def rloopsTo (t:List (List Bool)) (fr:List (List Nat)) (N:Nat):Nat→List (Nat × List Nat)
 | 0=>[]
 | h+1=>if rbacks t h (fr.getD h [])=[] then rloopsTo t fr N h
  else rloopsTo t fr N h++[(h,picked (loopIn fr h (rbacks t h (fr.getD h [])) N) N)]
theorem rloopsTo_len (t:List (List Bool)) (fr:List (List Nat)) (N:Nat) : ∀ k,(rloopsTo t fr N k).length≤k
 | 0=>Nat.le_refl _
 | k+1=>by have:=rloopsTo_len t fr N k; simp only [rloopsTo]; split<;>simp<;>omega
theorem backs_eq {g:List (List Nat)} (hg:Ok g) {h:Nat} (hh:h∈order g) (row:List Nat) (hr : ∀ p∈row,p<g.length):rbacks (table g) h row=backs (rNear g) h row:=by
 refine List.filter_congr fun p hp => ?_
 have h1:=Jv hg h p
 have h2:=ze hg (rNear_ok hg) ((order_ok hg).lt h hh) (hr p hp)
 rw [Bool.eq_iff_iff,h1,h2]
 constructor
 ·exact .inl
 ·rintro (h | h)
  ·exact h
  ·subst h; exact ⟨hh,hh,Dom.self _⟩
theorem backs_none {g:List (List Nat)} (hg:Ok g) {h:Nat} (hh:h∉order g) (row:List Nat):rbacks (table g) h row=[]:=by
 rw [rbacks,List.filter_eq_nil_iff]
 intro p _ hp
 exact hh ((Jv hg h p).1 hp).1
theorem loops_eq {g:List (List Nat)} (hg:Ok g) : ∀ k,k≤g.length→rloopsTo (table g) (froms g) g.length k=loopsTo (rNear g) (froms g) g.length k
 | 0,_=>rfl
 | h+1,hk=>by
  have ih:=loops_eq hg h (by omega)
  have hN:=rNear_ok hg
  simp only [rloopsTo,loopsTo,ih]
  by_cases hh:h∈order g
  ·have hr : ∀ p∈(froms g).getD h [],p<g.length:=fun p hp=>((mem_froms hg h p (by omega)).1 hp).1
   rw [backs_eq hg hh _ hr]
   have hno : ¬ (0<h∧(rNear g).getD h 0<0):=by
    rintro ⟨h0,hn⟩
    obtain ⟨p,e,_⟩:=hN.near h hh (by omega)
    have:nd (rNear g) h<0:=hn
    omega
   by_cases he:backs (rNear g) h ((froms g).getD h [])=[]
   ·rw [if_pos he,if_pos (.inr he)]
   ·rw [if_neg he,if_neg (by rintro (h1 | h1); exact hno h1; exact he h1)]
  ·rw [if_pos (backs_none hg hh _)]
   have h0:0<h:=by
    rcases Nat.eq_zero_or_pos h with e | e
    ·subst e; exact absurd (Wa (order_ok hg)) hh
    ·exact e
   have hn:(rNear g).getD h 0<0:=by
    have:=hN.out h (by omega) hh
    have e:(rNear g).getD h 0=nd (rNear g) h:=rfl
    omega
   rw [if_pos (.inl ⟨h0,hn⟩)]
def todoM (M:Nat) (inn:List Bool) (todo:List Nat):Nat:=unmet inn*(M+1)+todo.length
theorem todoM_take {M:Nat} {inn:List Bool} {n:Nat} {todo todo':List Nat} {k:Nat} (hn:n<inn.length) (hf:inn[n]=false) (hk:k≤M) (hl:todo'.length+1=todo.length+k):todoM M (inn.set n true) todo'<todoM M inn todo:=by
 have:=unmet_set hn hf
 simp only [todoM, ←this,Nat.add_mul,Nat.one_mul]
 omega
end Go.Vw.G

/-
 What is so of each loop: its head dominates its nodes that are reached, and they come from its nodes alone.
-/
namespace Go.Vw.G
open Go.Vw
theorem jaU (inn:List Bool) (n:Nat) : ∀ k,n∈picked inn k↔n<k∧inn.getD n false=true
 | 0=>by simp [picked]
 | k+1=>by
  have ih:=jaU inn n k
  simp only [picked]
  split
  ·rename_i h
   rw [List.mem_append,ih]
   simp only [List.mem_singleton]
   constructor
   ·rintro (⟨h1,h2⟩ | h1)
    ·exact ⟨by omega,h2⟩
    ·subst h1; exact ⟨by omega,h⟩
   ·rintro ⟨h1,h2⟩
    by_cases e:n=k
    ·exact .inr e
    ·exact .inl ⟨by omega,h2⟩
  ·rename_i h
   rw [ih]
   constructor
   ·rintro ⟨h1,h2⟩; exact ⟨by omega,h2⟩
   ·rintro ⟨h1,h2⟩
    refine ⟨?_,h2⟩
    by_cases e:n=k
    ·subst e; exact absurd h2 h
    ·omega
theorem jaV {fr:List (List Nat)} {h:Nat} {ts:List Nat} {N n:Nat} (hn:n<N):(loopIn fr h ts N).getD n false=true↔n=h∨Bk fr h ts n:=by
 classical
 have e:(loopIn fr h ts N).getD n false=true↔(n=h∨Bk fr h ts n):=by simp [loopIn,hn]
 exact e
theorem Bk.lt {g:List (List Nat)} (hg:Ok g) {h:Nat} {ts:List Nat} (hts : ∀ t∈ts,t<g.length) {n:Nat} (hb:Bk (froms g) h ts n):n<g.length:=by
 induction hb with
 | start hn=>exact hts _ hn
 | step hb hne hp ih=>exact ((mem_froms hg _ _ ih).1 hp).1
theorem Bk.dom {g:List (List Nat)} (hg:Ok g) {h:Nat} {ts:List Nat} (hts : ∀ t∈ts,t<g.length) (htd : ∀ t∈ts,Dom g (order g) h t) {n:Nat} (hb:Bk (froms g) h ts n) (hn:n∈order g):Dom g (order g) h n:=by
 induction hb with
 | start ht=>exact htd _ ht
 | @step n p hb hne hp ih =>
  have hl:=Bk.lt hg hts hb
  have hp':=(mem_froms hg n p hl).1 hp
  have ho:=order_ok hg
  have hno:n∈order g:=(ho.mem n).2 (From.step ((ho.mem p).1 hn) hp'.2 (jW _ _))
  exact (ih hno).pred (Ne.symm hne) hp'.2
structure HeadOk (g:List (List Nat)) (x:Nat × List Nat):Prop where
 lt:x.1<g.length
 head:x.1∈x.2
 nodes : ∀ n∈x.2,n<g.length
 dom : ∀ n∈x.2,(without g none).getD n false=true→dominates (rNear g) (x.1:Int) (n:Int)=true
 pred : ∀ n∈x.2,n≠x.1 → ∀ p∈(froms g).getD n [],p∈x.2
theorem heads {g:List (List Nat)} (hg:Ok g) : ∀ k,k≤g.length → ∀ x∈loopsTo (rNear g) (froms g) g.length k,HeadOk g x
 | 0,_,x,hx=>by simp [loopsTo] at hx
 | h+1,hk,x,hx=>by
  have ih:=heads hg h (by omega)
  simp only [loopsTo] at hx
  split at hx
  ·exact ih x hx
  ·rename_i hc
   rcases List.mem_append.1 hx with hx | hx
   ·exact ih x hx
   ·have hN:=rNear_ok hg
    have ho:=order_ok hg
    have hh:h∈order g:=by
     by_cases hh:h∈order g
     ·exact hh
     ·refine absurd (.inl ⟨?_, ?_⟩) hc
      ·rcases Nat.eq_zero_or_pos h with e | e
       ·subst e; exact absurd (Wa ho) hh
       ·exact e
      ·have:=hN.out h (by omega) hh
       have e:(rNear g).getD h 0=nd (rNear g) h:=rfl
       omega
    have hrow : ∀ p∈(froms g).getD h [],p<g.length:=fun p hp=>((mem_froms hg h p (by omega)).1 hp).1
    have hts : ∀ t∈backs (rNear g) h ((froms g).getD h []),t<g.length:=fun t ht=>hrow t (List.mem_filter.1 ht).1
    have htd : ∀ t∈backs (rNear g) h ((froms g).getD h []),Dom g (order g) h t:=by
     intro t ht
     have h1:=(List.mem_filter.1 ht).2
     rcases (ze hg hN (by omega) (hts t ht)).1 h1 with h2 | h2
     ·exact h2.2.2
     ·subst h2; exact Dom.self _
    rw [List.mem_singleton] at hx
    subst hx
    generalize backs (rNear g) h ((froms g).getD h [])=ts at *
    have hmem : ∀ n,n∈picked (loopIn (froms g) h ts g.length) g.length↔n<g.length∧(n=h∨Bk (froms g) h ts n):=by
     intro n
     rw [jaU]
     constructor
     ·rintro ⟨h1,h2⟩; exact ⟨h1,(jaV h1).1 h2⟩
     ·rintro ⟨h1,h2⟩; exact ⟨h1,(jaV h1).2 h2⟩
    refine ⟨by show h<g.length; omega,(hmem h).2 ⟨by omega, .inl rfl⟩,fun n hn=>((hmem n).1 hn).1, ?_, ?_⟩
    ·intro n hn hm
     obtain ⟨h1,h2⟩:=(hmem n).1 hn
     have hno:=(without_none hg n).1 hm
     refine (ze hg hN (by show h<g.length; omega) h1).2 ?_
     rcases h2 with e | hb
     ·exact .inr e.symm
     ·exact .inl ⟨hh,hno,Bk.dom hg hts htd hb hno⟩
    ·intro n hn hne p hp
     obtain ⟨h1,h2⟩:=(hmem n).1 hn
     rcases h2 with e | hb
     ·exact absurd e hne
     ·exact (hmem p).2 ⟨((mem_froms hg n p h1).1 hp).1, .inr (.step hb hne hp)⟩
end Go.Vw.G

namespace Ss
open Go.Vw.G
def chain (near:List Int):Nat→Int→List Int
 | 0,_=>[]
 | n+1,b=>if okIx near b then b::chain near n (near.getD b.toNat 0) else []
def covers (y x:Ins):Bool:=decide (y.op=257)&&decide (x.op=257)&&decide (y.args.getD 0 0=x.args.getD 0 0)&&decide (x.n≤y.n)
abbrev Kept:=List (Ins × Int)
def rcov (near:List Int) (n:Int) (all:Kept) (x:Ins):Bool:=all.any fun p=>covers p.1 x&&dominates near p.2 n
def rcode (near:List Int) (n:Int):Kept→List Ins→List Ins × Kept
 | all,[]=>([],all)
 | all,x::r=>if rcov near n all x then rcode near n all r else (x::(rcode near n (if x.op=257 then all++[(x,n)] else all) r).1,(rcode near n (if x.op=257 then all++[(x,n)] else all) r).2)
def rstep (near:List Int) (st:List Block × Kept) (n:Nat):List Block × Kept :=
 (st.1.set n ⟨(st.1.getD n default).params,(rcode near n st.2 (st.1.getD n default).code).1,(st.1.getD n default).term⟩,(rcode near n st.2 (st.1.getD n default).code).2)
def bce (near:List Int) (order:List Nat) (f:Fn):Fn:=⟨f.sig,f.types,(order.foldl (rstep near) (f.blocks,[])).1⟩
/-! ### The same by a map of places -/
abbrev Far:=List ((Int × Int) × Int)
def farGet (k:Int × Int):Far→Int
 | []=>0
 | (k',w)::r=>if k=k' then w else farGet k r
def farPut (k:Int × Int) (w:Int):Far→Far
 | []=>[(k,w)]
 | (k',w')::r=>if k=k' then (k,w)::r else (k',w')::farPut k w r
def pcov (near:List Int) (n:Int) (M:Far) (x:Ins):Bool:=decide (x.op=257)&&(chain near 257 n).any fun up=>decide (x.n<farGet (x.args.getD 0 0,up) M)
def pnext (near:List Int) (n:Int) (M:Far) (x:Ins):Far:=if x.op=257∧pcov near n M x=false then farPut (x.args.getD 0 0,n) (x.n+1) M else M
def pcode (near:List Int) (n:Int):Far→List Ins→List Ins × Far
 | M,[]=>([],M)
 | M,x::r=>if pcov near n M x then pcode near n (pnext near n M x) r else (x::(pcode near n (pnext near n M x) r).1,(pcode near n (pnext near n M x) r).2)
def pstep (near:List Int) (st:List Block × Far) (n:Nat):List Block × Far :=
 (st.1.set n ⟨(st.1.getD n default).params,(pcode near n st.2 (st.1.getD n default).code).1,(st.1.getD n default).term⟩,(pcode near n st.2 (st.1.getD n default).code).2)
def pbce (near:List Int) (order:List Nat) (f:Fn):Fn:=⟨f.sig,f.types,(order.foldl (pstep near) (f.blocks,[])).1⟩
def Tells (all:Kept) (M:Far):Prop := ∀ (v b N:Int),0≤N→(N<farGet (v,b) M ↔ ∃ p∈all,p.2=b∧p.1.op=257∧p.1.args.getD 0 0=v∧N≤p.1.n)
end Ss

namespace Go.Vw
open Go.Proofs Go.RowKit
set_option maxRecDepth 10000
set_option maxHeartbeats 2000000
theorem Ze (S:Store) (l:List Int) (hl:l.length≤1048576):VCalls Tryz.prog 75 [vl vint l] S (fun r T=>r = .slice (lid S.nx 0) 0 l.length∧T=St S [] [some (1,l.map vint)]):=by
 refine jb (c:=jf Tryz.f75) Tryz.func75 rfl rfl (by simp [Tryz.ntmps75]) ?_
 rw [Tryz.ntmps75]
 intro hwf
 repeat refine QS ?_
 refine QP ?_
 refine QN ?_
 repeat refine QS ?_
 refine vw_isnil (l:=l.map vint) rfl rfl (by rfl) rfl rfl rfl rfl (by rfl) rfl rfl Tryz.underlying23 rfl ?_
 intro b hb
 simp only [Fr.set]
 by_cases h:b=true
 ·have hl0:l=[]:=by simpa using hb h
  subst hl0
  subst h
  repeat (first|refine QG ?_|refine QY ?_)
  exact ⟨_,_,(Ghost.nils (St S [] []) 1).toB _,by rw [qo]; rfl,by rw [jao]; rfl⟩
 ·have h':b=false:=by simpa using h
  subst h'
  have hb1:l.length*8≤140737488355328:=by omega
  have hb2:l.length≤140737488355328:=by omega
  repeat (first|refine QG ?_|refine QY ?_ (r:=by conv=>lhs;simp[-List.map_set,QV,hb1,hb2,ZL,nc_vint,qD,rep0]))
  exact done_gc [1] hwf (by decide) (by simp) (by simp; rfl) (by simp; rfl) ⟨by simp,by simp⟩
theorem Clone_v (l:List Int) (hl:l.length≤1048576):VPure Tryz.prog 75 [vl vint l] (vl vint l):=by
 intro S
 refine JB fun hwf=>zJ ((Ze S l hl).mono ?_)
 rintro r T ⟨rfl,rfl⟩
 exact jh hwf ((frz1 (k:=0) (by simp) (by rfl) (jF vint (fun _=>rfl) _) (by simp)).toB _) rfl
theorem one_v (v:Int) (to:List Int) (ht:to.length<2^63):VPure Tryz.prog 73 ([vint v]++[.ref (vl vint to)]) (vint (Ss.putv to v)):=by
 intro S
 refine jb (c:=jf Tryz.f73) Tryz.func73 rfl rfl (by simp [Tryz.ntmps73]) ?_
 rw [Tryz.ntmps73]
 intro hwf
 by_cases h1:0≤v
 ·obtain ⟨n,rfl⟩ : ∃ n:Nat,v=n:=⟨v.toNat,by omega⟩
  by_cases h2:n<to.length
  ·repeat (first|refine QG ?_|refine QY ?_ (r:=by conv=>lhs;simp[-List.map_set,QV,h2]))
   exact ja hwf (by simp [Ss.putv,h2]) rfl
  ·repeat (first|refine QG ?_|refine QY ?_ (r:=by conv=>lhs;simp[-List.map_set,QV,h2]))
   exact ja hwf (by simp [Ss.putv,h2]) rfl
 ·repeat (first|refine QG ?_|refine QY ?_ (r:=by conv=>lhs;simp[-List.map_set,QV,h1]))
  exact ja hwf (by simp [Ss.putv,h1]) rfl
theorem allO_v (S:Store) (l to:List Int) (ps:Nat) (hps:S.get ps=some (1,[.func 73 [.ref (vl vint to)]])) (hl:l.length≤1048576) (ht:to.length<2^63):VCalls Tryz.prog 74 ([vl vint l]++[.ptr ps 0]) S (fun r T=>r = .slice (lid S.nx 0) 0 l.length∧T=St S [] [some (1,(l.map (Ss.putv to)).map vint)]):=by
 have cp:=fun v=>one_v v to ht
 generalize Ss.putv to=g at *
 refine jb (c:=jf Tryz.f74) Tryz.func74 rfl rfl (by simp [Tryz.ntmps74]) ?_
 rw [Tryz.ntmps74]
 intro hwf
 have hpn:=jV hwf hps
 have p1:=fun u l => @jy S u l _ hpn
 have pP:=fun ks=>zC (n:=S.nx) ks hpn
 have pT:=fun ks=>zd (n:=S.nx) ks hpn
 repeat refine QS ?_
 refine QP ?_
 refine QN ?_
 repeat refine QS ?_
 refine QP ?_
 refine QN ?_
 refine qP 4 1 rfl (by conv=>lhs; simp [Fr.set]) ?_
 repeat (first|refine QG ?_|refine QY ?_)
 repeat refine QS ?_
 refine jd [1,4,7,8,9] rfl (fun c σ S' => ∃ (k:Nat) (out:List Int),k≤l.length∧c=l.length-k∧out=(l.take k).map g∧out.length=k∧σ=[(1, .ptr ps 0),(4, .slice (lid S.nx 0) 0 k),(7,vl vint l),(8,vnat l.length),(9,vnat k)]∧S'=St S [] [some (1,out.map vint)]) l.length ?_ ?_
 ·exact ⟨0,[],by omega,rfl,by simp,rfl,by simp [Fr.only],by simp⟩
 ·rintro c σ T ⟨k,out,hk,rfl,ho,hlen,rfl,rfl⟩
  by_cases hkt:k<l.length
  ·have hw:=jn hkt (by omega)
   have cpk:=cp l[k]
   have htk:(l.take (k+1)).map g=(l.take k).map g++[g l[k]]:=by rw [List.take_add_one,List.getElem?_eq_getElem hkt,List.map_append]; rfl
   generalize g l[k]=gv at *
   have hb:(k+1)*8≤140737488355328:=by omega
   have hb':k+1≤140737488355328:=by omega
   repeat (first|refine QG ?_|refine QY ?_ (r:=by conv=>lhs;simp[-List.map_set,QV,hkt]))
   repeat refine QS ?_
   refine QP ?_ (r:=by conv=>lhs;simp[-List.map_set,QV,hkt,p1,hps])
   refine Zp (cpk) (by rfl) (by rfl) (by rfl) ?_
   refine QM (by conv=>lhs;simp[-List.map_set,QV,hb,hb',hlen]) ?_
   refine QN ?_
   repeat (first|refine QG ?_|refine QY ?_ (r:=by conv=>lhs;simp[-List.map_set,QV,hb,hb',hlen,hw]))
   refine jT [2] (by conv=>lhs; simp [Fr.only]) hwf (by decide) (by simp [-List.map_set,pP,pT]) (by conv=>lhs; simp [-List.map_set,pP,pT]) (by conv=>lhs; simp [-List.map_set,pP,pT]) (by conv=>lhs; simp [-List.map_set,pP,pT]) ⟨?_,k+1,out++[gv],hkt,rfl,by rw [htk,ho],by simp [hlen],by simp [hw],by simp⟩
   omega
  ·have hke:k=l.length:=by omega
   subst hke
   rw [List.take_length] at ho
   repeat (first|refine QG ?_|refine QY ?_ (r:=by conv=>lhs;simp[-List.map_set,QV,hkt]))
   rw [←ho]
   exact zF ⟨by simp,rfl⟩
end Go.Vw
