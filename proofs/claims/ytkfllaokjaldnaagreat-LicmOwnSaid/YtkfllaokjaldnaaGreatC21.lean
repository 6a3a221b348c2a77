import Derived.Test.YtkfllaokjaldnaaGreatC20
import Derived.Test.YtkfllaokjaldnaaGreatC16
import Derived.Test.YtkfllaokjaldnaaGreatC8
import Derived.Test.YtkfllaokjaldnaaGreatC7
/- Part of the proof. -/
set_option linter.unusedVariables false
set_option linter.unusedSimpArgs false
set_option maxRecDepth 10000
set_option maxHeartbeats 4000000
/-
 What is so of each loop: its head dominates its nodes that are reached, and they come from its nodes alone.
-/
namespace Go.Vw.G
open Go.Vw
theorem jbA (inn:List Bool) (n:Nat) : ∀ k,n∈picked inn k↔n<k∧inn.getD n false=true
 | 0=>by simp [picked]
 | k+1=>by
  have ih:=jbA inn n k;simp only [picked];split
  ·rename_i h;rw [List.mem_append,ih];simp only [List.mem_singleton];constructor
   ·rintro (⟨h1,h2⟩ | h1)
    ·exact ⟨by omega,h2⟩
    ·subst h1; exact ⟨by omega,h⟩
   ·rintro ⟨h1,h2⟩
    by_cases e:n=k
    ·exact .inr e
    ·exact .inl ⟨by omega,h2⟩
  ·rename_i h;rw [ih];constructor
   ·rintro ⟨h1,h2⟩; exact ⟨by omega,h2⟩
   ·rintro ⟨h1,h2⟩;refine ⟨?_,h2⟩
    by_cases e:n=k
    ·subst e; exact absurd h2 h
    ·omega
theorem jbB {fr:List (List Nat)} {h:Nat} {ts:List Nat} {N n:Nat} (hn:n<N):(loopIn fr h ts N).getD n false=true↔n=h∨Bk fr h ts n:=by
 classical
 have e:(loopIn fr h ts N).getD n false=true↔(n=h∨Bk fr h ts n):=by simp [loopIn,hn]
 exact e
theorem Bk.lt {g:List (List Nat)} (hg:Ok g) {h:Nat} {ts:List Nat} (hts : ∀ t∈ts,t<g.length) {n:Nat} (hb:Bk (froms g) h ts n):n<g.length:=by
 induction hb with
 | start hn=>exact hts _ hn
 | step hb hne hp ih=>exact ((mem_froms hg _ _ ih).1 hp).1
theorem Bk.dom {g:List (List Nat)} (hg:Ok g) {h:Nat} {ts:List Nat} (hts : ∀ t∈ts,t<g.length) (htd : ∀ t∈ts,Dom g (order g) h t) {n:Nat} (hb:Bk (froms g) h ts n) (hn:n∈order g):Dom g (order g) h n:=by
 induction hb with
 | start ht=>exact htd _ ht
 | @step n p hb hne hp ih =>
  have hl:=Bk.lt hg hts hb;have hp':=(mem_froms hg n p hl).1 hp;have ho:=order_ok hg;have hno:n∈order g:=(ho.mem n).2 (From.step ((ho.mem p).1 hn) hp'.2 (qe _ _));exact (ih hno).pred (Ne.symm hne) hp'.2
structure HeadOk (g:List (List Nat)) (x:Nat × List Nat):Prop where
 lt:x.1<g.length
 head:x.1∈x.2
 nodes : ∀ n∈x.2,n<g.length
 dom : ∀ n∈x.2,(without g none).getD n false=true→dominates (rNear g) (x.1:Int) (n:Int)=true
 pred : ∀ n∈x.2,n≠x.1 → ∀ p∈(froms g).getD n [],p∈x.2
theorem heads {g:List (List Nat)} (hg:Ok g) : ∀ k,k≤g.length → ∀ x∈loopsTo (rNear g) (froms g) g.length k,HeadOk g x
 | 0,_,x,hx=>by simp [loopsTo] at hx
 | h+1,hk,x,hx=>by
  have ih:=heads hg h (by omega);simp only [loopsTo] at hx;split at hx
  ·exact ih x hx
  ·rename_i hc;rcases List.mem_append.1 hx with hx | hx
   ·exact ih x hx
   ·have hN:=rNear_ok hg;have ho:=order_ok hg;have hh:h∈order g:=by
     by_cases hh:h∈order g
     ·exact hh
     ·refine absurd (.inl ⟨?_, ?_⟩) hc
      ·rcases Nat.eq_zero_or_pos h with e | e
       ·subst e; exact absurd (Wu ho) hh
       ·exact e
      ·have:=hN.out h (by omega) hh;have e:(rNear g).getD h 0=nd (rNear g) h:=rfl;omega
    have hrow : ∀ p∈(froms g).getD h [],p<g.length:=fun p hp=>((mem_froms hg h p (by omega)).1 hp).1
    have hts : ∀ t∈backs (rNear g) h ((froms g).getD h []),t<g.length:=fun t ht=>hrow t (List.mem_filter.1 ht).1
    have htd : ∀ t∈backs (rNear g) h ((froms g).getD h []),Dom g (order g) h t:=by
     intro t ht;have h1:=(List.mem_filter.1 ht).2;rcases (zx hg hN (by omega) (hts t ht)).1 h1 with h2 | h2
     ·exact h2.2.2
     ·subst h2; exact Dom.self _
    rw [List.mem_singleton] at hx;subst hx;generalize backs (rNear g) h ((froms g).getD h [])=ts at *
    have hmem : ∀ n,n∈picked (loopIn (froms g) h ts g.length) g.length↔n<g.length∧(n=h∨Bk (froms g) h ts n):=by
     intro n;rw [jbA];constructor
     ·rintro ⟨h1,h2⟩; exact ⟨h1,(jbB h1).1 h2⟩
     ·rintro ⟨h1,h2⟩; exact ⟨h1,(jbB h1).2 h2⟩
    refine ⟨by show h<g.length; omega,(hmem h).2 ⟨by omega, .inl rfl⟩,fun n hn=>((hmem n).1 hn).1, ?_, ?_⟩
    ·intro n hn hm;obtain ⟨h1,h2⟩:=(hmem n).1 hn;have hno:=(without_none hg n).1 hm;refine (zx hg hN (by show h<g.length; omega) h1).2 ?_;rcases h2 with e | hb
     ·exact .inr e.symm
     ·exact .inl ⟨hh,hno,Bk.dom hg hts htd hb hno⟩
    ·intro n hn hne p hp;obtain ⟨h1,h2⟩:=(hmem n).1 hn;rcases h2 with e | hb
     ·exact absurd e hne
     ·exact (hmem p).2 ⟨((mem_froms hg n p h1).1 hp).1, .inr (.step hb hne hp)⟩
section
variable {g:List (List Nat)} {l:List Nat} {hd p:Nat} {nodes:List Nat}
theorem porch_dom (hpred : ∀ n∈nodes,n≠hd → ∀ q,n∈g.getD q []→q∈nodes) (hp : ∀ j,j∉nodes→hd∈g.getD j []→j=p) (h0:0∉nodes) : ∀ n∈nodes,Dom g l p n:=by
 intro n hn k hw;have step : ∀ {a n:Nat},n∈g.getD a []→n∈nodes→a≠p→(a∈nodes→False)→False:=fun {a n} he hn hap ih=>by
  by_cases e:n=hd
  ·subst e
   by_cases ha:a∈nodes
   ·exact ih ha
   ·exact hap (hp a ha he)
  ·exact ih (hpred n hn e a he)
 induction hw with
 | start k h=>exact h0 hn
 | on ha he hr hy ih=>exact step he hn ha.ne ih
 | back ha he hy ih=>exact step he hn ha.ne ih
theorem out_dom (hpred : ∀ n∈nodes,n≠hd → ∀ q,n∈g.getD q []→q∈nodes) (hhd:hd∈nodes) (hpe:hd∈g.getD p []) (h0:0∉nodes) {h n:Nat} (hh:h∉nodes) (hn:n∈nodes) (hr:R g n) (hdom:Dom g l h n):Dom g l h p:=by
 intro k hw;have hwh:Way g l h (k+1) hd := .back hw hpe fun e=>hh (e▸hhd)
 have key : ∀ m,R g m→m∈nodes → ∃ k,Way g l h k m:=by
  intro m hm
  induction hm with
  | start _=>exact fun h=>absurd h h0
  | @step a m ha he _ ih =>
   intro hmn
   by_cases e:m=hd
   ·subst e; exact ⟨_,hwh⟩
   ·obtain ⟨k',hk⟩:=ih (hpred m hmn e a he);exact ⟨k'+1, .back hk he fun e2=>hh (e2▸hmn)⟩
 obtain ⟨k',hk⟩:=key n hr hn;exact hdom k' hk
end
theorem Wj {near:List Int} {fr:List (List Nat)} {N:Nat} : ∀ k, ∀ x∈loopsTo near fr N k, ∃ t,t∈fr.getD x.1 []
 | 0,x,hx=>by simp [loopsTo] at hx
 | h+1,x,hx=>by
  simp only [loopsTo] at hx;split at hx
  ·exact Wj h x hx
  ·rename_i hc;rcases List.mem_append.1 hx with hx | hx
   ·exact Wj h x hx
   ·rw [List.mem_singleton] at hx;subst hx
    cases hb:backs near h (fr.getD h []) with
    | nil=>exact absurd (.inr hb) hc
    | cons t r =>
     have:t∈backs near h (fr.getD h []):=by rw [hb]; simp
     exact ⟨t,(List.mem_filter.1 this).1⟩
theorem loop_not0 {g:List (List Nat)} (hg:Ok g) (hz : ∀ q,0∉g.getD q []) {x:Nat × List Nat} (hx:x∈loopsTo (rNear g) (froms g) g.length g.length):0∉x.2:=by
 intro h0;have ho:=order_ok hg;obtain ⟨q1,q2,q3,q4,q5⟩:=heads hg g.length (Nat.le_refl _) x hx;have h1:=q4 0 h0 ((without_none hg 0).2 (Wu ho));have hx0:x.1=0:=by
  rcases (zx hg (rNear_ok hg) q1 hg.pos).1 h1 with h | h
  ·by_cases e:x.1=0
   ·exact e
   ·exact absurd (Way.start 0 (Ne.symm e)) (h.2.2 0)
  ·exact h
 obtain ⟨t,ht⟩:=Wj g.length x hx;rw [hx0] at ht;exact hz t ((mem_froms hg 0 t hg.pos).1 ht).2
theorem picked_lt (inn:List Bool) : ∀ k, ∀ x∈picked inn k,x<k
 | 0,x,h=>by simp [picked] at h
 | k+1,x,h=>by
  have ih:=picked_lt inn k;simp only [picked] at h;split at h
  ·rcases List.mem_append.1 h with h | h
   ·have:=ih x h; omega
   ·rw [List.mem_singleton] at h; omega
  ·have:=ih x h; omega
theorem WI (inn:List Bool) : ∀ k,(picked inn k).Pairwise (· < ·)
 | 0=>by simp [picked]
 | k+1=>by
  have ih:=WI inn k;simp only [picked];split
  ·refine List.pairwise_append.2 ⟨ih,by simp,fun a ha b hb => ?_⟩;rw [List.mem_singleton] at hb;have:=picked_lt inn k a ha; omega
  ·exact ih
theorem loops_sorted {near:List Int} {fr:List (List Nat)} {N:Nat} : ∀ k, ∀ x∈loopsTo near fr N k,x.2.Pairwise (· < ·)
 | 0,x,hx=>by simp [loopsTo] at hx
 | h+1,x,hx=>by
  simp only [loopsTo] at hx;split at hx
  ·exact loops_sorted h x hx
  ·rcases List.mem_append.1 hx with hx | hx
   ·exact loops_sorted h x hx
   ·rw [List.mem_singleton] at hx;subst hx;exact WI _ _
end Go.Vw.G
namespace Ss
def cutAt (b:Block) (i:Nat):Block:=⟨b.params,b.code.eraseIdx i,b.term⟩
def endWith (b:Block) (x:Ins):Block:=⟨b.params,b.code++[x],b.term⟩
def moveAt (bs:List Block) (p n i:Nat):List Block:=(bs.set n (cutAt (bs.getD n default) i)).set p (endWith (bs.getD p default) ((bs.getD n default).code.getD i default))
structure Mv (bs:List Block) (p n i:Nat) (bp bn:Block) (x:Ins):Prop where
 hp:bs[p]? = some bp
 hn:bs[n]? = some bn
 hi:bn.code[i]? = some x
 ne:p≠n
section
variable {bs:List Block} {p n i:Nat} {bp bn:Block} {x:Ins}
theorem Mv.eq (h:Mv bs p n i bp bn x):moveAt bs p n i=(bs.set n (cutAt bn i)).set p (endWith bp x):=by
 simp only [moveAt,List.getD_eq_getElem?_getD,h.hp,h.hn,h.hi,Option.getD_some]
theorem Mv.len (h:Mv bs p n i bp bn x):(moveAt bs p n i).length=bs.length:=by simp [moveAt]
theorem Mv.at (h:Mv bs p n i bp bn x) (j:Nat):(moveAt bs p n i)[j]? = if j=p then some (endWith bp x) else if j=n then some (cutAt bn i) else bs[j]? := by
 have h1:=(List.getElem?_eq_some_iff.1 h.hp).1;have h2:=(List.getElem?_eq_some_iff.1 h.hn).1;rw [h.eq]
 by_cases e1:j=p
 ·subst e1;rw [if_pos rfl,List.getElem?_set_self (by simpa using h1)]
 ·rw [if_neg e1,List.getElem?_set_ne (Ne.symm e1)]
  by_cases e2:j=n
  ·subst e2;rw [if_pos rfl,List.getElem?_set_self h2]
  ·rw [if_neg e2,List.getElem?_set_ne (Ne.symm e2)]
theorem Yu {α:Type} {a:α} : ∀ {l:List α} {k:Nat},l[k]? = some a→l.Perm (a::l.eraseIdx k)
 | [],k,h=>by simp at h
 | b::l,0,h=>by
  simp only [List.getElem?_cons_zero,Option.some.injEq] at h;subst h; exact List.Perm.refl _
 | b::l,k+1,h=>by
  have:=Yu (l:=l) (k:=k) (by simpa using h);rw [List.eraseIdx_cons_succ];exact (this.cons b).trans (List.Perm.swap a b _)
theorem jck {α:Type} {l:List α} {k:Nat} {a b:α} (h:l[k]? = some a):l.Perm (a::l.eraseIdx k)∧(l.set k b).Perm (b::l.eraseIdx k):=by
 have hk:=(List.getElem?_eq_some_iff.1 h).1;refine ⟨Yu h, ?_⟩;have:=Yu (l:=l.set k b) (k:=k) (a:=b) (List.getElem?_set_self hk)
 rwa [List.eraseIdx_set_eq] at this
theorem Mv.perm (h:Mv bs p n i bp bn x) {α:Type} (F:Block→List α) (X:List α) (h1:(F bn).Perm (X++F (cutAt bn i))) (h2:(F (endWith bp x)).Perm (X++F bp)):((moveAt bs p n i).flatMap F).Perm (bs.flatMap F):=by
 have hp2:(bs.set n (cutAt bn i))[p]? = some bp:=by rw [List.getElem?_set_ne (Ne.symm h.ne)]; exact h.hp
 obtain ⟨a1,a2⟩:=jck (b:=cutAt bn i) h.hn;obtain ⟨c1,c2⟩:=jck (b:=endWith bp x) hp2;rw [h.eq];generalize (bs.set n (cutAt bn i)).eraseIdx p=E at *
 generalize bs.eraseIdx n=G at *
 have e1:=c2.flatMap_right F;have e2:=c1.flatMap_right F;have e3:=a2.flatMap_right F;have e4:=a1.flatMap_right F;simp only [List.flatMap_cons] at e1 e2 e3 e4;refine e1.trans ?_;refine (h2.append_right _).trans ?_;rw [List.append_assoc];refine ((e2.symm.trans e3).append_left X).trans ?_;rw [←List.append_assoc];exact (h1.symm.append_right _).trans e4.symm
theorem code_perm {l:List Ins} {i:Nat} {x:Ins} (h:l[i]? = some x):l.Perm (x::l.eraseIdx i):=(jck (b:=x) h).1
theorem Mv.all (h:Mv bs p n i bp bn x):(allL (moveAt bs p n i)).Perm (allL bs):=by
 have hc:=code_perm h.hi;refine h.perm (fun b=>b.params++zS b.code) x.outs ?_ ?_
 ·have h1:(zS bn.code).Perm (x.outs++zS (bn.code.eraseIdx i)):=by
   have:=hc.flatMap_right Ins.outs;simpa [zS] using this
  refine (h1.append_left _).trans ?_;simp only [cutAt];rw [←List.append_assoc, ←List.append_assoc];exact List.perm_append_comm.append_right _
 ·simp only [endWith,zS,List.flatMap_append,List.flatMap_cons,List.flatMap_nil,List.append_nil];rw [←List.append_assoc];exact List.perm_append_comm
theorem Mv.codes (h:Mv bs p n i bp bn x):((moveAt bs p n i).flatMap Block.code).Perm (bs.flatMap Block.code):=by
 refine h.perm Block.code [x] (code_perm h.hi) ?_;simp only [endWith];exact List.perm_append_comm
theorem Mv.count (h:Mv bs p n i bp bn x):count (moveAt bs p n i)=count bs:=by
 have e : ∀ l:List Block,Ss.count l=(l.flatMap Block.code).length:=fun l=>by
  rw [List.length_flatMap]; rfl
 rw [e,e,h.codes.length_eq]
theorem Mv.map (h:Mv bs p n i bp bn x) {α:Type} (F:Block→α) (h1:F (cutAt bn i)=F bn) (h2:F (endWith bp x)=F bp):(moveAt bs p n i).map F=bs.map F:=by
 apply List.ext_getElem?
 intro j;rw [List.getElem?_map,List.getElem?_map,h.at j]
 by_cases e1:j=p
 ·subst e1; rw [if_pos rfl,h.hp,Option.map_some,Option.map_some,h2]
 ·rw [if_neg e1]
  by_cases e2:j=n
  ·subst e2; rw [if_pos rfl,h.hn,Option.map_some,Option.map_some,h1]
  ·rw [if_neg e2]
theorem Mv.succs (h:Mv bs p n i bp bn x):succs (moveAt bs p n i)=succs bs:=h.map rowOf rfl rfl
theorem any_erase {q:Ins→Bool} : ∀ {l:List Ins} {i:Nat} {x:Ins},l[i]? = some x→q x=false→(l.eraseIdx i).any q=l.any q
 | [],i,x,h,_=>by simp at h
 | a::l,0,x,h,hq=>by
  simp only [List.getElem?_cons_zero,Option.some.injEq] at h;subst h; simp [hq]
 | a::l,i+1,x,h,hq=>by
  simp only [List.eraseIdx_cons_succ,List.any_cons,any_erase (l:=l) (by simpa using h) hq]
theorem Mv.ticks (h:Mv bs p n i bp bn x) (hx:x.op≠258):(moveAt bs p n i).map tickB=bs.map tickB:=by
 refine h.map tickB ?_ ?_
 ·exact any_erase (q:=fun y=>decide (y.op=258)) h.hi (by simpa using hx)
 ·simp [tickB,endWith,hx]
end
theorem jah {op:Int} (h:pure op=true):op≠258:=fun e=>by rw [e,pure_tick] at h; cases h
theorem WW {l:List Ins} {i q:Nat}:(l.eraseIdx i)[q]? = if q<i then l[q]? else l[q+1]? := List.getElem?_eraseIdx
def psi (n i u K:Nat):Nat:=if u=n∧i<K then K-1 else K
theorem ask_later {ts:List Int} {ds:List Def} {near:List Int} {block pos pos' v t:Int} (h:askOk ts ds near block pos v t=true) (hp:pos≤pos'):askOk ts ds near block pos' v t=true:=by
 simp only [askOk,Bool.and_eq_true] at h ⊢;refine ⟨h.1, ?_⟩;have h2:=h.2;split at h2
 ·rename_i e;rw [if_pos e];simp only [decide_eq_true_eq] at h2 ⊢;omega
 ·rename_i e; rw [if_neg e]; exact h2
theorem move_check {e:Env} {f:Fn} (h:check e f=true) {p n i:Nat} {bp bn:Block} {x:Ins} (hm:Mv f.blocks p n i bp bn x) (hx:pure x.op=true)
  (D2:Go.Vw.G.dominates (Go.Vw.G.nearI (succs f.blocks)) n p=false) (D1:Go.Vw.G.dominates (Go.Vw.G.nearI (succs f.blocks)) p n=true) (D3 : ∀ u:Nat,u<f.blocks.length→Go.Vw.G.dominates (Go.Vw.G.nearI (succs f.blocks)) n u=true→Go.Vw.G.dominates (Go.Vw.G.nearI (succs f.blocks)) p u=true)
  (D4 : ∀ ds,defsOf f=some ds → ∀ a∈x.args,(ds.getD a.toNat default).block≠n∧((ds.getD a.toNat default).block=p∨Go.Vw.G.dominates (Go.Vw.G.nearI (succs f.blocks)) (ds.getD a.toNat default).block p=true)) :
  check e ⟨f.sig,f.types,moveAt f.blocks p n i⟩=true:=by
 have hd:=check_dok h;have hsm:=check_small h;obtain ⟨hh,ds,hds,hsh,hbs⟩:=check_spec h;have D4:=D4 ds hds;obtain ⟨hdl,hdin⟩:=defs_in hds;obtain ⟨hnd,hmade,hout⟩:=Jc hds;have hall:=hm.all;have hsu:=hm.succs;have htk:=hm.ticks (jah hx);have hcnt:=hm.count;have hat:=hm.at;have hlen:=hm.len;have hnp:((n:Nat):Int)≠(p:Nat):=fun e=>hm.ne (by omega)
 obtain ⟨g,hg⟩ : ∃ g:Fn,g=⟨f.sig,f.types,moveAt f.blocks p n i⟩:=⟨_,rfl⟩
 have hgb:g.blocks=moveAt f.blocks p n i:=by rw [hg]
 have hgs:g.sig=f.sig:=by rw [hg]
 have hgt:g.types=f.types:=by rw [hg]
 rw [←hg];rw [←hgb] at hall hsu htk hcnt hat hlen;clear hg hgb;have hrange : ∀ v∈allL f.blocks,0≤v∧v<f.types.length:=fun v hv=>by
  obtain ⟨b,hb,hv⟩:=List.mem_flatMap.1 hv;obtain ⟨k1,k2⟩:=hdin b hb;rcases List.mem_append.1 hv with hv | hv
  ·exact k1 v hv
  ·obtain ⟨x,hx,hv⟩:=List.mem_flatMap.1 hv;exact k2 x hx v hv
 obtain ⟨ds',hds'⟩:=YY (l:=g.blocks) (i:=0) (ds:=List.replicate g.types.length ⟨false,0,0⟩) (by rw [List.length_replicate,hgt]; exact fun v hv=>hrange v (hall.subset hv)) (hall.nodup_iff.2 hnd) (fun v _=>dAt_rep _ _);have hds2:defsOf g=some ds':=hds';obtain ⟨hdl',_⟩:=defs_in hds2;obtain ⟨_,hmade',hout'⟩:=Jc hds2;have hpar : ∀ m:Nat,(g.blocks.getD m default).params=(f.blocks.getD m default).params:=fun m=>by
  rw [List.getD_eq_getElem?_getD,List.getD_eq_getElem?_getD,hat m]
  by_cases e1:m=p
  ·subst e1; rw [if_pos rfl,hm.hp]; rfl
  ·rw [if_neg e1]
   by_cases e2:m=n
   ·subst e2; rw [if_pos rfl,hm.hn]; rfl
   ·rw [if_neg e2]
 have hfb : ∀ (j:Nat) (c:Block),g.blocks[j]? = some c → ∃ b,f.blocks[j]? = some b∧c.params=b.params∧c.term=b.term∧c.code=(if j=p then bp.code++[x] else if j=n then bn.code.eraseIdx i else b.code)∧(j=p→b=bp)∧(j=n→b=bn):=fun j c hc=>by
  rw [hat j] at hc
  by_cases e1:j=p
  ·subst e1;rw [if_pos rfl] at hc
   cases hc
   exact ⟨bp,hm.hp,rfl,rfl,by rw [if_pos rfl]; rfl,fun _=>rfl,fun e=>absurd e hm.ne⟩
  ·rw [if_neg e1] at hc
   by_cases e2:j=n
   ·subst e2;rw [if_pos rfl] at hc
    cases hc
    exact ⟨bn,hm.hn,rfl,rfl,by rw [if_neg e1,if_pos rfl]; rfl,fun e=>absurd e e1,fun _=>rfl⟩
   ·rw [if_neg e2] at hc;exact ⟨c,hc,rfl,rfl,by rw [if_neg e1,if_neg e2],fun e=>absurd e e1,fun e=>absurd e e2⟩
 have hbf : ∀ (j:Nat) (b:Block),f.blocks[j]? = some b → ∃ c,g.blocks[j]? = some c∧c.params=b.params∧c.code=(if j=p then bp.code++[x] else if j=n then bn.code.eraseIdx i else b.code)∧(j=p→b=bp)∧(j=n→b=bn):=fun j b hb=>by
  have hjl:j<g.blocks.length:=by rw [hlen]; exact (List.getElem?_eq_some_iff.1 hb).1
  obtain ⟨b',hb',q1,q2,q3,q4⟩:=hfb j _ (List.getElem?_eq_getElem hjl);rw [hb] at hb'
  cases hb'
  exact ⟨_,List.getElem?_eq_getElem hjl,q1,q3,q4⟩
 have hhead:checkHead e g=true:=by
  simp only [checkHead,Bool.and_eq_true,decide_eq_true_eq,List.all_eq_true] at hh ⊢;obtain ⟨⟨⟨⟨⟨g1,g2⟩,g3⟩,g4⟩,g5⟩,g6⟩:=hh;refine ⟨⟨⟨⟨⟨g1, ?_⟩,by rw [hlen]; exact g3⟩,by rw [hgt]; exact g4⟩,by rw [hgs]; exact g5⟩,fun c hc => ?_⟩
  ·obtain ⟨k1,k2,k3⟩:=(small_iff f).1 hsm;refine (small_iff g).2 ⟨?_,fun c hc => ?_,by rw [hcnt]; exact k3⟩
   ·simp only [Fn.heads,hlen,hgs,hgt] at k1 ⊢; exact k1
   ·obtain ⟨j,hj⟩:=List.mem_iff_getElem?.1 hc;obtain ⟨b,hb,q1,q2,q3,_⟩:=hfb j c hj;have hsb:=k2 b (List.mem_of_getElem? hb);have hsp:=k2 bp (List.mem_of_getElem? hm.hp);have hsn:=k2 bn (List.mem_of_getElem? hm.hn);simp only [Block.small,Bool.and_eq_true,List.all_eq_true] at hsb hsp hsn ⊢;rw [q1,q2];refine ⟨⟨hsb.1.1,fun y hy => ?_⟩,hsb.2⟩;rw [q3] at hy;split at hy
    ·rcases List.mem_append.1 hy with hy | hy
     ·exact hsp.1.2 y hy
     ·rw [List.mem_singleton] at hy; subst hy;exact hsn.1.2 _ (List.mem_of_getElem? hm.hi)
    ·split at hy
     ·exact hsn.1.2 y (List.mem_of_mem_eraseIdx hy)
     ·exact hsb.1.2 y hy
  ·obtain ⟨j,hj⟩:=List.mem_iff_getElem?.1 hc;obtain ⟨b,hb,q1,_⟩:=hfb j c hj;rw [q1];exact g6 b (List.mem_of_getElem? hb)
 have hshape:shapeOk g=true:=by
  simp only [shapeOk,Bool.and_eq_true] at hsh ⊢;have hr:rings g.blocks (Go.Vw.G.nats (succs f.blocks))=rings f.blocks (Go.Vw.G.nats (succs f.blocks)):=by simp only [rings,htk]
  rw [hsu,hlen,hgs,hpar 0,hgt,hr];refine ⟨hsh.1, ?_⟩;have h5:=hsh.2;have h0:0<f.blocks.length:=List.length_pos_iff.2 hd.ne;obtain ⟨b0,hb0⟩ : ∃ b0,f.blocks[0]? = some b0:=⟨_,List.getElem?_eq_getElem h0⟩
  obtain ⟨c0,hc0,_,q3,q4,q5⟩:=hbf 0 b0 hb0;have e1:f.blocks.getD 0 default=b0:=by rw [List.getD_eq_getElem?_getD,hb0]; rfl
  have e2:g.blocks.getD 0 default=c0:=by rw [List.getD_eq_getElem?_getD,hc0]; rfl
  rw [e1] at h5;rw [e2,q3]
  by_cases ep:0=p
  ·rw [if_pos ep, ←q4 ep]
   cases hb:b0.code with
   | nil=>rw [hb] at h5; cases h5
   | cons y r=>rw [hb] at h5; simpa using h5
  ·rw [if_neg ep]
   by_cases en:0=n
   ·rw [if_pos en, ←q5 en];have hi':=hm.hi;rw [←q5 en] at hi'
    cases hb:b0.code with
    | nil=>rw [hb] at h5; cases h5
    | cons y r =>
     rw [hb] at h5 hi';simp only [decide_eq_true_eq] at h5
     cases i with
     | zero =>
      simp only [List.getElem?_cons_zero,Option.some.injEq] at hi';subst hi';exact absurd h5 (jah hx)
     | succ i=>simpa using h5
   ·rw [if_neg en]; exact h5
 have fact : ∀ v:Int,0≤v→(ds.getD v.toNat default).made=true→(∃ B P P':Int,ds.getD v.toNat default=⟨true,B,P⟩∧ds'.getD v.toNat default=⟨true,B,P'⟩∧(B=n→(P<i→P'=P)∧(i<P→P'=P-1)∧P≠i)∧(B≠n→P'=P)∧(B=p→P<bp.code.length))∨(ds.getD v.toNat default=⟨true,n,i⟩∧ds'.getD v.toNat default=⟨true,p,bp.code.length⟩):=by
  intro v q1 q4;have hv:=hmade v q1 q4;obtain ⟨b2,hb2,hv2⟩:=List.mem_flatMap.1 hv;obtain ⟨j,hj⟩:=List.mem_iff_getElem?.1 hb2;obtain ⟨c,hc,r1,r2,r3,r4⟩:=hbf j b2 hj;rcases List.mem_append.1 hv2 with hp | ho
  ·have a1:=qh hds j b2 hj v hp;have a2:=qh hds' j c hc v (by rw [r1]; exact hp);rw [Nat.zero_add] at a1 a2;exact .inl ⟨_,_,_,a1,a2,fun _=>⟨fun _=>rfl,fun h=>by omega,by omega⟩,fun _=>rfl,fun _=>by omega⟩
  ·obtain ⟨y,hy,hvy⟩:=List.mem_flatMap.1 ho;obtain ⟨k,hk⟩:=List.mem_iff_getElem?.1 hy;have a1:=hout j b2 hj k y hk v hvy;have hkl:=(List.getElem?_eq_some_iff.1 hk).1
   by_cases e1:j=p
   ·subst e1;rw [if_pos rfl] at r2;rw [r3 rfl] at hk hkl;have a2:=hout' j c hc k y (by rw [r2,List.getElem?_append_left hkl]; exact hk) v hvy;exact .inl ⟨_,_,_,a1,a2,fun e=>absurd e (Ne.symm hnp),fun _=>rfl,fun _=>by omega⟩
   ·rw [if_neg e1] at r2
    by_cases e2:j=n
    ·subst e2;rw [if_pos rfl] at r2;rw [r4 rfl] at hk
     by_cases e3:k=i
     ·subst e3;rw [hm.hi] at hk
      cases hk
      obtain ⟨cp,hcp,_,s2,_,_⟩:=hbf p bp hm.hp;rw [if_pos rfl] at s2;have a2:=hout' p cp hcp bp.code.length x (by rw [s2,List.getElem?_append_right (Nat.le_refl _)]; simp) v hvy;exact .inr ⟨a1,a2⟩
     ·by_cases e4:k<i
      ·have a2:=hout' j c hc k y (by rw [r2,WW,if_pos e4]; exact hk) v hvy;exact .inl ⟨_,_,_,a1,a2,fun _=>⟨fun _=>rfl,fun h=>by omega,by omega⟩,fun e=>absurd rfl e,fun e=>absurd e hnp⟩
      ·have a2:=hout' j c hc (k-1) y (by rw [r2,WW,if_neg (by omega),Nat.sub_add_cancel (by omega)]; exact hk) v hvy;exact .inl ⟨_,_,_,a1,a2,fun _=>⟨fun h=>by omega,fun h=>by omega,by omega⟩,fun e=>absurd rfl e,fun e=>absurd e hnp⟩
    ·rw [if_neg e2] at r2;have a2:=hout' j c hc k y (by rw [r2]; exact hk) v hvy;exact .inl ⟨_,_,_,a1,a2,fun e=>absurd (by omega) e2,fun _=>rfl,fun e=>absurd (by omega) e1⟩
 have key : ∀ (u K:Nat) (v t:Int),u<f.blocks.length → ¬ (u=n∧K=i)→askOk f.types ds (Go.Vw.G.nearI (succs f.blocks)) u K v t=true→askOk g.types ds' (Go.Vw.G.nearI (succs f.blocks)) u (psi n i u K:Nat) v t=true:=by
  intro u K v t hul hne ha;simp only [askOk,Bool.and_eq_true,decide_eq_true_eq] at ha ⊢;obtain ⟨⟨⟨⟨q1,q2⟩,q3⟩,q4⟩,q5⟩:=ha;have rng:(0≤v∧v<ds'.length)∧g.types.getD v.toNat 0=t:=⟨⟨q1,by rw [hdl',hgt, ←hdl]; exact q2⟩,by rw [hgt]; exact q3⟩
  rcases fact v q1 q4 with ⟨B,P,P',f1,f2,f3,f4,f5⟩ | ⟨f1,f2⟩
  ·rw [f1] at q5;rw [f2];refine ⟨⟨rng,rfl⟩, ?_⟩;simp only at q5 ⊢
   by_cases eB:B=u
   ·rw [if_pos eB,decide_eq_true_eq] at q5 ⊢;unfold psi
    by_cases en:u=n
    ·obtain ⟨g1,g2,g3⟩:=f3 (by omega);split
     ·rcases Int.lt_or_gt_of_ne g3 with h | h
      ·rw [g1 h]; omega
      ·rw [g2 h]; omega
     ·rw [g1 (by omega)]; exact q5
    ·rw [if_neg (fun h=>en h.1),f4 (by omega)]; exact q5
   ·rw [if_neg eB] at q5 ⊢; exact q5
  ·rw [f1] at q5;rw [f2];refine ⟨⟨rng,rfl⟩, ?_⟩;simp only at q5 ⊢
   by_cases ep:(p:Int)=u
   ·have:p=u:=by omega
    subst this;rw [if_neg hnp,D2] at q5
    cases q5
   ·rw [if_neg ep]
    by_cases en:(n:Int)=u
    ·have:n=u:=by omega
     subst this;exact D1
    ·rw [if_neg en] at q5;exact D3 u hul q5
 have keyA : ∀ (u K:Nat) (l t:List Int),u<f.blocks.length → ¬ (u=n∧K=i)→asks f.types ds (Go.Vw.G.nearI (succs f.blocks)) u K l t=true→asks g.types ds' (Go.Vw.G.nearI (succs f.blocks)) u (psi n i u K:Nat) l t=true :=
  fun u K l t hul hne ha=>ZB (fun x hx y hxy=>key u K x y hul hne hxy) ha
 have keyX : ∀ v t:Int,v∈x.args→askOk f.types ds (Go.Vw.G.nearI (succs f.blocks)) n i v t=true→askOk g.types ds' (Go.Vw.G.nearI (succs f.blocks)) p (bp.code.length:Nat) v t=true:=by
  intro v t hv ha;simp only [askOk,Bool.and_eq_true,decide_eq_true_eq] at ha ⊢;obtain ⟨⟨⟨⟨q1,q2⟩,q3⟩,q4⟩,q5⟩:=ha;obtain ⟨d1,d2⟩:=D4 v hv;rcases fact v q1 q4 with ⟨B,P,P',f1,f2,f3,f4,f5⟩ | ⟨f1,f2⟩
  ·rw [f1] at d1 d2;rw [f2];refine ⟨⟨⟨⟨q1,by rw [hdl',hgt, ←hdl]; exact q2⟩,by rw [hgt]; exact q3⟩,rfl⟩, ?_⟩;simp only at d1 d2 ⊢
   by_cases eB:B=p
   ·rw [if_pos eB,decide_eq_true_eq,f4 d1]; exact f5 eB
   ·rw [if_neg eB];rcases d2 with h | h
    ·exact absurd h eB
    ·exact h
  ·rw [f1] at d1;exact absurd rfl d1
 have hblocks:checkBlocks e g ds' (Go.Vw.G.nearI (succs g.blocks)) 0 g.blocks=true:=by
  rw [hsu];refine Wb fun j c hc => ?_
  rw [Nat.zero_add];obtain ⟨b,hb,w1,w2,w3,w4,w5⟩:=hfb j c hc;have hjl:=(List.getElem?_eq_some_iff.1 hb).1;have hbm:=List.mem_of_getElem? hb;obtain ⟨c1,c2⟩:=qA hbs hb;rw [Nat.zero_add] at c1 c2;have old : ∀ (k q:Nat) (y:Ins),b.code[k]? = some y → ¬ (j=n∧k=i)→psi n i j k=q→insOk e g ds' (Go.Vw.G.nearI (succs f.blocks)) j q y=true:=by
   intro k q y hk hne hq;have:=zo c1 hk;rw [Nat.zero_add] at this;simp only [insOk,Bool.and_eq_true] at this ⊢;rw [hgt];refine ⟨this.1, ?_⟩;have h9:=keyA j k _ _ hjl hne this.2;rw [hgt,hq] at h9;exact h9
  constructor
  ·refine Zj fun q y hy => ?_
   rw [Nat.zero_add];rw [w3] at hy
   by_cases e1:j=p
   ·rw [if_pos e1, ←w4 e1] at hy
    by_cases hq:q<b.code.length
    ·rw [List.getElem?_append_left hq] at hy;refine old q q y hy (fun h=>hm.ne (e1▸h.1)) ?_;unfold psi; rw [if_neg (fun h=>hm.ne (e1▸h.1))]
    ·rw [List.getElem?_append_right (by omega)] at hy;have hql:q=b.code.length:=by
      have:=(List.getElem?_eq_some_iff.1 hy).1;simp at this; omega
     subst hql;simp only [Nat.sub_self,List.getElem?_cons_zero,Option.some.injEq] at hy;subst hy;obtain ⟨d1,d2⟩:=qA hbs hm.hn;have:=zo d1 hm.hi;rw [Nat.zero_add,Nat.zero_add] at this;simp only [insOk,Bool.and_eq_true] at this ⊢;rw [hgt];refine ⟨this.1, ?_⟩;rw [w4 e1,e1];have h9:asks g.types ds' (Go.Vw.G.nearI (succs f.blocks)) p (bp.code.length:Nat) x.args _=true:=ZB (fun v hv t ht=>keyX v t hv ht) this.2;rw [hgt] at h9;exact h9
   ·rw [if_neg e1] at hy
    by_cases e2:j=n
    ·rw [if_pos e2, ←w5 e2,WW] at hy
     by_cases hq:q<i
     ·rw [if_pos hq] at hy;refine old q q y hy (fun h=>by omega) ?_;unfold psi; rw [if_neg (fun h=>by omega)]
     ·rw [if_neg hq] at hy;refine old (q+1) q y hy (fun h=>by omega) ?_;unfold psi; rw [if_pos ⟨e2,by omega⟩]; rfl
    ·rw [if_neg e2] at hy;refine old q q y hy (fun h=>e2 h.1) ?_;unfold psi; rw [if_neg (fun h=>e2 h.1)]
  ·have hposle:(psi n i j b.code.length:Nat)≤c.code.length:=by
    rw [w3];unfold psi
    by_cases e1:j=p
    ·rw [if_pos e1,if_neg (fun h=>hm.ne (e1▸h.1)),w4 e1]; simp
    ·rw [if_neg e1]
     by_cases e2:j=n
     ·have hil:=(List.getElem?_eq_some_iff.1 hm.hi).1;rw [if_pos e2,if_pos ⟨e2,by rw [w5 e2]; exact hil⟩,w5 e2,List.length_eraseIdx_of_lt hil]; exact Nat.le_refl _
     ·rw [if_neg e2,if_neg (fun h=>e2 h.1)]; exact Nat.le_refl _
   have hne : ¬ (j=n∧b.code.length=i):=fun hc=>by
    have:=(List.getElem?_eq_some_iff.1 hm.hi).1;rw [←w5 hc.1] at this; omega
   have keyT : ∀ (l t:List Int),asks f.types ds (Go.Vw.G.nearI (succs f.blocks)) j b.code.length l t=true→asks g.types ds' (Go.Vw.G.nearI (succs f.blocks)) j c.code.length l t=true:=fun l t ha =>
    ZB (fun v hv y hy=>ask_later (key j _ v y hjl hne hy) (by omega)) ha
   unfold termOk at c2 ⊢;rw [w2,hgs];split at c2
   ·rename_i le mo rs heq;simp only [termTail,Bool.and_eq_true] at c2 ⊢;obtain ⟨⟨⟨⟨t1,t2⟩,t3⟩,t4⟩,t5⟩:=c2;refine ⟨⟨⟨⟨?_,t2⟩,t3⟩,keyT _ _ t4⟩,List.all_eq_true.2 fun y hy => ?_⟩
    ·split at t1
     ·rename_i hbr;rw [if_pos hbr];exact keyT _ _ t1
     ·rename_i hbr; rw [if_neg hbr]; exact t1
    ·have:=List.all_eq_true.1 t5 y hy;simp only [edgeOk,Bool.and_eq_true] at this ⊢;rw [hpar,hgt];refine ⟨this.1, ?_⟩;have h9:=keyT _ _ this.2;rw [hgt] at h9;exact h9
   ·cases c2
 simp only [check,hhead,hds2,hshape,hblocks,Bool.and_self]
end Ss
namespace Ss
open Go.Vw.G
def canMove (hm:Int→Int) (nodes:List Nat) (x:Ins):Bool:=pure x.op&&x.args.all fun a => !decide (hm a∈nodes.map Int.ofNat)
def firstB (bs:List Block) (hm:Int→Int) (nodes:List Nat):List Nat→Option (Nat × Nat)
 | []=>none
 | n::r=>match (bs.getD n default).code.findIdx? (canMove hm nodes) with
  | some i=>some (n,i)
  | none=>firstB bs hm nodes r
def first (bs:List Block) (hm:Int→Int):List (Nat × List Nat)→Option (Nat × Nat × Nat)
 | []=>none
 | l::r=>match porch bs l.1 (l.2.map Int.ofNat) with
  | none=>first bs hm r
  | some p=>match firstB bs hm l.2 l.2 with
   | some m=>some (p.toNat,m.1,m.2)
   | none=>first bs hm r
theorem jaG {bs:List Block} {hm:Int→Int} {nodes:List Nat} : ∀ {l:List Nat} {n i:Nat},firstB bs hm nodes l=some (n,i)→n∈l ∧ ∃ x,(bs.getD n default).code[i]? = some x∧canMove hm nodes x=true
 | [],n,i,h=>by simp [firstB] at h
 | m::l,n,i,h=>by
  rw [firstB] at h;split at h
  ·rename_i j hj
   cases h
   obtain ⟨h1,h2,_⟩:=List.findIdx?_eq_some_iff_getElem.1 hj;exact ⟨by simp,_,List.getElem?_eq_getElem h1,h2⟩
  ·obtain ⟨h1,h2⟩:=jaG h;exact ⟨by simp [h1],h2⟩
theorem YE {bs:List Block} {hm:Int→Int} : ∀ {lp:List (Nat × List Nat)} {p n i:Nat},first bs hm lp=some (p,n,i) → ∃ l∈lp, ∃ q,porch bs l.1 (l.2.map Int.ofNat)=some q∧p=q.toNat∧n∈l.2 ∧ ∃ x,(bs.getD n default).code[i]? = some x∧canMove hm l.2 x=true
 | [],p,n,i,h=>by simp [first] at h
 | l::r,p,n,i,h=>by
  rw [first] at h;split at h
  ·obtain ⟨l',h1,h2⟩:=YE h;exact ⟨l',by simp [h1],h2⟩
  ·rename_i q hq;split at h
   ·rename_i m hm'
    cases h
    obtain ⟨h1,h2⟩:=jaG (n:=m.1) (i:=m.2) hm';exact ⟨l,by simp,q,hq,rfl,h1,h2⟩
   ·obtain ⟨l',h1,h2⟩:=YE h;exact ⟨l',by simp [h1],h2⟩
theorem WV {q r:Ins→Bool} : ∀ {l:List Ins},(∀ x∈l,q x=r x)→l.findIdx? q=l.findIdx? r
 | [],_=>rfl
 | a::l,h=>by rw [List.findIdx?_cons,List.findIdx?_cons,h a (by simp),WV fun x hx=>h x (by simp [hx])]
theorem jcB {hm hm':Int→Int} {nodes:List Nat} {x:Ins} (h : ∀ a∈x.args,hm a=hm' a):canMove hm nodes x=canMove hm' nodes x:=by
 unfold canMove
 congr 1
 rw [Bool.eq_iff_iff,List.all_eq_true,List.all_eq_true];exact ⟨fun k a ha=>by rw [←h a ha]; exact k a ha,fun k a ha=>by rw [h a ha]; exact k a ha⟩
theorem Ze {bs:List Block} {hm hm':Int→Int} {nodes:List Nat} (h : ∀ n:Nat, ∀ x∈(bs.getD n default).code, ∀ a∈x.args,hm a=hm' a) : ∀ l:List Nat,firstB bs hm nodes l=firstB bs hm' nodes l
 | []=>rfl
 | n::l=>by rw [firstB,firstB,WV fun x hx=>jcB (h n x hx),Ze h l]
theorem Wm {bs:List Block} {hm hm':Int→Int} (h : ∀ n:Nat, ∀ x∈(bs.getD n default).code, ∀ a∈x.args,hm a=hm' a) : ∀ lp:List (Nat × List Nat),first bs hm lp=first bs hm' lp
 | []=>rfl
 | l::r=>by rw [first,first,Ze h l.2,Wm h r]
def homeOf (f:Fn) (v:Int):Int:=(((defsOf f).getD []).getD v.toNat default).block
noncomputable def lps (bs:List Block):List (Nat × List Nat):=loopsTo (rNear (nats (succs bs))) (froms (nats (succs bs))) (nats (succs bs)).length (nats (succs bs)).length
def weigh (w:Nat→Nat):Nat→List Block→Nat
 | _,[]=>0
 | j,b::bs=>b.code.length*w j+weigh w (j+1) bs
theorem ZJ {w:Nat→Nat} : ∀ {l:List Block} {j k:Nat} {b c:Block},l[k]? = some b→weigh w j (l.set k c)+b.code.length*w (j+k)=weigh w j l+c.code.length*w (j+k)
 | [],j,k,b,c,h=>by simp at h
 | a::l,j,0,b,c,h=>by
  simp only [List.getElem?_cons_zero,Option.some.injEq] at h;subst h;simp only [List.set_cons_zero,weigh,Nat.add_zero]; omega
 | a::l,j,k+1,b,c,h=>by
  have:=ZJ (w:=w) (l:=l) (j:=j+1) (k:=k) (b:=b) (c:=c) (by simpa using h);rw [List.set_cons_succ,weigh,weigh,show j+(k+1)=j+1+k by omega];omega
theorem Mv.weigh {bs:List Block} {p n i:Nat} {bp bn:Block} {x:Ins} (h:Mv bs p n i bp bn x) {w:Nat→Nat} (hw:w p<w n):Ss.weigh w 0 (moveAt bs p n i)<Ss.weigh w 0 bs:=by
 have hp2:(bs.set n (cutAt bn i))[p]? = some bp:=by rw [List.getElem?_set_ne (Ne.symm h.ne)]; exact h.hp
 have e1:=ZJ (w:=w) (j:=0) (c:=cutAt bn i) h.hn;have e2:=ZJ (w:=w) (j:=0) (c:=endWith bp x) hp2;have hil:=(List.getElem?_eq_some_iff.1 h.hi).1;rw [h.eq];have l1:(cutAt bn i).code.length=bn.code.length-1:=by simp only [cutAt,List.length_eraseIdx_of_lt hil]
 have l2:(endWith bp x).code.length=bp.code.length+1:=by simp [endWith]
 rw [l1] at e1;rw [l2] at e2;simp only [Nat.zero_add] at e1 e2;obtain ⟨m,hm⟩ : ∃ m,bn.code.length=m+1:=⟨bn.code.length-1,by omega⟩
 rw [hm,Nat.add_sub_cancel,Nat.succ_mul] at e1;rw [Nat.succ_mul] at e2;omega
theorem ZA {e:Env} {f:Fn} (h:check e f=true) {p n i:Nat} (hf:first f.blocks (homeOf f) (lps f.blocks)=some (p,n,i)) :
  ∃ bp bn x,Mv f.blocks p n i bp bn x∧pure x.op=true∧check e ⟨f.sig,f.types,moveAt f.blocks p n i⟩=true∧rk (nats (succs f.blocks)) (order (nats (succs f.blocks))) p<rk (nats (succs f.blocks)) (order (nats (succs f.blocks))) n:=by
 obtain ⟨l,hl,q,hq,rfl,hn,x,hx,hcan⟩:=YE hf;have hgr:=graphic h;have hok:=hgr.ok;have ho:=order_ok hok;obtain ⟨_,ds,hds,hsh,hbs⟩:=check_spec h;have hglen:(nats (succs f.blocks)).length=f.blocks.length:=nats_succs_len _;have hreach : ∀ u,u<f.blocks.length→u∈order (nats (succs f.blocks)):=by
  intro u hu;refine Classical.byContradiction fun hno => ?_
  have h1:=hgr.len;have h2:=ho.nd;have h3:(u::order (nats (succs f.blocks))).Nodup:=List.nodup_cons.2 ⟨hno,h2⟩;have h4:(u::order (nats (succs f.blocks))).length≤(List.range f.blocks.length).length:=List.Nodup.length_le_of_subset h3 fun y hy=>by
   rcases List.mem_cons.1 hy with rfl | hy
   ·exact List.mem_range.2 hu
   ·exact List.mem_range.2 (hgr.lt y hy)
  rw [List.length_range,List.length_cons,h1] at h4;omega
 have hrow : ∀ (u:Nat) (b:Block),f.blocks[u]? = some b→(nats (succs f.blocks)).getD u []=(rowOf b).map Int.toNat:=fun u b hb=>by
  simp only [nats,succs,List.getD_eq_getElem?_getD,List.getElem?_map,hb,Option.map_some,Option.getD_some]
 have hedge : ∀ (u:Nat) (b:Block),f.blocks[u]? = some b → ∀ t∈b.term.to,0<t.to:=by
  intro u b hb t ht;have hr:=right_to hgr.right b (List.mem_of_getElem? hb) t ht;obtain ⟨_,c2⟩:=qA hbs hb;unfold termOk at c2;split at c2
  ·rename_i le mo rs heq;simp only [termTail,Bool.and_eq_true] at c2;have:=List.all_eq_true.1 c2.2 t ht;simp only [edgeOk,Bool.and_eq_true,Bool.not_eq_true',decide_eq_false_iff_not] at this;have:=this.1;omega
  ·cases c2
 have hz : ∀ u,0∉(nats (succs f.blocks)).getD u []:=by
  intro u hm
  by_cases hu:u<f.blocks.length
  ·obtain ⟨b,hb⟩ : ∃ b,f.blocks[u]? = some b:=⟨_,List.getElem?_eq_getElem hu⟩
   rw [hrow u b hb] at hm;obtain ⟨z,hz,hz0⟩:=List.mem_map.1 hm;obtain ⟨t,ht,rfl⟩:=List.mem_map.1 hz;have:=hedge u b hb t ht;omega
  ·rw [List.getD_eq_getElem?_getD,List.getElem?_eq_none (by omega)] at hm;simp at hm
 have h0:0∉l.2:=loop_not0 hok hz hl;obtain ⟨a1,a2,a3,a4,a5⟩:=heads hok _ (Nat.le_refl _) l hl;have hpred : ∀ m∈l.2,m≠l.1 → ∀ u,m∈(nats (succs f.blocks)).getD u []→u∈l.2:=fun m hm hne u hu=>by
  refine a5 m hm hne u ((mem_froms hok m u (a3 m hm)).2 ⟨?_,hu⟩)
  by_cases hul:u<(nats (succs f.blocks)).length
  ·exact hul
  ·rw [List.getD_eq_getElem?_getD,List.getElem?_eq_none (by omega)] at hu; simp at hu
 obtain ⟨k,bp,rfl,hbp,hkind,hkn,hkh,huniq⟩:=porch_spec hq;have hin : ∀ u:Nat,(u:Int)∈l.2.map Int.ofNat↔u∈l.2:=fun u=>by
  rw [List.mem_map];constructor
  ·rintro ⟨w,hw,e⟩;have:w=u:=by have e2:(w:Int)=(u:Int):=e; omega
   exact this▸hw
  ·exact fun hu=>⟨u,hu,rfl⟩
 rw [hin] at hkn;have hrowM : ∀ (u:Nat) (b:Block),f.blocks[u]? = some b→(l.1∈(nats (succs f.blocks)).getD u []↔((l.1:Nat):Int)∈rowOf b):=fun u b hb=>by
  rw [hrow u b hb,List.mem_map];constructor
  ·rintro ⟨z,hz,e⟩;obtain ⟨t,ht,rfl⟩:=List.mem_map.1 hz;have:=hedge u b hb t ht;have e2:t.to=((l.1:Nat):Int):=by omega
   rw [←e2]; exact hz
  ·exact fun hz=>⟨_,hz,by simp⟩
 have hport : ∀ u,u∉l.2→l.1∈(nats (succs f.blocks)).getD u []→u=k:=fun u hu hm=>by
  by_cases hul:u<f.blocks.length
  ·obtain ⟨b,hb⟩ : ∃ b,f.blocks[u]? = some b:=⟨_,List.getElem?_eq_getElem hul⟩
   exact huniq u b hb (by rw [hin]; exact hu) ((hrowM u b hb).1 hm)
  ·rw [List.getD_eq_getElem?_getD,List.getElem?_eq_none (by omega)] at hm; simp at hm
 have hkl:=(List.getElem?_eq_some_iff.1 hbp).1;have hnl:n<f.blocks.length:=by rw [←hglen]; exact a3 n hn
 have hdom:Dom (nats (succs f.blocks)) (order (nats (succs f.blocks))) k n:=porch_dom hpred hport h0 n hn;have hne:k≠n:=fun e=>hkn (e▸hn)
 have hlt:=hdom.rk ho (hreach k hkl) (hreach n hnl) hne;have hN:=rNear_ok hok;have dI : ∀ {u v:Nat},u<f.blocks.length→v<f.blocks.length→(dominates (Go.Vw.G.nearI (succs f.blocks)) u v=true↔Dom (nats (succs f.blocks)) (order (nats (succs f.blocks))) u v):=fun {u v} hu hv=>by
  rw [hgr.near,zx hok hN (by omega) (by omega)];constructor
  ·rintro (h | h)
   ·exact h.2.2
   ·subst h; exact Dom.self _
  ·exact fun h => .inl ⟨hreach u hu,hreach v hv,h⟩
 obtain ⟨bn,hbn⟩ : ∃ b,f.blocks[n]? = some b:=⟨_,List.getElem?_eq_getElem hnl⟩
 have hbnd:f.blocks.getD n default=bn:=by rw [List.getD_eq_getElem?_getD,hbn]; rfl
 rw [hbnd] at hx;have hmv:Mv f.blocks k n i bp bn x:=⟨hbp,hbn,hx,hne⟩
 simp only [canMove,Bool.and_eq_true,List.all_eq_true,Bool.not_eq_true',decide_eq_false_iff_not] at hcan;rw [Int.toNat_natCast];refine ⟨bp,bn,x,hmv,hcan.1,move_check h hmv hcan.1 ?_ ((dI hkl hnl).2 hdom) (fun u hu hd=>(dI hkl hu).2 (hdom.trans ((dI hnl hu).1 hd))) ?_,hlt⟩
 ·cases hc:dominates (Go.Vw.G.nearI (succs f.blocks)) n k with
  | false=>rfl
  | true=>exact absurd (hdom.anti ho ((dI hnl hkl).1 hc) (hreach k hkl) (hreach n hnl)) hne
 ·intro ds2 hds2 a ha;rw [hds] at hds2
  cases hds2
  have hho:homeOf f a=(ds.getD a.toNat default).block:=by simp only [homeOf,hds,Option.getD_some]
  have hnot:=hcan.2 a ha;rw [hho] at hnot;obtain ⟨c1,_⟩:=qA hbs hbn;have hins:=zo c1 hx;rw [Nat.zero_add,Nat.zero_add] at hins;simp only [insOk,Bool.and_eq_true] at hins;obtain ⟨t,ht⟩:=jaI hins.2 a ha;simp only [askOk,Bool.and_eq_true,decide_eq_true_eq] at ht;obtain ⟨⟨⟨⟨q1,q2⟩,q3⟩,q4⟩,q5⟩:=ht;obtain ⟨_,hmade,hout⟩:=Jc hds;obtain ⟨b2,hb2,hv2⟩:=List.mem_flatMap.1 (hmade a q1 q4);obtain ⟨j,hj⟩:=List.mem_iff_getElem?.1 hb2;have hjl:=(List.getElem?_eq_some_iff.1 hj).1;have hB:(ds.getD a.toNat default).block=(j:Int):=by
   rcases List.mem_append.1 hv2 with hp | ho2
   ·have:=qh hds j b2 hj a hp;rw [Nat.zero_add] at this;exact congrArg Def.block this
   ·obtain ⟨y,hy,hvy⟩:=List.mem_flatMap.1 ho2;obtain ⟨k2,hk2⟩:=List.mem_iff_getElem?.1 hy;have:=hout j b2 hj k2 y hk2 a hvy;exact congrArg Def.block this
  rw [hB] at hnot q5 ⊢;rw [hin] at hnot;have hjn:j≠n:=fun e=>hnot (e▸hn)
  refine ⟨fun e=>hjn (by omega), ?_⟩;rw [if_neg (fun e=>hjn (by omega))] at q5
  by_cases hjk:j=k
  ·exact .inl (by omega)
  ·refine .inr ((dI hjl hkl).2 ?_);exact out_dom hpred a2 ((hrowM k bp hbp).2 hkh) h0 hnot hn ((ho.mem n).1 (hreach n hnl)) ((dI hjl hnl).1 q5)
end Ss
namespace Ss
def porchF (f:Fn) (head:Int) (nodes:List Int):Option Int:=if f.small then porch f.blocks head nodes else none
theorem scanRow_cons (head:Int) (i:Nat) (a:Int) (l:List Int) (st:Int × Nat):scanRow head i (a::l) st=scanRow head i l (if a=head then ((i:Int),st.2+1) else st):=by simp [scanRow]
end Ss
namespace Go.Vw
open Go.Proofs Go.RowKit
attribute [-simp] List.map_set
def WH:Option Int→V
 | none => .tuple [vint 0, .bool false]
 | some p => .tuple [vint p, .bool true]
theorem vl_nat (l:List Nat):vl vnat l=vl vint (l.map Int.ofNat):=by simp [vl,List.map_map]
theorem Porch_v (f:Ss.Fn) (hf:f.Fits) (head:Int) (nodes:List Int) (hn:nodes.length<2^63):VPure Tryz.prog 28 [ql f,vint head,vl vint nodes] (WH (Ss.porchF f head nodes)):=by
 intro S;have cs:=Succ_v f hf;have cc:=fun x=>Contains_v nodes x hn
 have hsb := @jX f;have hfb:=hf.2.2.2;obtain ⟨rows,hrows⟩ : ∃ rows,rows=if f.small then Ss.succs f.blocks else []:=⟨_,rfl⟩
 have hrl:rows.length≤4096 ∧ ∀ r∈rows,r.length≤4096:=by
  rw [hrows];split
  ·rename_i h;obtain ⟨_,h1,h2,_⟩:=hsb h;refine ⟨by simpa [Ss.succs] using h1,fun r hr => ?_⟩;obtain ⟨b,hb,rfl⟩:=List.mem_map.1 hr;simpa [Ss.rowOf] using (h2 b hb).2.1
  ·simp
 obtain ⟨R,hR⟩ : ∃ R,Ss.scanG head nodes 0 rows (0,0)=R:=⟨_,rfl⟩
 have hsp:=(Ss.scan_spec head nodes rows 0 (0,0)).2.2;rw [hR] at hsp;have hres:Ss.porchF f head nodes=if R.2≠1∨(f.blocks.getD R.1.toNat default).term.kind≠1 then none else some R.1:=by
  unfold Ss.porchF Ss.porch
  cases hs:f.small with
  | true=>rw [hs] at hrows; rw [if_pos rfl] at hrows; rw [←hrows,hR]; rfl
  | false=>rw [hs] at hrows; simp only [Bool.false_eq_true,if_false] at hrows; rw [hrows] at hR; rw [←hR]; simp [Ss.scanG]
 have hin:R.2=1 → ∃ j:Nat,R.1=(j:Int)∧j<f.blocks.length:=fun h=>by
  obtain ⟨j,l,h1,_,_,h4,_⟩:=hsp (by simpa using h);refine ⟨j,by simpa using h4, ?_⟩;have:=(List.getElem?_eq_some_iff.1 h1).1;rw [hrows] at this;split at this
  ·simpa [Ss.succs] using this
  ·simp at this
 rw [←hrows] at cs;rw [hres];clear hres hrows hsp hsb hf;obtain ⟨⟨fi,fo⟩,ts,bs⟩:=f;have cs':VPure Tryz.prog 26 [.agg [vl vint fi,vl vint fo,vl vint ts,vl jb bs]] (vl (vl vint) rows):=cs;simp only at *
 refine QB (c:=jd Tryz.f28) Tryz.func28 Tryz.ntmps28 fun hwf=>?_
 refine QT ?_;refine QY ?_;refine QH 3 0 ?_;refine QO [1,2,3] ?_;refine QK [] ?_
 repeat first|refine QG ?_|refine QY ?_
 refine QT ?_;refine QP ?_;refine QL (cs') ?_;refine QW ?_
 repeat first|refine QG ?_|refine QY ?_
 refine QT ?_;refine jc [1,2,3,8,9,15,16,17] rfl (fun c σ S' => ∃ (k:Nat) (at':Int) (many:Nat),k≤rows.length∧c=rows.length-k∧many≤4096*k∧Ss.scanG head nodes k (rows.drop k) (at',many)=R∧σ=[(1,vint head),(2,vl vint nodes),(3,(V.agg [vl vint fi,vl vint fo,vl vint ts,vl jb bs]).ref),(8,vint at'),(9,vnat many),(15,vl (vl vint) rows),(16,vnat rows.length),(17,vnat k)]∧S'=St S [] []) rows.length ?_ ?_
 ·exact ⟨0,0,0,by omega,rfl,by omega,hR,by simp [Fr.only],rfl⟩
 ·rintro c σ T ⟨k,at',many,hk,rfl,hm,hsc,rfl,rfl⟩
  by_cases hkt:k<rows.length
  ·have hw:=ji hkt (by omega);rw [List.drop_eq_getElem_cons hkt,Ss.scanG] at hsc;have hr4:=hrl.2 _ (List.getElem_mem hkt)
   by_cases hin2:(k:Int)∈nodes
   ·rw [if_pos hin2] at hsc
    repeat first|refine QG ?_|refine QY ?_ (r:=by conv=>lhs;simp[QV,hkt])
    refine QT ?_;refine QP ?_;refine jm rfl (cc (k:Int)) ?_;refine QM (by conv=>lhs;simp[QV,hin2]) ?_;refine QN ?_
    repeat first|refine QG ?_|refine QY ?_ (r:=by conv=>lhs;simp[QV,hin2,hw])
    show jp _ _ _ _ _ _ _;exact again ⟨Nat.sub_lt_sub_left hkt (Nat.lt_succ_self k),k+1,at',many,hkt,rfl,by omega,hsc,by simp [Fr.only,Fr.look],rfl⟩
   ·rw [if_neg hin2] at hsc;obtain ⟨row,hrow⟩ : ∃ r,rows[k]=r:=⟨_,rfl⟩
    rw [hrow] at hsc hr4
    repeat first|refine QG ?_|refine QY ?_ (r:=by conv=>lhs;simp[QV,hkt,hrow])
    refine QT ?_;refine QP ?_;refine jm rfl (cc (k:Int)) ?_;refine QM (by conv=>lhs;simp[QV,hin2]) ?_;refine QN ?_
    repeat first|refine QG ?_|refine QY ?_ (r:=by conv=>lhs;simp[QV,hin2])
    refine QT ?_;refine jc [1,2,3,8,9,10,15,16,17,25,26,27] rfl (fun c σ S' => ∃ (j:Nat) (at':Int) (many:Nat),j≤row.length∧c=row.length-j∧many≤4096*k+j∧Ss.scanG head nodes (k+1) (rows.drop (k+1)) (Ss.scanRow head k (row.drop j) (at',many))=R∧σ=[(1,vint head),(2,vl vint nodes),(3,(V.agg [vl vint fi,vl vint fo,vl vint ts,vl jb bs]).ref),(8,vint at'),(9,vnat many),(10,vnat k),(15,vl (vl vint) rows),(16,vnat rows.length),(17,vnat k),(25,vl vint row),(26,vnat row.length),(27,vnat j)]∧S'=St S [] []) row.length ?_ ?_
    ·exact ⟨0,at',many,by omega,rfl,by omega,hsc,by simp [Fr.only,Fr.look],rfl⟩
    ·rintro c σ T ⟨j,at',many,hj,rfl,hm,hsc,rfl,rfl⟩
     by_cases hjt:j<row.length
     ·have hwj:=ji hjt (by omega);rw [List.drop_eq_getElem_cons hjt,Ss.scanRow_cons] at hsc;have hwm:=ji (k:=many) (n:=many+1) (by omega) (by omega)
      by_cases he:row[j]=head
      ·rw [if_pos he] at hsc
       repeat first|refine QG ?_|refine QY ?_ (r:=by conv=>lhs;simp[QV,hjt,he,hwm,hwj])
       show jp _ _ _ _ _ _ _;exact again ⟨Nat.sub_lt_sub_left hjt (Nat.lt_succ_self j),j+1,(k:Int),many+1,hjt,rfl,by omega,hsc,by simp [Fr.only,Fr.look],rfl⟩
      ·rw [if_neg he] at hsc
       repeat first|refine QG ?_|refine QY ?_ (r:=by conv=>lhs;simp[QV,hjt,he,hwj])
       show jp _ _ _ _ _ _ _;exact again ⟨Nat.sub_lt_sub_left hjt (Nat.lt_succ_self j),j+1,at',many,hjt,rfl,by omega,hsc,by simp [Fr.only,Fr.look],rfl⟩
     ·have e:row.drop j=[]:=by rw [List.drop_eq_nil_iff]; omega
      rw [e] at hsc;have hsc':Ss.scanG head nodes (k+1) (rows.drop (k+1)) (at',many)=R:=hsc
      repeat first|refine QG ?_|refine QY ?_ (r:=by conv=>lhs;simp[QV,hjt,hw])
      show jp _ _ _ _ _ _ _;exact again ⟨Nat.sub_lt_sub_left hkt (Nat.lt_succ_self k),k+1,at',many,hkt,rfl,by omega,hsc',by simp [Fr.only,Fr.look],rfl⟩
  ·have e:rows.drop k=[]:=by rw [List.drop_eq_nil_iff]; omega
   rw [e] at hsc;have hsc':(at',many)=R:=hsc;subst hsc';simp only at hin ⊢
   by_cases h1:many=1
   ·obtain ⟨q,rfl,hq⟩:=hin h1;obtain ⟨⟨ps,code,⟨tk,ta,to,az⟩⟩,hx⟩ : ∃ b,bs[q]=b:=⟨_,rfl⟩
    have hgd:bs.getD ((q:Int)).toNat default=⟨ps,code,⟨tk,ta,to,az⟩⟩:=by rw [List.getD_eq_getElem?_getD,Int.toNat_natCast,List.getElem?_eq_getElem hq,hx]; rfl
    rw [hgd];subst h1
    by_cases ht:tk=1
    ·subst ht;rw [if_neg (by simp)]
     repeat first|refine QG ?_|refine QY ?_ (r:=by conv=>lhs;simp[QV,hkt,hq,hx])
     exact ja hwf rfl rfl
    ·rw [if_pos (.inr ht)]
     repeat first|refine QG ?_|refine QY ?_ (r:=by conv=>lhs;simp[QV,hkt,hq,hx,ht])
     exact ja hwf rfl rfl
   ·rw [if_pos (.inl h1)];have h2 : ¬ (many:Int)=1:=by omega
    repeat first|refine QG ?_|refine QY ?_ (r:=by conv=>lhs;simp[QV,hkt,h1,h2])
    exact ja hwf rfl rfl
theorem RIn_v (l:List Int) (n:Int) (hl:l.length<2^63):VPure Tryz.prog 60 [vl vint l,vint n] (.bool (decide (n∈l))):=by
 intro S;refine QB (c:=jd Tryz.f60) Tryz.func60 Tryz.ntmps60 fun hwf=>?_
 repeat first|refine QG ?_|refine QY ?_
 refine QT ?_;refine jc [0,1,5] rfl (fun c σ S' => ∃ (k:Nat),k≤l.length∧c=l.length-k∧decide (n∈l.drop k)=decide (n∈l)∧σ=[(0,vl vint l),(1,vint n),(5,vnat k)]∧S'=St S [] []) l.length ?_ ?_
 ·exact ⟨0,by omega,rfl,rfl,by simp [Fr.only],rfl⟩
 ·rintro c σ T ⟨k,hk,rfl,hd,rfl,rfl⟩
  by_cases hkt:k<l.length
  ·have hw:=ji hkt hl;rw [List.drop_eq_getElem_cons hkt] at hd
   by_cases hp:l[k]=n
   ·have h1:decide (n∈l)=true:=decide_eq_true (hp▸List.getElem_mem hkt);rw [h1]
    repeat first|refine QG ?_|refine QY ?_ (r:=by conv=>lhs;simp[QV,hkt,hp])
    exact ja hwf rfl rfl
   ·have h1:decide (n∈l.drop (k+1))=decide (n∈l):=by
     rw [←hd,Bool.eq_iff_iff,decide_eq_true_iff,decide_eq_true_iff,List.mem_cons];exact ⟨.inr,fun h=>h.resolve_left (Ne.symm hp)⟩
    repeat first|refine QG ?_|refine QY ?_ (r:=by conv=>lhs;simp[QV,hkt,hp,hw])
    show jp _ _ _ _ _ _ _;exact again ⟨Nat.sub_lt_sub_left hkt (Nat.lt_succ_self k),k+1,hkt,rfl,h1,by simp [Fr.only,Fr.look],rfl⟩
  ·have e:l.drop k=[]:=by rw [List.drop_eq_nil_iff]; omega
   rw [e] at hd;have h1:decide (n∈l)=false:=by rw [←hd]; simp
   rw [h1]
   repeat first|refine QG ?_|refine QY ?_ (r:=by conv=>lhs;simp[QV,hkt])
   exact ja hwf rfl rfl
theorem RPorch_v (f:Ss.Fn) (hf:f.Fits) (head:Int) (nodes:List Int) (hn:nodes.length<2^63):VPure Tryz.prog 21 [ql f,vint head,vl vint nodes] (WH (Ss.porchF f head nodes)):=by
 intro S;have cs:=Ke f hf;have cc:=fun x=>RIn_v nodes x hn
 have hsb := @jX f;have hfb:=hf.2.2.2;generalize hsm:f.small=sm at *
 cases sm with
 | false =>
  have hr:Ss.porchF f head nodes=none:=by unfold Ss.porchF; rw [hsm]; rfl
  rw [hr];clear hr hsm hsb hf;obtain ⟨⟨fi,fo⟩,ts,bs⟩:=f;have cs':VPure Tryz.prog 35 [.agg [vl vint fi,vl vint fo,vl vint ts,vl jb bs]] (.bool false):=cs;refine QB (c:=jd Tryz.f21) Tryz.func21 Tryz.ntmps21 fun hwf=>?_
  repeat first|refine QG ?_|refine QY ?_
  refine QT ?_;refine QP ?_;refine QL (cs') ?_;refine QW ?_
  repeat first|refine QG ?_|refine QY ?_
  exact ja hwf rfl rfl
 | true =>
 obtain ⟨rows,hrows⟩ : ∃ rows,rows=Ss.succs f.blocks:=⟨_,rfl⟩
 obtain ⟨_,hb1,hb2,_⟩:=hsb rfl;obtain ⟨R,hR⟩ : ∃ R,Ss.scanG head nodes 0 rows (0,0)=R:=⟨_,rfl⟩
 have hsp:=(Ss.scan_spec head nodes rows 0 (0,0)).2.2;rw [hR] at hsp;have hres:Ss.porchF f head nodes=if R.2≠1∨(f.blocks.getD R.1.toNat default).term.kind≠1 then none else some R.1:=by
  unfold Ss.porchF Ss.porch;rw [hsm,if_pos rfl, ←hrows,hR]
 have hin:R.2=1 → ∃ j:Nat,R.1=(j:Int)∧j<f.blocks.length:=fun h=>by
  obtain ⟨j,l,h1,_,_,h4,_⟩:=hsp (by simpa using h);refine ⟨j,by simpa using h4, ?_⟩;have:=(List.getElem?_eq_some_iff.1 h1).1;rw [hrows] at this;simpa [Ss.succs] using this
 rw [hres];clear hres hsp hsb hf hsm;obtain ⟨⟨fi,fo⟩,ts,bs⟩:=f;have cs':VPure Tryz.prog 35 [.agg [vl vint fi,vl vint fo,vl vint ts,vl jb bs]] (.bool true):=cs;simp only at *
 have hrl:rows.length=bs.length:=by rw [hrows]; simp [Ss.succs]
 refine QB (c:=jd Tryz.f21) Tryz.func21 Tryz.ntmps21 fun hwf=>?_
 refine QT ?_;refine QY ?_;refine QH 3 0 ?_;refine QO [1,2,3] ?_;refine QK [] ?_;refine QT ?_;refine QP ?_;refine QL (cs') ?_;refine QW ?_
 repeat first|refine QG ?_|refine QY ?_
 refine QT ?_;refine jc [1,2,3,8,9,10] rfl (fun c σ S' => ∃ (k:Nat) (at':Int) (many:Nat),k≤bs.length∧c=bs.length-k∧many≤4096*k∧Ss.scanG head nodes k (rows.drop k) (at',many)=R∧σ=[(1,vint head),(2,vl vint nodes),(3,(V.agg [vl vint fi,vl vint fo,vl vint ts,vl jb bs]).ref),(8,vint at'),(9,vnat many),(10,vnat k)]∧S'=St S [] []) bs.length ?_ ?_
 ·exact ⟨0,0,0,by omega,rfl,by omega,hR,by simp [Fr.only],rfl⟩
 ·rintro c σ T ⟨k,at',many,hk,rfl,hm,hsc,rfl,rfl⟩
  by_cases hkt:k<bs.length
  ·have hw:=ji hkt (by omega);have hkr:k<rows.length:=by omega
   rw [List.drop_eq_getElem_cons hkr,Ss.scanG] at hsc;have hr4:=(hb2 _ (List.getElem_mem hkt)).2.1;have hrow:rows[k]=Ss.rowOf bs[k]:=by subst hrows; simp [Ss.succs]
   obtain ⟨⟨ps,code,⟨tk,ta,to,az⟩⟩,hx⟩ : ∃ b,bs[k]=b:=⟨_,rfl⟩
   rw [hrow] at hsc;rw [hx] at hsc hr4;have hsc0:Ss.scanG head nodes (k+1) (rows.drop (k+1)) (if (k:Int)∈nodes then (at',many) else Ss.scanRow head k ((to.drop 0).map Ss.Edge.to) (at',many))=R:=hsc;simp only at hr4
   repeat first|refine QG ?_|refine QY ?_ (r:=by conv=>lhs;simp[QV,hkt])
   refine QT ?_;refine jc [1,2,3,8,9,10,11] rfl (fun c σ S' => ∃ (j:Nat) (at':Int) (many:Nat),j≤to.length∧c=to.length-j∧many≤4096*k+j∧Ss.scanG head nodes (k+1) (rows.drop (k+1)) (if (k:Int)∈nodes then (at',many) else Ss.scanRow head k ((to.drop j).map Ss.Edge.to) (at',many))=R∧σ=[(1,vint head),(2,vl vint nodes),(3,(V.agg [vl vint fi,vl vint fo,vl vint ts,vl jb bs]).ref),(8,vint at'),(9,vnat many),(10,vnat k),(11,vnat j)]∧S'=St S [] []) to.length ?_ ?_
   ·exact ⟨0,at',many,by omega,rfl,by omega,hsc0,by simp [Fr.only,Fr.look],rfl⟩
   ·rintro c σ T ⟨j,at',many,hj,rfl,hm,hsc,rfl,rfl⟩
    by_cases hjt:j<to.length
    ·have hwj:=ji hjt (by omega);have hwm:=ji (k:=many) (n:=many+1) (by omega) (by omega);rw [List.drop_eq_getElem_cons hjt,List.map_cons,Ss.scanRow_cons] at hsc;obtain ⟨⟨xt,xa⟩,hx2⟩ : ∃ b,to[j]=b:=⟨_,rfl⟩
     rw [hx2] at hsc;simp only at hsc
     by_cases he:xt=head
     ·rw [if_pos he] at hsc
      by_cases hin2:(k:Int)∈nodes
      ·rw [if_pos hin2] at hsc;have hsc':Ss.scanG head nodes (k+1) (rows.drop (k+1)) (if (k:Int)∈nodes then (at',many) else Ss.scanRow head k ((to.drop (j+1)).map Ss.Edge.to) (at',many))=R:=by rw [if_pos hin2]; exact hsc
       repeat first|refine QG ?_|refine QY ?_ (r:=by conv=>lhs;simp[QV,hkt,hx,hjt])
       refine QT ?_;refine QP ?_ (r:=by conv=>lhs;simp[QV,hkt,hx,hjt,hx2,he]);refine jm rfl (cc (k:Int)) ?_;refine QM (by conv=>lhs;simp[QV,hin2]) ?_;refine QN ?_
       repeat first|refine QG ?_|refine QY ?_ (r:=by conv=>lhs;simp[QV,hin2,hwj])
       show jp _ _ _ _ _ _ _;exact again ⟨Nat.sub_lt_sub_left hjt (Nat.lt_succ_self j),j+1,at',many,hjt,rfl,by omega,hsc',by simp [Fr.only,Fr.look],rfl⟩
      ·rw [if_neg hin2] at hsc;have hsc':Ss.scanG head nodes (k+1) (rows.drop (k+1)) (if (k:Int)∈nodes then ((k:Int),many+1) else Ss.scanRow head k ((to.drop (j+1)).map Ss.Edge.to) ((k:Int),many+1))=R:=by rw [if_neg hin2]; exact hsc
       repeat first|refine QG ?_|refine QY ?_ (r:=by conv=>lhs;simp[QV,hkt,hx,hjt])
       refine QT ?_;refine QP ?_ (r:=by conv=>lhs;simp[QV,hkt,hx,hjt,hx2,he]);refine jm rfl (cc (k:Int)) ?_;refine QM (by conv=>lhs;simp[QV,hin2]) ?_;refine QN ?_
       repeat first|refine QG ?_|refine QY ?_ (r:=by conv=>lhs;simp[QV,hin2,hwj,hwm])
       show jp _ _ _ _ _ _ _;exact again ⟨Nat.sub_lt_sub_left hjt (Nat.lt_succ_self j),j+1,(k:Int),many+1,hjt,rfl,by omega,hsc',by simp [Fr.only,Fr.look],rfl⟩
     ·rw [if_neg he] at hsc
      repeat first|refine QG ?_|refine QY ?_ (r:=by conv=>lhs;simp[QV,hkt,hx,hjt])
      refine QT ?_;refine QY ?_ (r:=by conv=>lhs;simp[QV,hkt,hx,hjt,hx2,he])
      repeat first|refine QG ?_|refine QY ?_ (r:=by conv=>lhs;simp[QV,hwj])
      show jp _ _ _ _ _ _ _;exact again ⟨Nat.sub_lt_sub_left hjt (Nat.lt_succ_self j),j+1,at',many,hjt,rfl,by omega,hsc,by simp [Fr.only,Fr.look],rfl⟩
    ·have e:to.drop j=[]:=by rw [List.drop_eq_nil_iff]; omega
     rw [e] at hsc;have hsc':Ss.scanG head nodes (k+1) (rows.drop (k+1)) (at',many)=R:=by
      revert hsc; split<;>exact id
     repeat first|refine QG ?_|refine QY ?_ (r:=by conv=>lhs;simp[QV,hkt,hx,hjt,hw])
     show jp _ _ _ _ _ _ _;exact again ⟨Nat.sub_lt_sub_left hkt (Nat.lt_succ_self k),k+1,at',many,hkt,rfl,by omega,hsc',by simp [Fr.only,Fr.look],rfl⟩
  ·have e:rows.drop k=[]:=by rw [List.drop_eq_nil_iff]; omega
   rw [e] at hsc;have hsc':(at',many)=R:=hsc;subst hsc';simp only at hin ⊢
   by_cases h1:many=1
   ·obtain ⟨q,rfl,hq⟩:=hin h1;obtain ⟨⟨ps,code,⟨tk,ta,to,az⟩⟩,hx⟩ : ∃ b,bs[q]=b:=⟨_,rfl⟩
    have hgd:bs.getD ((q:Int)).toNat default=⟨ps,code,⟨tk,ta,to,az⟩⟩:=by rw [List.getD_eq_getElem?_getD,Int.toNat_natCast,List.getElem?_eq_getElem hq,hx]; rfl
    rw [hgd];subst h1
    by_cases ht:tk=1
    ·subst ht;rw [if_neg (by simp)]
     repeat first|refine QG ?_|refine QY ?_ (r:=by conv=>lhs;simp[QV,hkt,hq,hx])
     exact ja hwf rfl rfl
    ·rw [if_pos (.inr ht)]
     repeat first|refine QG ?_|refine QY ?_ (r:=by conv=>lhs;simp[QV,hkt,hq,hx,ht])
     exact ja hwf rfl rfl
   ·rw [if_pos (.inl h1)];have h2 : ¬ (many:Int)=1:=by omega
    repeat first|refine QG ?_|refine QY ?_ (r:=by conv=>lhs;simp[QV,hkt,h1,h2])
    exact ja hwf rfl rfl
end Go.Vw
namespace Ss
/-! ### Where each value is made: the table -/
def hmPut (i:Int) (out:List Int) (l:List Int):List Int:=l.foldl (fun o v=>o.set v.toNat i) out
def hmCode (i:Int) (out:List Int) (code:List Ins):List Int:=code.foldl (fun o x=>hmPut i o x.outs) out
def hmBlk (i:Int) (out:List Int) (b:Block):List Int:=hmCode i (hmPut i out b.params) b.code
def hmAll:Nat→List Block→List Int→List Int
 | _,[],o=>o
 | i,b::r,o=>hmAll (i+1) r (hmBlk (i:Int) o b)
def homesI (f:Fn):List Int:=hmAll 0 f.blocks (List.replicate f.types.length 0)
theorem KC (i:Int) : ∀ (l out:List Int),(hmPut i out l).length=out.length
 | [],out=>rfl
 | v::l,out=>by
  have:=KC i l (out.set v.toNat i);rw [List.length_set] at this;exact this
theorem jbD (i:Int) : ∀ (l:List Ins) (out:List Int),(hmCode i out l).length=out.length
 | [],out=>rfl
 | x::l,out=>(jbD i l (hmPut i out x.outs)).trans (KC i x.outs out)
theorem hmBlk_len (i:Int) (out:List Int) (b:Block):(hmBlk i out b).length=out.length:=(jbD i _ _).trans (KC i _ _)
theorem hmAll_len : ∀ (bs:List Block) (i:Nat) (out:List Int),(hmAll i bs out).length=out.length
 | [],_,_=>rfl
 | b::r,i,out=>(hmAll_len r (i+1) _).trans (hmBlk_len _ _ _)
theorem homesI_len (f:Fn):(homesI f).length=f.types.length:=by rw [homesI,hmAll_len,List.length_replicate]
theorem jct (i:Int) {N:Nat} {v:Int} (hv:InR N v) : ∀ (l out:List Int),out.length=N→(∀ w∈l,InR N w)→(hmPut i out l).getD v.toNat 0=if v∈l then i else out.getD v.toNat 0
 | [],out,_,_=>by simp [hmPut]
 | w::l,out,ho,hl=>by
  have ih:=jct i hv l (out.set w.toNat i) (by simpa using ho) (fun u hu=>hl u (by simp [hu]));have e:hmPut i out (w::l)=hmPut i (out.set w.toNat i) l:=rfl;rw [e,ih];have hw:=hl w (by simp)
  by_cases h1:v∈l
  ·rw [if_pos h1,if_pos (by simp [h1])]
  ·rw [if_neg h1]
   by_cases h2:v=w
   ·subst h2;rw [if_pos (by simp),List.getD_eq_getElem?_getD,List.getElem?_set_self (by have:=hv.1; have:=hv.2; omega)]; rfl
   ·rw [if_neg (by simp [h1,h2]),List.getD_eq_getElem?_getD,List.getElem?_set_ne (by have:=hv.1; have:=hw.1; omega),List.getD_eq_getElem?_getD]
theorem hmCode_at (i:Int) {N:Nat} {v:Int} (hv:InR N v) : ∀ (l:List Ins) (out:List Int),out.length=N→(∀ x∈l, ∀ w∈x.outs,InR N w)→(hmCode i out l).getD v.toNat 0=if v∈zS l then i else out.getD v.toNat 0
 | [],out,_,_=>by simp [hmCode,zS]
 | x::l,out,ho,hl=>by
  have ih:=hmCode_at i hv l (hmPut i out x.outs) (by rw [KC]; exact ho) (fun u hu=>hl u (by simp [hu]));have e:hmCode i out (x::l)=hmCode i (hmPut i out x.outs) l:=rfl;rw [e,ih,jct i hv _ _ ho (hl x (by simp))];have e2:zS (x::l)=x.outs++zS l:=by simp [zS]
  rw [e2]
  by_cases h1:v∈zS l
  ·rw [if_pos h1,if_pos (by simp [h1])]
  ·rw [if_neg h1]
   by_cases h2:v∈x.outs
   ·rw [if_pos h2,if_pos (by simp [h2])]
   ·rw [if_neg h2,if_neg (by simp [h1,h2])]
theorem hmBlk_at (i:Int) {N:Nat} {v:Int} (hv:InR N v) (b:Block) (out:List Int) (ho:out.length=N) (hp : ∀ w∈b.params,InR N w) (hl : ∀ x∈b.code, ∀ w∈x.outs,InR N w):(hmBlk i out b).getD v.toNat 0=if v∈allB b then i else out.getD v.toNat 0:=by
 rw [hmBlk,hmCode_at i hv _ _ (by rw [KC]; exact ho) hl,jct i hv _ _ ho hp,allB]
 by_cases h1:v∈zS b.code
 ·rw [if_pos h1,if_pos (by simp [h1])]
 ·rw [if_neg h1]
  by_cases h2:v∈b.params
  ·rw [if_pos h2,if_pos (by simp [h2])]
  ·rw [if_neg h2,if_neg (by simp [h1,h2])]
theorem hmAll_at {N:Nat} {v:Int} (hv:InR N v) : ∀ (bs:List Block) (i:Nat) (out:List Int),out.length=N→(∀ b∈bs, ∀ w∈b.params,InR N w)→(∀ b∈bs, ∀ x∈b.code, ∀ w∈x.outs,InR N w)→(allL bs).Nodup →
  (v∉allL bs→(hmAll i bs out).getD v.toNat 0=out.getD v.toNat 0) ∧ ∀ (j:Nat) (b:Block),bs[j]? = some b→v∈allB b→(hmAll i bs out).getD v.toNat 0=((i+j:Nat):Int)
 | [],i,out,_,_,_,_=>⟨fun _=>rfl,by simp⟩
 | b::r,i,out,ho,hp,hl,hnd=>by
  have eL:allL (b::r)=allB b++allL r:=by simp [allL]
  rw [eL] at hnd;obtain ⟨_,n2,n3⟩:=List.nodup_append.1 hnd;obtain ⟨k1,k2⟩:=hmAll_at hv r (i+1) (hmBlk (i:Int) out b) (by rw [hmBlk_len]; exact ho) (fun c hc=>hp c (by simp [hc])) (fun c hc=>hl c (by simp [hc])) n2;have hb:=hmBlk_at (i:Int) hv b out ho (hp b (by simp)) (hl b (by simp));rw [eL,hmAll];refine ⟨fun hn => ?_,fun j c hj hc => ?_⟩
  ·simp only [List.mem_append,not_or] at hn;rw [k1 hn.2,hb,if_neg hn.1]
  ·cases j with
   | zero =>
    simp only [List.getElem?_cons_zero,Option.some.injEq] at hj;subst hj;rw [k1 (fun h=>n3 v hc v h rfl),hb,if_pos hc]; rfl
   | succ j =>
    rw [k2 j c (by simpa using hj) hc]
    congr 1; omega
theorem all_in {f:Fn} (hd:DOk f) : ∀ v∈allL f.blocks,InR f.types.length v:=fun v hv=>by
 obtain ⟨b,hb,hv⟩:=List.mem_flatMap.1 hv;rcases List.mem_append.1 hv with h | h
 ·exact hd.pars b hb v h
 ·obtain ⟨x,hx,h⟩:=List.mem_flatMap.1 h;exact hd.outs b hb x hx v h
theorem homes_home {e:Env} {f:Fn} (h:check e f=true) : ∀ v∈allL f.blocks,(homesI f).getD v.toNat 0=homeOf f v:=by
 intro v hv;have hd:=check_dok h;obtain ⟨_,ds,hds,_,_⟩:=check_spec h;obtain ⟨hnd,_,hout⟩:=Jc hds;obtain ⟨b,hb,hvb⟩:=List.mem_flatMap.1 hv;obtain ⟨j,hj⟩:=List.mem_iff_getElem?.1 hb;have:=(hmAll_at (all_in hd v hv) f.blocks 0 (List.replicate f.types.length 0) (by simp) hd.pars hd.outs hnd).2 j b hj hvb;rw [homesI,this,Nat.zero_add];simp only [homeOf,hds,Option.getD_some];rcases List.mem_append.1 hvb with hp | ho
 ·have:=qh hds j b hj v hp;rw [Nat.zero_add] at this;exact (congrArg Def.block this).symm
 ·obtain ⟨y,hy,hvy⟩:=List.mem_flatMap.1 ho;obtain ⟨k,hk⟩:=List.mem_iff_getElem?.1 hy;exact (congrArg Def.block (hout j b hj k y hk v hvy)).symm
theorem arg_made {e:Env} {f:Fn} (h:check e f=true) : ∀ b∈f.blocks, ∀ x∈b.code, ∀ a∈x.args,a∈allL f.blocks:=by
 intro b hb x hx a ha;obtain ⟨_,ds,hds,_,hbs⟩:=check_spec h;obtain ⟨_,hmade,_⟩:=Jc hds;obtain ⟨j,hj⟩:=List.mem_iff_getElem?.1 hb;obtain ⟨k,hk⟩:=List.mem_iff_getElem?.1 hx;obtain ⟨c1,_⟩:=qA hbs hj;have hins:=zo c1 hk;simp only [insOk,Bool.and_eq_true] at hins;obtain ⟨t,ht⟩:=jaI hins.2 a ha;simp only [askOk,Bool.and_eq_true,decide_eq_true_eq] at ht;obtain ⟨⟨⟨⟨q1,q2⟩,q3⟩,q4⟩,q5⟩:=ht;exact hmade a q1 q4
end Ss
