import Derived.Test.YtcpncecdegmliaaGreatC26
/- Part of the proof. -/
set_option linter.unusedVariables false
set_option linter.unusedSimpArgs false
set_option maxRecDepth 10000
set_option maxHeartbeats 2000000
namespace Ss
/-! ### Where values are made -/
def Ju (l:List Ins):List Int:=l.flatMap fun x=>x.outs
def allB (b:Block):List Int:=b.params++Ju b.code
def allL (bs:List Block):List Int:=bs.flatMap allB
abbrev dAt (ds:List Def) (v:Int):Def:=ds.getD v.toNat default
theorem jcm {ds:List Def} {v w:Int} {d:Def} (h0:0≤v) (h1:v<ds.length) (hw:0≤w):dAt (ds.set v.toNat d) w=if w=v then d else dAt ds w:=by
 by_cases h:w=v
 ·subst h;rw [if_pos rfl];simp only [dAt,List.getD_eq_getElem?_getD];rw [List.getElem?_set_self (by omega)]; rfl
 ·rw [if_neg h];simp only [dAt,List.getD_eq_getElem?_getD];rw [List.getElem?_set_ne (by omega)]
structure Puts (l:List Int) (ds d:List Def):Prop where
 nd:l.Nodup
 pos : ∀ v∈l,0≤v
 new : ∀ v∈l,(dAt ds v).made=false
 keep : ∀ w,0≤w→w∉l→dAt d w=dAt ds w
 made : ∀ v∈l,(dAt d v).made=true
theorem Puts.trans {l m:List Int} {ds d d':List Def} (h:Puts l ds d) (k:Puts m d d'):Puts (l++m) ds d':=by
 have hdis : ∀ v∈l,v∉m:=fun v hv hm=>by
  have h1:=k.new v hm;rw [h.made v hv] at h1; cases h1
 refine ⟨List.nodup_append.2 ⟨h.nd,k.nd,fun a ha b hb e=>hdis a ha (e▸hb)⟩,fun v hv => ?_,fun v hv => ?_,fun w h0 hw => ?_,fun v hv => ?_⟩
 ·rcases List.mem_append.1 hv with hv | hv
  ·exact h.pos v hv
  ·exact k.pos v hv
 ·rcases List.mem_append.1 hv with hv | hv
  ·exact h.new v hv
  ·by_cases hl:v∈l
   ·exact absurd hv (hdis v hl)
   ·rw [←h.keep v (k.pos v hv) hl]; exact k.new v hv
 ·simp only [List.mem_append,not_or] at hw;rw [k.keep w h0 hw.2,h.keep w h0 hw.1]
 ·rcases List.mem_append.1 hv with hv | hv
  ·rw [k.keep v (h.pos v hv) (hdis v hv)]; exact h.made v hv
  ·exact k.made v hv
theorem Puts.nil (ds:List Def):Puts [] ds ds:=⟨List.nodup_nil,by simp,by simp,fun _ _ _=>rfl,by simp⟩
theorem Ks {block pos:Int} : ∀ {l:List Int} {ds d:List Def},put block pos ds l=some d→Puts l ds d ∧ ∀ v∈l,dAt d v=⟨true,block,pos⟩
 | [],ds,d,h=>by simp only [put,Option.some.injEq] at h; subst h; exact ⟨.nil _,by simp⟩
 | v::l,ds,d,h=>by
  simp only [put] at h;split at h
  ·cases h
  ·rename_i hn;have h0:0≤v:=by omega
   have h1:v<ds.length:=by omega
   have h2:(dAt ds v).made=false:=by
    cases hm:(dAt ds v).made with
    | false=>rfl
    | true=>exact absurd (.inr (.inr hm)) hn
   obtain ⟨k1,k2⟩:=Ks h;have hp:Puts [v] ds (ds.set v.toNat ⟨true,block,pos⟩) :=
    ⟨by simp,by simpa using h0,by simpa using h2,fun w hw hnw=>by rw [jcm h0 h1 hw,if_neg (by simpa using hnw)],fun w hw=>by
     obtain rfl:w=v:=by simpa using hw
     rw [jcm h0 h1 h0,if_pos rfl]⟩
   refine ⟨hp.trans k1,fun w hw => ?_⟩
   by_cases hl:w∈l
   ·exact k2 w hl
   ·obtain rfl:w=v:=by simpa [hl] using hw
    rw [k1.keep w h0 hl,jcm h0 h1 h0,if_pos rfl]
theorem Jf {i:Int} : ∀ {l:List Ins} {k:Nat} {ds d:List Def},putCode i k ds l=some d→Puts (Ju l) ds d ∧ ∀ (j:Nat) (x:Ins),l[j]? = some x → ∀ v∈x.outs,dAt d v=⟨true,i,((k+j:Nat):Int)⟩
 | [],k,ds,d,h=>by simp only [putCode,Option.some.injEq] at h; subst h; exact ⟨.nil _,by simp⟩
 | x::l,k,ds,d,h=>by
  simp only [putCode] at h;obtain ⟨d1,h1,h2⟩:=Option.bind_eq_some_iff.1 h;obtain ⟨p1,q1⟩:=Ks h1;obtain ⟨p2,q2⟩:=Jf h2;refine ⟨p1.trans p2,fun j y hj v hv => ?_⟩
  cases j with
  | zero =>
   simp only [List.getElem?_cons_zero,Option.some.injEq] at hj;subst hj;have hn:v∉Ju l:=fun hm=>by
    have:=p2.new v hm;rw [p1.made v hv] at this; cases this
   rw [p2.keep v (p1.pos v hv) hn,q1 v hv]; rfl
  | succ j =>
   have:=q2 j y (by simpa using hj) v hv;rw [this]; congr 2; omega
theorem Jk : ∀ {l:List Block} {i:Nat} {ds d:List Def},putBlocks i ds l=some d→Puts (allL l) ds d ∧ ∀ (j:Nat) (b:Block),l[j]? = some b → ∀ (k:Nat) (x:Ins),b.code[k]? = some x → ∀ v∈x.outs,dAt d v=⟨true,((i+j:Nat):Int),(k:Int)⟩
 | [],i,ds,d,h=>by simp only [putBlocks,Option.some.injEq] at h; subst h; exact ⟨.nil _,by simp⟩
 | b::l,i,ds,d,h=>by
  simp only [putBlocks] at h;obtain ⟨d2,h1,h2⟩:=Option.bind_eq_some_iff.1 h;obtain ⟨d1,h3,h4⟩:=Option.bind_eq_some_iff.1 h1;obtain ⟨p1,_⟩:=Ks h3;obtain ⟨p2,q2⟩:=Jf h4;obtain ⟨p3,q3⟩:=Jk h2;refine ⟨(p1.trans p2).trans p3,fun j y hj k x hk v hv => ?_⟩
  cases j with
  | zero =>
   simp only [List.getElem?_cons_zero,Option.some.injEq] at hj;subst hj;have hm:v∈Ju b.code:=List.mem_flatMap.2 ⟨x,List.mem_of_getElem? hk,hv⟩;have hn:v∉allL l:=fun hm'=>by
    have:=p3.new v hm';rw [p2.made v hm] at this; cases this
   rw [p3.keep v (p2.pos v hm) hn,q2 k x hk v hv]; simp
  | succ j =>
   have:=q3 j y (by simpa using hj) k x hk v hv;rw [this]; congr 2; omega
theorem dAt_rep (n:Nat) (v:Int):(dAt (List.replicate n ⟨false,0,0⟩) v).made=false:=by
 simp only [dAt,List.getD_eq_getElem?_getD,List.getElem?_replicate];split<;>rfl
theorem defs_made {f:Fn} {ds:List Def} (h:defsOf f=some ds):(allL f.blocks).Nodup∧(∀ v,0≤v→(dAt ds v).made=true→v∈allL f.blocks) ∧ ∀ (i:Nat) (b:Block),f.blocks[i]? = some b → ∀ (k:Nat) (x:Ins),b.code[k]? = some x → ∀ v∈x.outs,dAt ds v=⟨true,(i:Int),(k:Int)⟩:=by
 obtain ⟨p,q⟩:=Jk h;refine ⟨p.nd,fun v h0 hm => ?_,fun i b hb k x hx v hv=>by simpa using q i b hb k x hx v hv⟩;refine Classical.byContradiction fun hn => ?_
 rw [p.keep v h0 hn,dAt_rep] at hm
 cases hm
/-! ### Who asks -/
theorem eqF_fst {α:Type} {p:α→α→Bool} : ∀ {l m:List α},Go.Vw.eqF p l m=true → ∀ x∈l, ∃ y,p x y=true
 | [],_,_,x,hx=>by cases hx
 | a::l,[],h,x,hx=>by simp [Go.Vw.eqF] at h
 | a::l,b::m,h,x,hx=>by
  simp only [Go.Vw.eqF,Bool.and_eq_true] at h;rcases List.mem_cons.1 hx with rfl | hx
  ·exact ⟨b,h.1⟩
  ·exact eqF_fst h.2 x hx
theorem checkCode_at {e:Env} {f:Fn} {ds:List Def} {near:List Int} {i:Int} : ∀ {l:List Ins} {k j:Nat} {x:Ins},checkCode e f ds near i k l=true→l[j]? = some x→insOk e f ds near i ((k+j:Nat):Int) x=true
 | [],k,j,x,_,hx=>by simp at hx
 | y::l,k,j,x,h,hx=>by
  simp only [checkCode,Bool.and_eq_true] at h
  cases j with
  | zero=>simp only [List.getElem?_cons_zero,Option.some.injEq] at hx; subst hx; exact h.1
  | succ j =>
   have:=checkCode_at h.2 (j:=j) (x:=x) (by simpa using hx);rw [show k+(j+1)=k+1+j by omega]; exact this
theorem checkBlocks_at {e:Env} {f:Fn} {ds:List Def} {near:List Int} : ∀ {l:List Block} {i j:Nat} {b:Block},checkBlocks e f ds near i l=true→l[j]? = some b→checkCode e f ds near ((i+j:Nat):Int) 0 b.code=true∧termOk f ds near ((i+j:Nat):Int) b=true
 | [],i,j,b,_,hb=>by simp at hb
 | y::l,i,j,b,h,hb=>by
  simp only [checkBlocks,Bool.and_eq_true] at h
  cases j with
  | zero=>simp only [List.getElem?_cons_zero,Option.some.injEq] at hb; subst hb; exact h.1
  | succ j =>
   have:=checkBlocks_at h.2 (j:=j) (b:=b) (by simpa using hb);rw [show i+(j+1)=i+1+j by omega]; exact this
theorem check_spec {e:Env} {f:Fn} (h:check e f=true):checkHead e f=true ∧ ∃ ds,defsOf f=some ds∧shapeOk f=true∧checkBlocks e f ds (Go.Vw.G.nearI (succs f.blocks)) 0 f.blocks=true:=by
 simp only [check,Bool.and_eq_true] at h;refine ⟨h.1, ?_⟩
 cases hd:defsOf f with
 | none=>rw [hd] at h; simp at h
 | some ds =>
  rw [hd] at h;simp only [Bool.and_eq_true] at h;exact ⟨ds,rfl,h.2.1,h.2.2⟩
end Ss
namespace Go.Vw
open Go.Proofs Go.RowKit
end Go.Vw
namespace Ss
def scanRow (head:Int) (i:Nat) (l:List Int) (st:Int × Nat):Int × Nat:=l.foldl (fun st to=>if to=head then ((i:Int),st.2+1) else st) st
def scanG (head:Int) (nodes:List Int):Nat→List (List Int)→Int × Nat→Int × Nat
 | _,[],st=>st
 | i,l::r,st=>scanG head nodes (i+1) r (if (i:Int)∈nodes then st else scanRow head i l st)
def porch (bs:List Block) (head:Int) (nodes:List Int):Option Int :=
 if (scanG head nodes 0 (succs bs) (0,0)).2≠1∨(bs.getD (scanG head nodes 0 (succs bs) (0,0)).1.toNat default).term.kind≠1 then none else some (scanG head nodes 0 (succs bs) (0,0)).1
end Ss
/-
 What the nearest ones tell.
-/
namespace Go.Vw.G
open Go.Vw
structure NearOk (g:List (List Nat)) (near:List Int):Prop where
 len:near.length=g.length
 zero:nd near 0 = -1
 out : ∀ x,x<g.length→x∉order g→nd near x = -1
 near : ∀ x∈order g,x≠0 → ∃ p:Nat,nd near x=p∧p∈order g∧p≠x∧Dom g (order g) p x ∧ ∀ d,Dom g (order g) d x→d≠x→Dom g (order g) d p
section
variable {g:List (List Nat)}
theorem jbV (hg:Ok g):NearOk g (rNear g):=by
 obtain ⟨F,K,nearF,h1,h2⟩:=chk_ends hg;rw [near_eq hg h2];have h0:0<nearF.length:=by rw [h2.len]; exact hg.pos
 have hset:=nd_set h0 (-1);refine ⟨by simpa using h2.len,by rw [hset,if_pos rfl],fun x hx hxl => ?_,fun x hx hx0 => ?_⟩
 ·rw [hset]; split
  ·rfl
  ·exact h2.out x hx hxl
 ·rw [hset,if_neg hx0]; exact h2.near x hx hx0
theorem dom1_out {near:List Int} {a x:Nat} (hx:x<near.length) (h:nd near x = -1) : ∀ n,dom1 near a (n+1) x=decide (a=x):=by
 intro n;have hok:okIx near (x:Int):=⟨by omega,by omega⟩
 rw [dom1,if_pos hok]
 by_cases e:a=x
 ·subst e; simp
 ·have e' : ¬ (a:Int)=(x:Int):=by omega
  rw [if_neg e'];have:near.getD x 0 = -1:=h;simp only [Int.toNat_natCast,this];have hno : ¬ okIx near (-1):=fun h=>by have:=h.1; omega
  cases n with
  | zero=>simp [dom1,e]
  | succ n=>rw [dom1,if_neg hno]; simp [e]
theorem dom1_iff (hg:Ok g) {near:List Int} (hN:NearOk g near) (a:Nat) : ∀ (n b:Nat),b∈order g→rk g (order g) b<n→(dom1 near a n b=true↔Dom g (order g) a b)
 | 0,b,_,h=>by omega
 | n+1,b,hb,h=>by
  have ho:=order_ok hg;have hbl:=ho.lt b hb
  by_cases hb0:b=0
  ·subst hb0;rw [dom1_out (by rw [hN.len]; exact hbl) hN.zero];simp only [decide_eq_true_eq];constructor
   ·intro e; subst e; exact Dom.self 0
   ·intro hd
    by_cases e:a=0
    ·exact e
    ·exact absurd (Way.start 0 (Ne.symm e)) (hd 0)
  ·obtain ⟨p,q1,q2,q3,q4,q5⟩:=hN.near b hb hb0;have hok:okIx near (b:Int):=⟨by omega,by rw [hN.len]; omega⟩
   rw [dom1,if_pos hok]
   by_cases e:a=b
   ·subst e;simp only [if_true,true_iff];exact Dom.self a
   ·have e' : ¬ (a:Int)=(b:Int):=by omega
    have hnd:near.getD b 0=(p:Int):=q1;rw [if_neg e'];simp only [Int.toNat_natCast,hnd];have hr:=q4.rk ho q2 hb q3;rw [dom1_iff hg hN a n p q2 (by omega)];exact ⟨fun hd=>hd.trans q4,fun hd=>q5 a hd e⟩
theorem Wy (hg:Ok g) {near:List Int} (hN:NearOk g near) {a b:Nat} (ha:a<g.length) (hb:b<g.length):dominates near a b=true↔(a∈order g∧b∈order g∧Dom g (order g) a b)∨a=b:=by
 have ho:=order_ok hg;have hoka:okIx near (a:Int):=⟨by omega,by rw [hN.len]; omega⟩
 rw [dominates,if_pos hoka];have hm:=hg.max
 by_cases hbl:b∈order g
 ·have hr:rk g (order g) b<257:=by
   have h1:=rk_lt ho hbl;obtain ⟨t,k1,k2,k3⟩:=order_ends hg;have:(order g).length≤g.length:=by simp [order,k1]; exact k2
   omega
  rw [dom1_iff hg hN a 257 b hbl hr];constructor
  ·exact fun h => .inl ⟨h.mem ho hbl,hbl,h⟩
  ·rintro (h | h)
   ·exact h.2.2
   ·subst h; exact Dom.self a
 ·rw [dom1_out (n:=256) (by rw [hN.len]; exact hb) (hN.out b hb hbl)];simp only [decide_eq_true_eq];constructor
  ·exact .inr
  ·rintro (h | h)
   ·exact absurd h.2.1 hbl
   ·exact h
theorem ways (hg:Ok g) {near:List Int} (hN:NearOk g near) {a b:Nat} (ha:a<g.length) (hb:b<g.length) :
  dominates near a b=(((without g none).getD a false&&(without g none).getD b false && !((without g (some a)).getD b false))||decide (a=b)):=by
 have h1:=Wy hg hN ha hb;have w1:=without_none hg a;have w2:=without_none hg b;have w3:=Yr hg (b:=b) ha;unfold Met at w1 w2 w3;rw [Bool.eq_iff_iff,h1];simp only [Bool.or_eq_true,Bool.and_eq_true,Bool.not_eq_true',decide_eq_true_eq,w1,w2];constructor
 ·rintro (⟨k1,k2,k3⟩ | h)
  ·refine .inl ⟨⟨k1,k2⟩, ?_⟩
   cases hx:(without g (some a)).getD b false with
   | false=>rfl
   | true=>obtain ⟨_,k,hw⟩:=w3.1 hx; exact absurd hw (k3 k)
  ·exact .inr h
 ·rintro (⟨⟨k1,k2⟩,k3⟩ | h)
  ·by_cases e:b=a
   ·exact .inr e.symm
   ·refine .inl ⟨k1,k2,fun k hw => ?_⟩;have:=w3.2 ⟨e,k,hw⟩;rw [k3] at this; cases this
  ·exact .inr h
end
end Go.Vw.G
/-
 The nodes of a loop, found from a list of nodes to do.
-/
namespace Go.Vw.G
open Go.Vw
inductive Bk (fr:List (List Nat)) (h:Nat) (ts:List Nat):Nat→Prop
 | start {n:Nat} (hn:n∈ts):Bk fr h ts n
 | step {n p:Nat} (hb:Bk fr h ts n) (hn:n≠h) (hp:p∈fr.getD n []):Bk fr h ts p
structure Srch (fr:List (List Nat)) (h:Nat) (ts:List Nat) (N:Nat) (inn:List Bool) (todo:List Nat):Prop where
 len:inn.length=N
 head:inn.getD h false=true
 sound : ∀ n,inn.getD n false=true→n=h∨Bk fr h ts n
 work : ∀ t∈todo,Bk fr h ts t
 closed : ∀ n,inn.getD n false=true→n≠h → ∀ p∈fr.getD n [],inn.getD p false=true∨p∈todo
 all : ∀ t∈ts,inn.getD t false=true∨t∈todo
 lt : ∀ t∈todo,t<N
section
variable {fr:List (List Nat)} {h:Nat} {ts:List Nat} {N:Nat} {inn:List Bool} {n:Nat}
theorem Srch.take {todo todo':List Nat} (hS:Srch fr h ts N inn todo) (hn:n∈todo) (hfl : ∀ p∈fr.getD n [],p<N) (hni:inn.getD n false=false) (hsub : ∀ t∈todo',t∈todo∨t∈fr.getD n []) (hre : ∀ t∈todo,t=n∨t∈todo') (hfr : ∀ t∈fr.getD n [],t∈todo'):Srch fr h ts N (inn.set n true) todo':=by
 have hnl:n<inn.length:=by rw [hS.len]; exact hS.lt n hn
 have hset : ∀ m,(inn.set n true).getD m false=true↔m=n∨inn.getD m false=true:=fun m=>met_set hnl m
 have hnh:n≠h:=by intro e; subst e; rw [hS.head] at hni; cases hni
 refine ⟨by simpa using hS.len,(hset h).2 (.inr hS.head),fun m hm => ?_,fun t ht => ?_,fun m hm hne p hp => ?_,fun t ht => ?_,fun t ht => ?_⟩
 ·rcases (hset m).1 hm with e | h1
  ·subst e; exact .inr (hS.work m hn)
  ·exact hS.sound m h1
 ·rcases hsub t ht with h1 | h1
  ·exact hS.work t h1
  ·exact .step (hS.work n hn) hnh h1
 ·rcases (hset m).1 hm with e | h1
  ·subst e; exact .inr (hfr p hp)
  ·rcases hS.closed m h1 hne p hp with h2 | h2
   ·exact .inl ((hset p).2 (.inr h2))
   ·rcases hre p h2 with h3 | h3
    ·exact .inl ((hset p).2 (.inl h3))
    ·exact .inr h3
 ·rcases hS.all t ht with h1 | h1
  ·exact .inl ((hset t).2 (.inr h1))
  ·rcases hre t h1 with h3 | h3
   ·exact .inl ((hset t).2 (.inl h3))
   ·exact .inr h3
 ·rcases hsub t ht with h1 | h1
  ·exact hS.lt t h1
  ·exact hfl t h1
end
end Go.Vw.G
/-
 What is so of each loop: its head dominates its nodes that are reached, and they come from its nodes alone.
-/
namespace Go.Vw.G
open Go.Vw
theorem Bk.lt {g:List (List Nat)} (hg:Ok g) {h:Nat} {ts:List Nat} (hts : ∀ t∈ts,t<g.length) {n:Nat} (hb:Bk (froms g) h ts n):n<g.length:=by
 induction hb with
 | start hn=>exact hts _ hn
 | step hb hne hp ih=>exact ((mem_froms hg _ _ ih).1 hp).1
end Go.Vw.G
namespace Ss
open Go.Vw.G
def chain (near:List Int):Nat→Int→List Int
 | 0,_=>[]
 | n+1,b=>if okIx near b then b::chain near n (near.getD b.toNat 0) else []
theorem chain_ok {near:List Int} : ∀ {n:Nat} {b a:Int},a∈chain near n b→okIx near a
 | 0,_,_,h=>by simp [chain] at h
 | n+1,b,a,h=>by
  rw [chain] at h;split at h
  ·rename_i hb;rcases List.mem_cons.1 h with rfl | h
   ·exact hb
   ·exact chain_ok h
  ·simp at h
theorem jbq (near:List Int) (a:Int) : ∀ (n:Nat) (b:Int),dom1 near a n b=true↔a∈chain near n b
 | 0,_=>by simp [dom1,chain]
 | n+1,b=>by
  rw [dom1,chain]
  by_cases hb:okIx near b
  ·rw [if_pos hb,if_pos hb,List.mem_cons]
   by_cases e:a=b
   ·simp [e]
   ·rw [if_neg e,jbq near a n]; simp [e]
  ·rw [if_neg hb,if_neg hb]; simp
theorem Ki (near:List Int) (a b:Int):dominates near a b=true↔a∈chain near 257 b:=by
 rw [dominates]
 by_cases ha:okIx near a
 ·rw [if_pos ha,jbq]
 ·rw [if_neg ha];exact ⟨fun h=>by simp at h,fun h=>absurd (chain_ok h) ha⟩
def covers (y x:Ins):Bool:=decide (y.op=257)&&decide (x.op=257)&&decide (y.args.getD 0 0=x.args.getD 0 0)&&decide (x.n≤y.n)
abbrev Kept:=List (Ins × Int)
def rcov (near:List Int) (n:Int) (all:Kept) (x:Ins):Bool:=all.any fun p=>covers p.1 x&&dominates near p.2 n
def rcode (near:List Int) (n:Int):Kept→List Ins→List Ins × Kept
 | all,[]=>([],all)
 | all,x::r=>if rcov near n all x then rcode near n all r else (x::(rcode near n (if x.op=257 then all++[(x,n)] else all) r).1,(rcode near n (if x.op=257 then all++[(x,n)] else all) r).2)
def Zy (near:List Int) (st:List Block × Kept) (n:Nat):List Block × Kept :=
 (st.1.set n ⟨(st.1.getD n default).params,(rcode near n st.2 (st.1.getD n default).code).1,(st.1.getD n default).term⟩,(rcode near n st.2 (st.1.getD n default).code).2)
def bce (near:List Int) (order:List Nat) (f:Fn):Fn:=⟨f.sig,f.types,(order.foldl (Zy near) (f.blocks,[])).1⟩
/-! ### The same by a map of places -/
abbrev Far:=List ((Int × Int) × Int)
def farGet (k:Int × Int):Far→Int
 | []=>0
 | (k',w)::r=>if k=k' then w else farGet k r
def farPut (k:Int × Int) (w:Int):Far→Far
 | []=>[(k,w)]
 | (k',w')::r=>if k=k' then (k,w)::r else (k',w')::farPut k w r
theorem jbn (k:Int × Int) (w:Int) (k':Int × Int) : ∀ (M:Far),farGet k' (farPut k w M)=if k'=k then w else farGet k' M
 | []=>by simp only [farPut,farGet]
 | (k2,w2)::r=>by
  simp only [farPut]
  by_cases e:k=k2
  ·subst e;rw [if_pos rfl];simp only [farGet]
   by_cases e2:k'=k
   ·rw [if_pos e2,if_pos e2]
   ·rw [if_neg e2,if_neg e2,if_neg e2]
  ·rw [if_neg e];simp only [farGet]
   by_cases e2:k'=k2
   ·subst e2;rw [if_pos rfl,if_pos rfl,if_neg (fun h=>e h.symm)]
   ·rw [if_neg e2,if_neg e2,jbn k w k' r]
def pcov (near:List Int) (n:Int) (M:Far) (x:Ins):Bool:=decide (x.op=257)&&(chain near 257 n).any fun up=>decide (x.n<farGet (x.args.getD 0 0,up) M)
def pnext (near:List Int) (n:Int) (M:Far) (x:Ins):Far:=if x.op=257∧pcov near n M x=false then farPut (x.args.getD 0 0,n) (x.n+1) M else M
def pcode (near:List Int) (n:Int):Far→List Ins→List Ins × Far
 | M,[]=>([],M)
 | M,x::r=>if pcov near n M x then pcode near n (pnext near n M x) r else (x::(pcode near n (pnext near n M x) r).1,(pcode near n (pnext near n M x) r).2)
def pstep (near:List Int) (st:List Block × Far) (n:Nat):List Block × Far :=
 (st.1.set n ⟨(st.1.getD n default).params,(pcode near n st.2 (st.1.getD n default).code).1,(st.1.getD n default).term⟩,(pcode near n st.2 (st.1.getD n default).code).2)
def pbce (near:List Int) (order:List Nat) (f:Fn):Fn:=⟨f.sig,f.types,(order.foldl (pstep near) (f.blocks,[])).1⟩
def Tells (all:Kept) (M:Far):Prop := ∀ (v b N:Int),0≤N→(N<farGet (v,b) M ↔ ∃ p∈all,p.2=b∧p.1.op=257∧p.1.args.getD 0 0=v∧N≤p.1.n)
theorem tells_nil:Tells [] []:=fun v b N h=>by
 simp only [farGet,List.not_mem_nil,false_and,exists_false,iff_false]; omega
theorem cov_same {near:List Int} {n:Int} {all:Kept} {M:Far} (h:Tells all M) (x:Ins) (hx:0≤x.n):rcov near n all x=pcov near n M x:=by
 rw [Bool.eq_iff_iff];simp only [rcov,pcov,List.any_eq_true,Bool.and_eq_true,covers,decide_eq_true_eq];constructor
 ·rintro ⟨p,hp,⟨⟨⟨h1,h2⟩,h3⟩,h4⟩,h5⟩;exact ⟨h2,p.2,(Ki near _ _).1 h5,(h _ _ _ hx).2 ⟨p,hp,rfl,h1,h3,h4⟩⟩
 ·rintro ⟨h2,up,hup,hlt⟩;obtain ⟨p,hp,rfl,h1,h3,h4⟩:=(h _ _ _ hx).1 hlt;exact ⟨p,hp,⟨⟨⟨h1,h2⟩,h3⟩,h4⟩,(Ki near _ _).2 hup⟩
theorem chain_self {near:List Int} {n:Int} (hn:okIx near n):n∈chain near 257 n:=by rw [chain,if_pos hn]; simp
theorem tells_next {near:List Int} {n:Int} {all:Kept} {M:Far} (h:Tells all M) (x:Ins) (hx:0≤x.n) (hn:okIx near n) (hc:pcov near n M x=false):Tells (if x.op=257 then all++[(x,n)] else all) (pnext near n M x):=by
 by_cases ho:x.op=257
 ·rw [if_pos ho,pnext,if_pos ⟨ho,hc⟩];intro v b N hN;rw [jbn]
  by_cases e:(v,b)=(x.args.getD 0 0,n)
  ·rw [if_pos e];simp only [Prod.mk.injEq] at e;obtain ⟨rfl,rfl⟩:=e;constructor
   ·intro hlt;exact ⟨(x,b),by simp,rfl,ho,rfl,by show N≤x.n; omega⟩
   ·rintro ⟨p,hp,h1,h2,h3,h4⟩;rcases List.mem_append.1 hp with hp | hp
    ·have h5:=(h _ _ _ hN).2 ⟨p,hp,h1,h2,h3,h4⟩;have h6 : ¬ x.n<farGet (x.args.getD 0 0,b) M:=fun hlt=>by
      have:pcov near b M x=true:=by
       simp only [pcov,Bool.and_eq_true,decide_eq_true_eq,List.any_eq_true];exact ⟨ho,b,chain_self hn,hlt⟩
      rw [hc] at this; cases this
     omega
    ·simp only [List.mem_singleton] at hp;subst hp;have:N≤x.n:=h4;omega
  ·rw [if_neg e,h v b N hN];constructor
   ·rintro ⟨p,hp,h1⟩; exact ⟨p,by simp [hp],h1⟩
   ·rintro ⟨p,hp,h1,h2,h3,h4⟩;rcases List.mem_append.1 hp with hp | hp
    ·exact ⟨p,hp,h1,h2,h3,h4⟩
    ·simp only [List.mem_singleton] at hp;subst hp;exact absurd (by rw [←h1, ←h3]) e
 ·rw [if_neg ho,pnext,if_neg (fun h=>ho h.1)]; exact h
theorem jaq {near:List Int} {n:Int} (hn:okIx near n) : ∀ (code:List Ins) {all:Kept} {M:Far},Tells all M→(∀ x∈code,0≤x.n)→(rcode near n all code).1=(pcode near n M code).1∧Tells (rcode near n all code).2 (pcode near n M code).2
 | [],_,_,h,_=>⟨rfl,h⟩
 | x::r,all,M,h,hx=>by
  have e:=cov_same (near:=near) (n:=n) h x (hx x (by simp))
  cases hc:pcov near n M x with
  | true =>
   have hM:pnext near n M x=M:=by rw [pnext,if_neg (fun h=>by rw [hc] at h; cases h.2)]
   have:=jaq hn r h fun y hy=>hx y (by simp [hy])
   simpa only [rcode,pcode,e,hc,if_true,hM] using this
  | false =>
   have:=jaq hn r (tells_next h x (hx x (by simp)) hn hc) fun y hy=>hx y (by simp [hy])
   rw [hc] at e;simp only [rcode,pcode,e,hc,Bool.false_eq_true,if_false];exact ⟨by rw [this.1],this.2⟩
theorem jco (near:List Int) (n:Int) : ∀ (code:List Ins) (all:Kept), ∀ x∈(rcode near n all code).1,x∈code
 | [],_,x,h=>by simp [rcode] at h
 | y::r,all,x,h=>by
  rw [rcode] at h;split at h
  ·exact List.mem_cons_of_mem _ (jco near n r all x h)
  ·rcases List.mem_cons.1 h with rfl | h
   ·simp
   ·exact List.mem_cons_of_mem _ (jco near n r _ x h)
theorem fold_same {near:List Int} : ∀ (order:List Nat) {bs:List Block} {all:Kept} {M:Far},Tells all M→(∀ n∈order,okIx near n)→(∀ b∈bs, ∀ x∈b.code,0≤x.n)→(∀ n∈order,n<bs.length) →
  (order.foldl (Zy near) (bs,all)).1=(order.foldl (pstep near) (bs,M)).1
 | [],_,_,_,_,_,_,_=>rfl
 | n::r,bs,all,M,h,hn,hx,hl=>by
  have hnl:=hl n (by simp);have eg:bs.getD n default=bs[n]:=by rw [List.getD_eq_getElem?_getD,List.getElem?_eq_getElem hnl]; rfl
  have hxb : ∀ x∈(bs.getD n default).code,0≤x.n:=by rw [eg]; exact hx _ (List.getElem_mem hnl)
  obtain ⟨h1,h2⟩:=jaq (hn n (by simp)) (bs.getD n default).code h hxb;have e1:(Zy near (bs,all) n).1=(pstep near (bs,M) n).1:=by simp only [Zy,pstep,h1]
  rw [List.foldl_cons,List.foldl_cons];have:Zy near (bs,all) n=((pstep near (bs,M) n).1,(Zy near (bs,all) n).2):=by rw [←e1]
  rw [this];refine (fold_same r (M:=(pstep near (bs,M) n).2) h2 (fun m hm=>hn m (by simp [hm])) (fun b hb x hxm => ?_) fun m hm=>by simp only [pstep,List.length_set]; exact hl m (by simp [hm])).trans rfl;rw [←e1] at hb;rcases List.mem_or_eq_of_mem_set hb with hb | rfl
  ·exact hx b hb x hxm
  ·exact hxb x (jco near n _ _ x hxm)
theorem bce_same {near:List Int} {order:List Nat} {f:Fn} (hn : ∀ n∈order,okIx near n) (hx : ∀ b∈f.blocks, ∀ x∈b.code,0≤x.n) (hl : ∀ n∈order,n<f.blocks.length):bce near order f=pbce near order f:=by
 simp only [bce,pbce,fold_same order tells_nil hn hx hl]
end Ss
namespace Go.Vw
open Go.Proofs Go.RowKit
attribute [-simp] List.map_set
theorem Zk (S:Store) (l:List Int) (hl:l.length≤1048576):VCalls Tryz.prog 62 [vl vint l] S (fun r T=>r = .slice (lid S.nx 0) 0 l.length∧T=St S [] [some (1,l.map vint)]):=by
 refine QB (c:=jc Tryz.f62) Tryz.func62 Tryz.ntmps62 fun hwf=>?_
 refine QT ?_;refine QY ?_;refine QT ?_;refine vw_isnil (l:=l.map vint) rfl rfl (by rfl) rfl rfl rfl rfl (by rfl) rfl rfl Tryz.underlying23 rfl ?_;intro b hb;simp only [Fr.set]
 by_cases h:b=true
 ·have hl0:l=[]:=by simpa using hb h
  subst hl0;subst h
  repeat first|refine QG ?_|refine QY ?_
  exact ⟨_,_,(Ghost.nils (St S [] []) 1).toB _,by rw [jP]; rfl,by rw [jaD]; rfl⟩
 ·have h':b=false:=by simpa using h
  subst h';have hb1:l.length*8≤140737488355328:=by omega
  have hb2:l.length≤140737488355328:=by omega
  repeat first|refine QG ?_|refine QY ?_ (r:=by conv=>lhs;simp[QV,hb1,hb2,ZR,nc_vint,qp,rep0])
  exact done_gc [1] hwf (by decide) (by simp) (by simp; rfl) (by simp; rfl) ⟨by simp,by simp⟩
theorem Clone_v (l:List Int) (hl:l.length≤1048576):VPure Tryz.prog 62 [vl vint l] (vl vint l):=by
 intro S;refine Js fun hwf=>qV ((Zk S l hl).mono ?_)
 rintro r T ⟨rfl,rfl⟩;exact jf hwf ((frz1 (k:=0) (by simp) (by rfl) (jq vint (fun _=>rfl) _) (by simp)).toB _) rfl
theorem one_v (v:Int) (to:List Int) (ht:to.length<2^63):VPure Tryz.prog 60 ([vint v]++[.ref (vl vint to)]) (vint (Ss.putv to v)):=by
 intro S;refine QB (c:=jc Tryz.f60) Tryz.func60 Tryz.ntmps60 fun hwf=>?_
 by_cases h1:0≤v
 ·obtain ⟨n,rfl⟩ : ∃ n:Nat,v=n:=⟨v.toNat,by omega⟩
  by_cases h2:n<to.length
  ·repeat first|refine QG ?_|refine QY ?_ (r:=by conv=>lhs;simp[QV,h2])
   exact ja hwf (by simp [Ss.putv,h2]) rfl
  ·repeat first|refine QG ?_|refine QY ?_ (r:=by conv=>lhs;simp[QV,h2])
   exact ja hwf (by simp [Ss.putv,h2]) rfl
 ·repeat first|refine QG ?_|refine QY ?_ (r:=by conv=>lhs;simp[QV,h1])
  exact ja hwf (by simp [Ss.putv,h1]) rfl
theorem allO_v (S:Store) (l to:List Int) (ps:Nat) (hps:S.get ps=some (1,[.func 60 [.ref (vl vint to)]])) (hl:l.length≤1048576) (ht:to.length<2^63):VCalls Tryz.prog 61 ([vl vint l]++[.ptr ps 0]) S (fun r T=>r = .slice (lid S.nx 0) 0 l.length∧T=St S [] [some (1,(l.map (Ss.putv to)).map vint)]):=by
 have cp:=fun v=>one_v v to ht
 generalize Ss.putv to=g at *
 refine QB (c:=jc Tryz.f61) Tryz.func61 Tryz.ntmps61 fun hwf=>?_
 have hpn:=jx hwf hps;have p1:=fun u l => @jm S u l _ hpn
 have pP:=fun ks=>za (n:=S.nx) ks hpn
 have pT:=fun ks=>qy (n:=S.nx) ks hpn
 refine QT ?_;refine QY ?_;refine QT ?_;refine QY ?_;refine zy 4 1 rfl (by conv=>lhs; simp [Fr.set]) ?_
 repeat first|refine QG ?_|refine QY ?_
 refine QT ?_;refine jd [1,4,7,8,9] rfl (fun c σ S' => ∃ (k:Nat) (out:List Int),k≤l.length∧c=l.length-k∧out=(l.take k).map g∧out.length=k∧σ=[(1, .ptr ps 0),(4, .slice (lid S.nx 0) 0 k),(7,vl vint l),(8,vnat l.length),(9,vnat k)]∧S'=St S [] [some (1,out.map vint)]) l.length ?_ ?_
 ·exact ⟨0,[],by omega,rfl,by simp,rfl,by simp [Fr.only],by simp⟩
 ·rintro c σ T ⟨k,out,hk,rfl,ho,hlen,rfl,rfl⟩
  by_cases hkt:k<l.length
  ·have hw:=jh hkt (by omega);have cpk:=cp l[k];have htk:(l.take (k+1)).map g=(l.take k).map g++[g l[k]]:=by rw [List.take_add_one,List.getElem?_eq_getElem hkt,List.map_append]; rfl
   generalize g l[k]=gv at *
   have hb:(k+1)*8≤140737488355328:=by omega
   have hb':k+1≤140737488355328:=by omega
   repeat first|refine QG ?_|refine QY ?_ (r:=by conv=>lhs;simp[QV,hkt])
   refine QT ?_;refine QP ?_ (r:=by conv=>lhs;simp[QV,hkt,p1,hps]);refine Zv (cpk) (by rfl) (by rfl) (by rfl) ?_;refine QM (by conv=>lhs;simp[QV,hb,hb',hlen]) ?_;refine QN ?_
   repeat first|refine QG ?_|refine QY ?_ (r:=by conv=>lhs;simp[QV,hb,hb',hlen,hw])
   refine qo [2] (by conv=>lhs; simp [Fr.only]) hwf (by decide) (by simp [pP,pT]) (by conv=>lhs; simp [pP,pT]) (by conv=>lhs; simp [pP,pT]) (by conv=>lhs; simp [pP,pT]) ⟨?_,k+1,out++[gv],hkt,rfl,by rw [htk,ho],by simp [hlen],by simp [hw],by simp⟩;omega
  ·have hke:k=l.length:=by omega
   subst hke;rw [List.take_length] at ho
   repeat first|refine QG ?_|refine QY ?_ (r:=by conv=>lhs;simp[QV,hkt])
   rw [←ho];exact zN ⟨by simp,rfl⟩
end Go.Vw
