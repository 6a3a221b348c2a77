import Derived.Test.YtenhhokhkkfgbaaGreatC24
/- Part of the proof. -/
set_option linter.unusedVariables false
set_option linter.unusedSimpArgs false
set_option maxRecDepth 10000
set_option maxHeartbeats 2000000
namespace Ss
/-! ### Where values are made -/
def zC (l:List Ins):List Int:=l.flatMap fun x=>x.outs
def allB (b:Block):List Int:=b.params++zC b.code
def allL (bs:List Block):List Int:=bs.flatMap allB
abbrev dAt (ds:List Def) (v:Int):Def:=ds.getD v.toNat default
theorem jcV {ds:List Def} {v w:Int} {d:Def} (h0:0<=v) (h1:v<ds.length) (hw:0<=w):dAt (ds.set v.toNat d) w=if w=v then d else dAt ds w:=by
 by_cases h:w=v
 ·subst h;rw [if_pos rfl];simp only [dAt,ag];rw [aZ (by omega)]; rfl
 ·rw [if_neg h];simp only [dAt,ag];rw [aR (by omega)]
structure Puts (l:List Int) (ds d:List Def):Prop where
 nd:l.Nodup
 pos : ∀ v∈l,0<=v
 new : ∀ v∈l,(dAt ds v).made=false
 keep : ∀ w,0<=w->w∉l->dAt d w=dAt ds w
 made : ∀ v∈l,(dAt d v).made=true
theorem Puts.trans {l m:List Int} {ds d d':List Def} (h:Puts l ds d) (k:Puts m d d'):Puts (l++m) ds d':=by
 have hdis : ∀ v∈l,v∉m:=fun v hv hm=>by
  have h1:=k.new v hm;rw [h.made v hv] at h1; cases h1
 refine ⟨List.nodup_append.2 ⟨h.nd,k.nd,fun a ha b hb e=>hdis a ha (e▸hb)⟩,fun v hv => ?_,fun v hv => ?_,fun w h0 hw => ?_,fun v hv => ?_⟩
 ·rcases aG.1 hv with hv | hv
  ·exact h.pos v hv
  ·exact k.pos v hv
 ·rcases aG.1 hv with hv | hv
  ·exact h.new v hv
  ·by_cases hl:v∈l
   ·exact absurd hv (hdis v hl)
   ·rw [<-h.keep v (k.pos v hv) hl]; exact k.new v hv
 ·simp only [aG,not_or] at hw;rw [k.keep w h0 hw.2,h.keep w h0 hw.1]
 ·rcases aG.1 hv with hv | hv
  ·rw [k.keep v (h.pos v hv) (hdis v hv)]; exact h.made v hv
  ·exact k.made v hv
theorem Puts.nil (ds:List Def):Puts [] ds ds:=⟨List.nodup_nil,by simp,by simp,fun _ _ _=>rfl,by simp⟩
theorem KM {block pos:Int} : ∀ {l:List Int} {ds d:List Def},put block pos ds l=some d->Puts l ds d /\ ∀ v∈l,dAt d v=⟨true,block,pos⟩
 | [],ds,d,h=>by simp only [put,ay] at h; subst h; exact ⟨.nil _,by simp⟩
 | v::l,ds,d,h=>by
  simp only [put] at h;split at h
  ·cases h
  ·rename_i hn;have h0:0<=v:=by omega
   have h1:v<ds.length:=by omega
   have h2:(dAt ds v).made=false:=by
    cases hm:(dAt ds v).made with
    | false=>rfl
    | true=>exact absurd (.inr (.inr hm)) hn
   obtain ⟨k1,k2⟩:=KM h;have hp:Puts [v] ds (ds.set v.toNat ⟨true,block,pos⟩) :=
    ⟨by simp,by simpa using h0,by simpa using h2,fun w hw hnw=>by rw [jcV h0 h1 hw,if_neg (by simpa using hnw)],fun w hw=>by
     obtain rfl:w=v:=by simpa using hw
     rw [jcV h0 h1 h0,if_pos rfl]⟩
   refine ⟨hp.trans k1,fun w hw => ?_⟩
   by_cases hl:w∈l
   ·exact k2 w hl
   ·obtain rfl:w=v:=by simpa [hl] using hw
    rw [k1.keep w h0 hl,jcV h0 h1 h0,if_pos rfl]
theorem Jt {i:Int} : ∀ {l:List Ins} {k:Nat} {ds d:List Def},putCode i k ds l=some d->Puts (zC l) ds d /\ ∀ (j:Nat) (x:Ins),l[j]? = some x -> ∀ v∈x.outs,dAt d v=⟨true,i,((k+j:Nat):Int)⟩
 | [],k,ds,d,h=>by simp only [putCode,ay] at h; subst h; exact ⟨.nil _,by simp⟩
 | x::l,k,ds,d,h=>by
  simp only [putCode] at h;obtain ⟨d1,h1,h2⟩:=aN.1 h;obtain ⟨p1,q1⟩:=KM h1;obtain ⟨p2,q2⟩:=Jt h2;refine ⟨p1.trans p2,fun j y hj v hv => ?_⟩
  cases j with
  | zero =>
   simp only [aK,ay] at hj;subst hj;have hn:v∉zC l:=fun hm=>by
    have:=p2.new v hm;rw [p1.made v hv] at this; cases this
   rw [p2.keep v (p1.pos v hv) hn,q1 v hv]; rfl
  | succ j =>
   have:=q2 j y (by simpa using hj) v hv;rw [this]; congr 2; omega
theorem Jy : ∀ {l:List Block} {i:Nat} {ds d:List Def},putBlocks i ds l=some d->Puts (allL l) ds d /\ ∀ (j:Nat) (b:Block),l[j]? = some b -> ∀ (k:Nat) (x:Ins),b.code[k]? = some x -> ∀ v∈x.outs,dAt d v=⟨true,((i+j:Nat):Int),(k:Int)⟩
 | [],i,ds,d,h=>by simp only [putBlocks,ay] at h; subst h; exact ⟨.nil _,by simp⟩
 | b::l,i,ds,d,h=>by
  simp only [putBlocks] at h;obtain ⟨d2,h1,h2⟩:=aN.1 h;obtain ⟨d1,h3,h4⟩:=aN.1 h1;obtain ⟨p1,_⟩:=KM h3;obtain ⟨p2,q2⟩:=Jt h4;obtain ⟨p3,q3⟩:=Jy h2;refine ⟨(p1.trans p2).trans p3,fun j y hj k x hk v hv => ?_⟩
  cases j with
  | zero =>
   simp only [aK,ay] at hj;subst hj;have hm:v∈zC b.code:=bj.2 ⟨x,aA hk,hv⟩;have hn:v∉allL l:=fun hm'=>by
    have:=p3.new v hm';rw [p2.made v hm] at this; cases this
   rw [p3.keep v (p2.pos v hm) hn,q2 k x hk v hv]; simp
  | succ j =>
   have:=q3 j y (by simpa using hj) k x hk v hv;rw [this]; congr 2; omega
theorem dAt_rep (n:Nat) (v:Int):(dAt (List.replicate n ⟨false,0,0⟩) v).made=false:=by
 simp only [dAt,ag,List.getElem?_replicate];split<;>rfl
theorem WX {f:Fn} {ds:List Def} (h:defsOf f=some ds):(allL f.blocks).Nodup/\(∀ v,0<=v->(dAt ds v).made=true->v∈allL f.blocks) /\ ∀ (i:Nat) (b:Block),f.blocks[i]? = some b -> ∀ (k:Nat) (x:Ins),b.code[k]? = some x -> ∀ v∈x.outs,dAt ds v=⟨true,(i:Int),(k:Int)⟩:=by
 obtain ⟨p,q⟩:=Jy h;refine ⟨p.nd,fun v h0 hm => ?_,fun i b hb k x hx v hv=>by simpa using q i b hb k x hx v hv⟩;refine Classical.byContradiction fun hn => ?_
 rw [p.keep v h0 hn,dAt_rep] at hm
 cases hm
/-! ### Who asks -/
theorem eqF_fst {α:Type} {p:α->α->Bool} : ∀ {l m:List α},Go.Vw.eqF p l m=true -> ∀ x∈l, ∃ y,p x y=true
 | [],_,_,x,hx=>by cases hx
 | a::l,[],h,x,hx=>by simp [Go.Vw.eqF] at h
 | a::l,b::m,h,x,hx=>by
  simp only [Go.Vw.eqF,af] at h;rcases aL.1 hx with rfl | hx
  ·exact ⟨b,h.1⟩
  ·exact eqF_fst h.2 x hx
theorem checkCode_at {e:Env} {f:Fn} {ds:List Def} {near:List Int} {i:Int} : ∀ {l:List Ins} {k j:Nat} {x:Ins},checkCode e f ds near i k l=true->l[j]? = some x->insOk e f ds near i ((k+j:Nat):Int) x=true
 | [],k,j,x,_,hx=>by simp at hx
 | y::l,k,j,x,h,hx=>by
  simp only [checkCode,af] at h
  cases j with
  | zero=>simp only [aK,ay] at hx; subst hx; exact h.1
  | succ j =>
   have:=checkCode_at h.2 (j:=j) (x:=x) (by simpa using hx);rw [show k+(j+1)=k+1+j by omega]; exact this
theorem checkBlocks_at {e:Env} {f:Fn} {ds:List Def} {near:List Int} : ∀ {l:List Block} {i j:Nat} {b:Block},checkBlocks e f ds near i l=true->l[j]? = some b->checkCode e f ds near ((i+j:Nat):Int) 0 b.code=true/\termOk f ds near ((i+j:Nat):Int) b=true
 | [],i,j,b,_,hb=>by simp at hb
 | y::l,i,j,b,h,hb=>by
  simp only [checkBlocks,af] at h
  cases j with
  | zero=>simp only [aK,ay] at hb; subst hb; exact h.1
  | succ j =>
   have:=checkBlocks_at h.2 (j:=j) (b:=b) (by simpa using hb);rw [show i+(j+1)=i+1+j by omega]; exact this
theorem insOk_asks {e:Env} {f:Fn} {ds:List Def} {near:List Int} {i k:Int} {x:Ins} (h:insOk e f ds near i k x=true):asks f.types ds near i k x.args (form e x.op x.n (insOut f.types x)).inn=true:=by
 simp only [insOk,af] at h;exact h.2
theorem check_spec {e:Env} {f:Fn} (h:check e f=true):checkHead e f=true /\ ∃ ds,defsOf f=some ds/\shapeOk f=true/\checkBlocks e f ds (Go.Vw.G.nearI (succs f.blocks)) 0 f.blocks=true:=by
 simp only [check,af] at h;refine ⟨h.1, ?_⟩
 cases hd:defsOf f with
 | none=>rw [hd] at h; simp at h
 | some ds =>
  rw [hd] at h;simp only [af] at h;exact ⟨ds,rfl,h.2.1,h.2.2⟩
end Ss
namespace Go.Vw
open Go.Proofs Go.RowKit
end Go.Vw
namespace Ss
def scanRow (head:Int) (i:Nat) (l:List Int) (st:Int × Nat):Int × Nat:=l.foldl (fun st to=>if to=head then ((i:Int),st.2+1) else st) st
def scanG (head:Int) (nodes:List Int):Nat->List (List Int)->Int × Nat->Int × Nat
 | _,[],st=>st
 | i,l::r,st=>scanG head nodes (i+1) r (if (i:Int)∈nodes then st else scanRow head i l st)
def porch (bs:List Block) (head:Int) (nodes:List Int):Option Int :=
 if (scanG head nodes 0 (succs bs) (0,0)).2≠1\/(bs.getD (scanG head nodes 0 (succs bs) (0,0)).1.toNat default).term.kind≠1 then none else some (scanG head nodes 0 (succs bs) (0,0)).1
end Ss
/-
 What the nearest ones tell.
-/
namespace Go.Vw.G
open Go.Vw
structure NearOk (g:List (List Nat)) (near:List Int):Prop where
 len:near.length=g.length
 zero:nd near 0 = -1
 out : ∀ x,x<g.length->x∉order g->nd near x = -1
 near : ∀ x∈order g,x≠0 -> ∃ p:Nat,nd near x=p/\p∈order g/\p≠x/\Dom g (order g) p x /\ ∀ d,Dom g (order g) d x->d≠x->Dom g (order g) d p
section
variable {g:List (List Nat)}
theorem dom1_out {near:List Int} {a x:Nat} (hx:x<near.length) (h:nd near x = -1) : ∀ n,dom1 near a (n+1) x=decide (a=x):=by
 intro n;have hok:okIx near (x:Int):=⟨by omega,by omega⟩
 rw [dom1,if_pos hok]
 by_cases e:a=x
 ·subst e; simp
 ·have e' : ¬ (a:Int)=(x:Int):=by omega
  rw [if_neg e'];have:near.getD x 0 = -1:=h;simp only [Int.toNat_natCast,this];have hno : ¬ okIx near (-1):=fun h=>by have:=h.1; omega
  cases n with
  | zero=>simp [dom1,e]
  | succ n=>rw [dom1,if_neg hno]; simp [e]
theorem dom1_iff (hg:Ok g) {near:List Int} (hN:NearOk g near) (a:Nat) : ∀ (n b:Nat),b∈order g->rk g (order g) b<n->(dom1 near a n b=true↔Dom g (order g) a b)
 | 0,b,_,h=>by omega
 | n+1,b,hb,h=>by
  have ho:=order_ok hg;have hbl:=ho.lt b hb
  by_cases hb0:b=0
  ·subst hb0;rw [dom1_out (by rw [hN.len]; exact hbl) hN.zero];simp only [aj];constructor
   ·intro e; subst e; exact Dom.self 0
   ·intro hd
    by_cases e:a=0
    ·exact e
    ·exact absurd (Way.start 0 (Ne.symm e)) (hd 0)
  ·obtain ⟨p,q1,q2,q3,q4,q5⟩:=hN.near b hb hb0;have hok:okIx near (b:Int):=⟨by omega,by rw [hN.len]; omega⟩
   rw [dom1,if_pos hok]
   by_cases e:a=b
   ·subst e;simp only [if_true,true_iff];exact Dom.self a
   ·have e' : ¬ (a:Int)=(b:Int):=by omega
    have hnd:near.getD b 0=(p:Int):=q1;rw [if_neg e'];simp only [Int.toNat_natCast,hnd];have hr:=q4.rk ho q2 hb q3;rw [dom1_iff hg hN a n p q2 (by omega)];exact ⟨fun hd=>hd.trans q4,fun hd=>q5 a hd e⟩
theorem jcR (hg:Ok g) {near:List Int} (hN:NearOk g near) {a b:Nat} (ha:a<g.length) (hb:b<g.length):dominates near a b=true↔(a∈order g/\b∈order g/\Dom g (order g) a b)\/a=b:=by
 have ho:=order_ok hg;have hoka:okIx near (a:Int):=⟨by omega,by rw [hN.len]; omega⟩
 rw [dominates,if_pos hoka];have hm:=hg.max
 by_cases hbl:b∈order g
 ·have hr:rk g (order g) b<257:=by
   have h1:=rk_lt ho hbl;obtain ⟨t,k1,k2,k3⟩:=order_ends hg;have:(order g).length<=g.length:=by simp [order,k1]; exact k2
   omega
  rw [dom1_iff hg hN a 257 b hbl hr];constructor
  ·exact fun h => .inl ⟨h.mem ho hbl,hbl,h⟩
  ·rintro (h | h)
   ·exact h.2.2
   ·subst h; exact Dom.self a
 ·rw [dom1_out (n:=256) (by rw [hN.len]; exact hb) (hN.out b hb hbl)];simp only [aj];constructor
  ·exact .inr
  ·rintro (h | h)
   ·exact absurd h.2.1 hbl
   ·exact h
theorem ways (hg:Ok g) {near:List Int} (hN:NearOk g near) {a b:Nat} (ha:a<g.length) (hb:b<g.length) :
  dominates near a b=(((without g none).getD a false&&(without g none).getD b false && !((without g (some a)).getD b false))||decide (a=b)):=by
 have h1:=jcR hg hN ha hb;have w1:=without_none hg a;have w2:=without_none hg b;have w3:=YR hg (b:=b) ha;unfold Met at w1 w2 w3;rw [Bool.eq_iff_iff,h1];simp only [bq,af,Bool.not_eq_true',aj,w1,w2];constructor
 ·rintro (⟨k1,k2,k3⟩ | h)
  ·refine .inl ⟨⟨k1,k2⟩, ?_⟩
   cases hx:(without g (some a)).getD b false with
   | false=>rfl
   | true=>obtain ⟨_,k,hw⟩:=w3.1 hx; exact absurd hw (k3 k)
  ·exact .inr h
 ·rintro (⟨⟨k1,k2⟩,k3⟩ | h)
  ·by_cases e:b=a
   ·exact .inr e.symm
   ·refine .inl ⟨k1,k2,fun k hw => ?_⟩;have:=w3.2 ⟨e,k,hw⟩;rw [k3] at this; cases this
  ·exact .inr h
end
end Go.Vw.G
/-
 The nodes of a loop, found from a list of nodes to do.
-/
namespace Go.Vw.G
open Go.Vw
inductive Bk (fr:List (List Nat)) (h:Nat) (ts:List Nat):Nat->Prop
 | start {n:Nat} (hn:n∈ts):Bk fr h ts n
 | step {n p:Nat} (hb:Bk fr h ts n) (hn:n≠h) (hp:p∈fr.getD n []):Bk fr h ts p
structure Srch (fr:List (List Nat)) (h:Nat) (ts:List Nat) (N:Nat) (inn:List Bool) (todo:List Nat):Prop where
 len:inn.length=N
 head:inn.getD h false=true
 sound : ∀ n,inn.getD n false=true->n=h\/Bk fr h ts n
 work : ∀ t∈todo,Bk fr h ts t
 closed : ∀ n,inn.getD n false=true->n≠h -> ∀ p∈fr.getD n [],inn.getD p false=true\/p∈todo
 all : ∀ t∈ts,inn.getD t false=true\/t∈todo
 lt : ∀ t∈todo,t<N
theorem Srch.start {fr:List (List Nat)} {h:Nat} {ts:List Nat} {N:Nat} (hh:h<N) (ht : ∀ t∈ts,t<N):Srch fr h ts N ((List.replicate N false).set h true) ts:=by
 have hl:h<(List.replicate N false).length:=by simpa using hh
 have hset : ∀ n,((List.replicate N false).set h true).getD n false=true↔n=h:=by
  intro n;have:=jcF hl n;unfold Met at this;rw [this];constructor
  ·rintro (h1 | h1)
   ·exact h1
   ·rw [rep_getD] at h1; cases h1
  ·exact .inl
 refine ⟨by simp,(hset h).2 rfl,fun n hn => .inl ((hset n).1 hn),fun t h1 => .start h1,fun n hn hne=>absurd ((hset n).1 hn) hne,fun t h1 => .inr h1,ht⟩
section
variable {fr:List (List Nat)} {h:Nat} {ts:List Nat} {N:Nat} {inn:List Bool} {n:Nat}
theorem Srch.take {todo todo':List Nat} (hS:Srch fr h ts N inn todo) (hn:n∈todo) (hfl : ∀ p∈fr.getD n [],p<N) (hni:inn.getD n false=false) (hsub : ∀ t∈todo',t∈todo\/t∈fr.getD n []) (hre : ∀ t∈todo,t=n\/t∈todo') (hfr : ∀ t∈fr.getD n [],t∈todo'):Srch fr h ts N (inn.set n true) todo':=by
 have hnl:n<inn.length:=by rw [hS.len]; exact hS.lt n hn
 have hset : ∀ m,(inn.set n true).getD m false=true↔m=n\/inn.getD m false=true:=fun m=>jcF hnl m
 have hnh:n≠h:=by intro e; subst e; rw [hS.head] at hni; cases hni
 refine ⟨by simpa using hS.len,(hset h).2 (.inr hS.head),fun m hm => ?_,fun t ht => ?_,fun m hm hne p hp => ?_,fun t ht => ?_,fun t ht => ?_⟩
 ·rcases (hset m).1 hm with e | h1
  ·subst e; exact .inr (hS.work m hn)
  ·exact hS.sound m h1
 ·rcases hsub t ht with h1 | h1
  ·exact hS.work t h1
  ·exact .step (hS.work n hn) hnh h1
 ·rcases (hset m).1 hm with e | h1
  ·subst e; exact .inr (hfr p hp)
  ·rcases hS.closed m h1 hne p hp with h2 | h2
   ·exact .inl ((hset p).2 (.inr h2))
   ·rcases hre p h2 with h3 | h3
    ·exact .inl ((hset p).2 (.inl h3))
    ·exact .inr h3
 ·rcases hS.all t ht with h1 | h1
  ·exact .inl ((hset t).2 (.inr h1))
  ·rcases hre t h1 with h3 | h3
   ·exact .inl ((hset t).2 (.inl h3))
   ·exact .inr h3
 ·rcases hsub t ht with h1 | h1
  ·exact hS.lt t h1
  ·exact hfl t h1
end
def picked (inn:List Bool):Nat->List Nat
 | 0=>[]
 | k+1=>if inn.getD k false then picked inn k++[k] else picked inn k
open Classical in
/-- Whether each node is of a loop. -/
noncomputable def loopIn (fr:List (List Nat)) (h:Nat) (ts:List Nat) (N:Nat):List Bool:=(List.range N).map fun n=>decide (n=h\/Bk fr h ts n)
def backs (near:List Int) (h:Nat) (row:List Nat):List Nat:=row.filter fun p=>dominates near h p
noncomputable def loopsTo (near:List Int) (fr:List (List Nat)) (N:Nat):Nat->List (Nat × List Nat)
 | 0=>[]
 | h+1=>if (0<h/\near.getD h 0<0)\/backs near h (fr.getD h [])=[] then loopsTo near fr N h
  else loopsTo near fr N h++[(h,picked (loopIn fr h (backs near h (fr.getD h [])) N) N)]
end Go.Vw.G
/-
 What is so of each loop: its head dominates its nodes that are reached, and they come from its nodes alone.
-/
namespace Go.Vw.G
open Go.Vw
theorem Bk.lt {g:List (List Nat)} (hg:Ok g) {h:Nat} {ts:List Nat} (hts : ∀ t∈ts,t<g.length) {n:Nat} (hb:Bk (froms g) h ts n):n<g.length:=by
 induction hb with
 | start hn=>exact hts _ hn
 | step hb hne hp ih=>exact ((mem_froms hg _ _ ih).1 hp).1
end Go.Vw.G
namespace Go.Vw
open Go.Proofs Go.RowKit
attribute [-simp] List.map_set
theorem Yf (S:Store) (l:List Int) (hl:l.length<=1048576):bU 67 [vl vint l] S (fun r T=>r = .slice (lid S.nx 0) 0 l.length/\T=St S [] [some (1,l.map vint)]):=by
 refine QB (c:=jc Tryz.f67) Tryz.func67 Tryz.ntmps67 fun hwf=>?_
 refine QY ?_;refine QT ?_;refine vw_isnil (l:=l.map vint) rfl rfl (by rfl) rfl rfl rfl rfl (by rfl) rfl rfl Tryz.underlying23 rfl ?_;intro b hb;simp only [Fr.set]
 by_cases h:b=true
 ·have hl0:l=[]:=by simpa using hb h
  subst hl0;subst h
  refine bw ?_
  exact ⟨_,_,(Ghost.nils (St S [] []) 1).toB _,by rw [jL]; rfl,by rw [Zk]; rfl⟩
 ·have h':b=false:=by simpa using h
  subst h';have hb1:l.length*8<=140737488355328:=by omega
  have hb2:l.length<=140737488355328:=by omega
  repeat first|refine QG ?_|refine QY ?_ (r:=by conv=>lhs;simp[QV,hb1,hb2,jau,nc_vint,qn,rep0])
  exact jcQ [1] hwf (by decide) (by simp) (by simp; rfl) (by simp; rfl) ⟨by simp,by simp⟩
theorem Clone_v (l:List Int) (hl:l.length<=1048576):bS 67 [vl vint l] (vl vint l):=by
 intro S;refine JH fun hwf=>qZ ((Yf S l hl).mono ?_)
 rintro r T ⟨rfl,rfl⟩;exact jf hwf ((frz1 (k:=0) (by simp) (by rfl) (jq vint (fun _=>rfl) _) (by simp)).toB _) rfl
theorem one_v (v:Int) (to:List Int) (ht:to.length<2^63):bS 69 ([vint v]++[.ref (vl vint to)]) (vint (Ss.putv to v)):=by
 intro S;refine QB (c:=jc Tryz.f69) Tryz.func69 Tryz.ntmps69 fun hwf=>?_
 by_cases h1:0<=v
 ·obtain ⟨n,rfl⟩ : ∃ n:Nat,v=n:=⟨v.toNat,by omega⟩
  by_cases h2:n<to.length
  ·refine bx h2 ?_
   exact ja hwf (by simp [Ss.putv,h2]) rfl
  ·refine bx h2 ?_
   exact ja hwf (by simp [Ss.putv,h2]) rfl
 ·refine bx h1 ?_
  exact ja hwf (by simp [Ss.putv,h1]) rfl
theorem allO_v (S:Store) (l to:List Int) (ps:Nat) (hps:S.get ps=some (1,[.func 69 [.ref (vl vint to)]])) (hl:l.length<=1048576) (ht:to.length<2^63):bU 70 ([vl vint l]++[.ptr ps 0]) S (fun r T=>r = .slice (lid S.nx 0) 0 l.length/\T=St S [] [some (1,(l.map (Ss.putv to)).map vint)]):=by
 have cp:=fun v=>one_v v to ht
 generalize Ss.putv to=g at *
 refine QB (c:=jc Tryz.f70) Tryz.func70 Tryz.ntmps70 fun hwf=>?_
 have hpn:=jl hwf hps;have p1:=fun u l => @jh S u l _ hpn
 have pP:=fun ks=>qv (n:=S.nx) ks hpn
 have pT:=fun ks=>jZ (n:=S.nx) ks hpn
 refine QY ?_;refine QY ?_;refine zx 4 1 rfl (by conv=>lhs; simp [Fr.set]) ?_
 refine bw ?_
 refine QT ?_;refine jd [1,4,7,8,9] rfl (fun c σ S' => ∃ (k:Nat) (out:List Int),k<=l.length/\c=l.length-k/\out=(l.take k).map g/\out.length=k/\σ=[(1, .ptr ps 0),(4, .slice (lid S.nx 0) 0 k),(7,vl vint l),(8,vnat l.length),(9,vnat k)]/\S'=St S [] [some (1,out.map vint)]) l.length ?_ ?_
 ·exact ⟨0,[],by omega,rfl,by simp,rfl,by simp [Fr.only],by simp⟩
 ·rintro c σ T ⟨k,out,hk,rfl,ho,hlen,rfl,rfl⟩
  by_cases hkt:k<l.length
  ·have hw:=jg hkt (by omega);have cpk:=cp l[k];have htk:(l.take (k+1)).map g=(l.take k).map g++[g l[k]]:=by rw [List.take_add_one,ac hkt,List.map_append]; rfl
   generalize g l[k]=gv at *
   have hb:(k+1)*8<=140737488355328:=by omega
   have hb':k+1<=140737488355328:=by omega
   refine bx hkt ?_
   refine QP ?_ (r:=by conv=>lhs;simp[QV,hkt,p1,hps]);refine ZU (cpk) (by rfl) (by rfl) (by rfl) ?_;refine bG hb hb' hlen ?_;refine QN ?_
   refine bD hb hb' hlen hw ?_
   refine jT [2] (by conv=>lhs; simp [Fr.only]) hwf (by decide) (by simp [pP,pT]) (by conv=>lhs; simp [pP,pT]) (by conv=>lhs; simp [pP,pT]) (by conv=>lhs; simp [pP,pT]) ⟨?_,k+1,out++[gv],hkt,rfl,by rw [htk,ho],by simp [hlen],by simp [hw],by simp⟩;omega
  ·have hke:k=l.length:=by omega
   subst hke;rw [List.take_length] at ho
   refine bx hkt ?_
   rw [<-ho];exact zi ⟨by simp,rfl⟩
end Go.Vw
