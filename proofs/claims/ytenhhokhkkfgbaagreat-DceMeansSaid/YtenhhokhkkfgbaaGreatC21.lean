import Derived.Test.YtenhhokhkkfgbaaGreatC20
/- Part of the proof. -/
set_option linter.unusedVariables false
set_option linter.unusedSimpArgs false
set_option maxRecDepth 10000
set_option maxHeartbeats 8000000
/-
 Turn by turn the nearest dominators are found.
-/
namespace Go.Vw.G
open Go.Vw
section
variable {g:List (List Nat)} {l:List Nat}
def nd (near:List Int) (x:Nat):Int:=near.getD x 0
structure Ptr (g:List (List Nat)) (l:List Nat) (near:List Int) (k x p:Nat):Prop where
 mem:p∈l
 rk:rk g l p<rk g l x
 dom : ∀ d,Dom g l d x->d≠x->Dom g l d p
 lev:DomK g l k p x
structure Inv (g:List (List Nat)) (l:List Nat) (lev:Nat->Nat) (near:List Int):Prop where
 len:near.length=g.length
 zero:nd near 0=0
 out : ∀ x,x<g.length->x∉l->nd near x = -1
 ptr : ∀ x∈l,x≠0->0<=nd near x -> ∃ p:Nat,nd near x=p/\0<=nd near p/\Ptr g l near (lev x) x p
 neg : ∀ x∈l,nd near x<0->nd near x = -1
inductive Anc (near:List Int) (y:Nat):Nat->Prop
 | refl:Anc near y y
 | up {x p:Nat} (h0:x≠0) (hp:nd near x=p) (h:Anc near y p):Anc near y x
theorem anc_dom {lev:Nat->Nat} {near:List Int} (hI:Inv g l lev near) {k y a:Nat} (h:Anc near y a) (ha:a∈l) (hd:0<=nd near a) (hk : ∀ x∈l,rk g l x<=rk g l a->0<=nd near x->x≠0->k<=lev x):DomK g l k y a:=by
 induction h with
 | refl=>exact DomK.self k y
 | @up x p h0 hp _ ih =>
  obtain ⟨p',e,hdp,hP⟩:=hI.ptr x ha h0 hd;rw [hp] at e;have e:p=p':=by omega
  subst e;have:=ih hP.mem hdp fun z hz hle hdz h0z=>hk z hz (by have:=hP.rk; omega) hdz h0z
  exact this.trans (hP.lev.less (hk x ha (bf _) hd h0))
theorem jay (ho:qu g l) {lev:Nat->Nat} {near:List Int} (hI:Inv g l lev near) : ∀ (f a b:Nat),rk g l a+rk g l b<f->a∈l->b∈l->0<=nd near a->0<=nd near b ->
  ∃ c:Nat,meetF (rankTo g.length l l.length) near f a b=some (c:Int)/\c∈l/\0<=nd near c/\Anc near c a/\Anc near c b/\rk g l c<=rk g l a/\rk g l c<=rk g l b /\
   ∀ D:Nat->Prop,(∀ d,D d->Dom g l d a)->(∀ d,D d->Dom g l d b) -> ∀ d,D d->Dom g l d c
 | 0,a,b,h,_,_,_,_=>by omega
 | f+1,a,b,h,ha,hb,hda,hdb=>by
  by_cases hab:a=b
  ·subst hab;exact ⟨a,by simp [meetF],ha,hda, .refl, .refl,bf _,bf _,fun D h1 _ d hd=>h1 d hd⟩
  ·have hab' : ¬ (a:Int)=(b:Int):=by omega
   have hal:=ho.lt a ha;have hbl:=ho.lt b hb;have hl:=hI.len;have hne:rk g l a≠rk g l b:=fun e=>hab (rk_inj ho ha hb e)
   have hbnd:(0:Int)<=a/\(a:Int)<near.length/\(0:Int)<=b/\(b:Int)<near.length:=⟨by omega,by omega,by omega,by omega⟩
   by_cases hlt:rk g l b<rk g l a
   ·have h0:a≠0:=by intro e; subst e; rw [Yo ho] at hlt; omega
    obtain ⟨p,e,hdp,hP⟩:=hI.ptr a ha h0 hda;have e':near.getD a 0=(p:Int):=e;have e1:meetF (rankTo g.length l l.length) near (f+1) a b=meetF (rankTo g.length l l.length) near f (p:Int) b:=by
     rw [meetF,if_neg hab',if_pos hbnd];simp only [Int.toNat_natCast];rw [if_pos (show (rankTo g.length l l.length).getD b 0<(rankTo g.length l l.length).getD a 0 from hlt),e']
    rw [e1];have hrk:=hP.rk;obtain ⟨c,k1,k2,k3,k4,k5,k6,k7,k8⟩:=jay ho hI f p b (by omega) hP.mem hb hdp hdb;refine ⟨c,k1,k2,k3, .up h0 e k4,k5,by omega,k7,fun D h1 h2=>k8 D (fun d hd => ?_) h2⟩
    by_cases hda':d=a
    ·subst hda';have:=(h2 d hd).rk ho ha hb hab;omega
    ·exact hP.dom d (h1 d hd) hda'
   ·have h0:b≠0:=by intro e; subst e; rw [Yo ho] at hlt; have:=rk_pos ho ha (by omega); omega
    obtain ⟨p,e,hdp,hP⟩:=hI.ptr b hb h0 hdb;have e':near.getD b 0=(p:Int):=e;have e1:meetF (rankTo g.length l l.length) near (f+1) a b=meetF (rankTo g.length l l.length) near f a (p:Int):=by
     rw [meetF,if_neg hab',if_pos hbnd];simp only [Int.toNat_natCast];rw [if_neg (show ¬ (rankTo g.length l l.length).getD b 0<(rankTo g.length l l.length).getD a 0 from hlt),e']
    rw [e1];have hrk:=hP.rk;obtain ⟨c,k1,k2,k3,k4,k5,k6,k7,k8⟩:=jay ho hI f a p (by omega) ha hP.mem hda hdp;refine ⟨c,k1,k2,k3,k4, .up h0 e k5,k6,by omega,fun D h1 h2=>k8 D h1 fun d hd => ?_⟩
    by_cases hda':d=b
    ·subst hda';have:=(h1 d hd).rk ho hb ha (Ne.symm hab);omega
    ·exact hP.dom d (h2 d hd) hda'
structure Best (g:List (List Nat)) (l:List Nat) (near:List Int) (n:Nat) (seen:List Nat) (best:Int):Prop where
 none:best<0->best = -1 /\ ∀ p∈seen,nd near p<0
 some:0<=best -> ∃ c:Nat,best=c/\c∈l/\0<=nd near c/\(∀ p∈seen,0<=nd near p->Anc near c p/\rk g l c<=rk g l p) /\ ∀ d,Dom g l d n->d≠n->Dom g l d c
theorem WI (ho:qu g l) {lev:Nat->Nat} {near:List Int} (hI:Inv g l lev near) {F n:Nat} (hF:2*l.length<F) : ∀ (ps seen:List Nat) (best:Int),Best g l near n seen best->(∀ p∈ps,p<g.length/\n∈g.getD p []) ->
  ∃ b,pickF (rankTo g.length l l.length) near F ps best=some b/\Best g l near n (seen++ps) b
 | [],seen,best,hB,_=>⟨best,rfl,by simpa using hB⟩
 | p::ps,seen,best,hB,hps=>by
  obtain ⟨hpl,hpn⟩:=hps p List.mem_cons_self;have hps':=fun q hq=>hps q (List.mem_cons_of_mem _ hq)
  have happ:seen++p::ps=(seen++[p])++ps:=by simp
  simp only [pickF];have hnd:near.getD p 0=nd near p:=rfl;rw [hnd,happ]
  by_cases h1:nd near p<0
  ·rw [if_pos h1];refine WI ho hI hF ps (seen++[p]) best ⟨fun hb=>⟨(hB.none hb).1,fun q hq => ?_⟩,fun hb => ?_⟩ hps'
   ·rcases aG.1 hq with h | h
    ·exact (hB.none hb).2 q h
    ·simp at h; subst h; exact h1
   ·obtain ⟨c,e,k1,k2,k3,k4⟩:=hB.some hb;refine ⟨c,e,k1,k2,fun q hq hdq => ?_,k4⟩;rcases aG.1 hq with h | h
    ·exact k3 q h hdq
    ·simp at h; subst h; omega
  ·rw [if_neg h1];have hdp:0<=nd near p:=by omega
   have hpm:p∈l:=by
    by_cases hm:p∈l
    ·exact hm
    ·have:=hI.out p hpl hm; omega
   by_cases h2:best<0
   ·rw [if_pos h2];refine WI ho hI hF ps (seen++[p]) p ⟨fun hb=>by omega,fun _=>⟨p,rfl,hpm,hdp,fun q hq hdq => ?_,fun d hd hne=>hd.pred hne hpn⟩⟩ hps';rcases aG.1 hq with h | h
    ·have:=(hB.none h2).2 q h; omega
    ·simp at h; subst h; exact ⟨.refl,bf _⟩
   ·rw [if_neg h2];obtain ⟨c,e,k1,k2,k3,k4⟩:=hB.some (by omega);subst e;obtain ⟨c',m1,m2,m3,m4,m5,m6,m7,m8⟩:=jay ho hI F c p (by have:=rk_lt ho k1; have:=rk_lt ho hpm; omega) k1 hpm k2 hdp;rw [m1];simp only [Option.bind_some];have trans : ∀ q,Anc near c q->Anc near c' q:=by
     intro q hq
     induction hq with
     | refl=>exact m4
     | up h0 hp _ ih=>exact .up h0 hp ih
    refine WI ho hI hF ps (seen++[p]) c' ⟨fun hb=>by omega,fun _=>⟨c',rfl,m2,m3,fun q hq hdq => ?_,fun d hd hne=>m8 (fun d=>Dom g l d n/\d≠n) (fun d h=>k4 d h.1 h.2) (fun d h=>h.1.pred h.2 hpn) d ⟨hd,hne⟩⟩⟩ hps';rcases aG.1 hq with h | h
    ·obtain ⟨a1,a2⟩:=k3 q h hdq;exact ⟨trans q a1,by omega⟩
    ·simp at h; subst h; exact ⟨m5,m7⟩
/-! ### A turn -/
structure PassInv (g:List (List Nat)) (l:List Nat) (j i:Nat) (near:List Int):Prop where
 inv:Inv g l (fun x=>if rk g l x<i then j else j-1) near
 dfd : ∀ x∈l,rk g l x<i->0<=nd near x
 und:j=0 -> ∀ x∈l,i<=rk g l x->nd near x<0
 all:0<j -> ∀ x∈l,0<=nd near x
theorem nd_set {near:List Int} {n:Nat} (h:n<near.length) (c:Int) (x:Nat):nd (near.set n c) x=if x=n then c else nd near x:=by
 unfold nd
 by_cases e:n=x
 ·subst e; rw [getD_set_self' h,if_pos rfl]
 ·rw [getD_set_other e,if_neg (fun h=>e h.symm)]
theorem node_turn (ho:qu g l) {fr:List (List Nat)} (hfr : ∀ n p,n<g.length->(p∈fr.getD n []↔p<g.length/\n∈g.getD p [])) {F:Nat} (hF:2*l.length<F) {j i:Nat} {near:List Int} (hP:PassInv g l j i near) (hi:i<l.length) (hi1:1<=i) :
  ∃ c:Nat,pickF (rankTo g.length l l.length) near F (fr.getD l[i] []) (-1)=some (c:Int)/\PassInv g l j (i+1) (near.set l[i] (c:Int))/\Ptr g l near j l[i] c:=by
 obtain ⟨n,hn⟩ : ∃ n,l[i]=n:=⟨_,rfl⟩
 have hnl:n∈l:=hn▸ah hi;have hrn:rk g l n=i:=by rw [<-hn]; exact rk_at ho hi
 have hn0:n≠0:=by intro e; rw [e,Yo ho] at hrn; omega
 have hng:=ho.lt n hnl;rw [hn];obtain ⟨b,h1,h2⟩:=WI ho hP.inv hF (fr.getD n []) [] (-1) ⟨fun _=>⟨rfl,by simp⟩,fun h=>by omega⟩ (fun p hp=>(hfr n p hng).1 hp);simp only [List.nil_append] at h2;obtain ⟨q,hq,hqr,hqk⟩:=par_rk ho hnl hn0;have hqf:q∈fr.getD n []:=(hfr n q hng).2 ⟨ho.lt q hq,hqk⟩;have hqd:0<=nd near q:=hP.dfd q hq (by omega);have hb:0<=b:=by
  rcases Int.lt_or_le b 0 with h | h
  ·have:=(h2.none h).2 q hqf; omega
  ·exact h
 obtain ⟨c,rfl,k1,k2,k3,k4⟩:=h2.some hb;have hcr:rk g l c<i:=by have:=(k3 q hqf hqd).2; omega
 have hlev:DomK g l j c n:=by
  intro hw;generalize hjj:j=jj at hw
  cases hw with
  | start _ _=>exact hn0 rfl
  | @on _ a _ ha hna hr _ =>
   have haR:a∈l:=(ho.mem a).2 ha.reached;have had:0<=nd near a:=hP.dfd a haR (by omega);have haf:a∈fr.getD n []:=(hfr n a hng).2 ⟨ho.lt a haR,hna⟩;have:=anc_dom hP.inv (k:=j) (k3 a haf had).1 haR had (fun x hx hle _ _=>by rw [if_pos (by omega)]; exact bf _);rw [hjj] at this;exact this ha
  | @back j' a _ ha hna _ =>
   have haR:a∈l:=(ho.mem a).2 ha.reached;have had:0<=nd near a:=hP.all (by omega) a haR;have haf:a∈fr.getD n []:=(hfr n a hng).2 ⟨ho.lt a haR,hna⟩;have:=anc_dom hP.inv (k:=j') (k3 a haf had).1 haR had (fun x hx hle _ _=>by split<;>omega);exact this ha
 have hcn:c≠n:=by intro e; subst e; omega
 have hptr:Ptr g l near j n c:=⟨k1,by omega,k4,hlev⟩
 have hnn:n<near.length:=by rw [hP.inv.len]; exact hng
 have hset:=nd_set hnn (c:Int);refine ⟨c,h1,⟨⟨by simpa using hP.inv.len, ?_,fun x hx hxl => ?_,fun x hx hx0 hdx => ?_,fun x hx hdx => ?_⟩,fun x hx hrx => ?_,fun h0 x hx hrx => ?_,fun h0 x hx => ?_⟩,hptr⟩
 ·rw [hset,if_neg (Ne.symm hn0)]; exact hP.inv.zero
 ·rw [hset,if_neg (fun (e:x=n)=>hxl (by rw [e]; exact hnl))]; exact hP.inv.out x hx hxl
 ·rw [hset] at hdx ⊢
  by_cases e:x=n
  ·subst e;refine ⟨c,by rw [if_pos rfl],by rw [hset,if_neg hcn]; exact k2,⟨k1,hptr.rk,k4, ?_⟩⟩;rw [if_pos (by omega)]; exact hlev
  ·rw [if_neg e] at hdx ⊢;obtain ⟨p,e1,e2,e3⟩:=hP.inv.ptr x hx hx0 hdx;refine ⟨p,e1, ?_,⟨e3.mem,e3.rk,e3.dom, ?_⟩⟩
   ·rw [hset]; split
    ·omega
    ·exact e2
   ·have hne:rk g l x≠i:=fun h=>e (rk_inj ho hx hnl (h.trans hrn.symm))
    have:=e3.lev
    by_cases hlt:rk g l x<i
    ·rw [if_pos hlt] at this; rw [if_pos (by omega)]; exact this
    ·rw [if_neg hlt] at this; rw [if_neg (by omega)]; exact this
 ·rw [hset] at hdx ⊢
  by_cases e:x=n
  ·rw [if_pos e] at hdx; omega
  ·rw [if_neg e] at hdx ⊢; exact hP.inv.neg x hx hdx
 ·rw [hset]
  by_cases e:x=n
  ·rw [if_pos e]; omega
  ·rw [if_neg e];have hne:rk g l x≠i:=fun h=>e (rk_inj ho hx hnl (h.trans hrn.symm))
   exact hP.dfd x hx (by omega)
 ·rw [hset,if_neg (fun e=>by subst e; omega)];exact hP.und h0 x hx (by omega)
 ·rw [hset]; split
  ·omega
  ·exact hP.all h0 x hx
theorem Ptr.unique (ho:qu g l) {K k k' n p q:Nat} {near near':List Int} (hK : ∀ y n,y∈l->n∈l->DomK g l K y n->Dom g l y n) (hn:n∈l) (h:Ptr g l near k n p) (h':Ptr g l near' k' n q) (hk:K<=k) (hk':K<=k'):p=q:=by
 have d1:=hK p n h.mem hn (h.lev.less hk);have d2:=hK q n h'.mem hn (h'.lev.less hk');have n1:p≠n:=fun e=>by have:=h.rk; rw [e] at this; omega
 have n2:q≠n:=fun e=>by have:=h'.rk; rw [e] at this; omega
 exact (h'.dom p d1 n1).anti ho (h.dom q d2 n2) h.mem h'.mem
theorem KH (ho:qu g l) {fr:List (List Nat)} (hfr : ∀ n p,n<g.length->(p∈fr.getD n []↔p<g.length/\n∈g.getD p [])) {F:Nat} (hF:2*l.length<F) {K j:Nat} (hK : ∀ y n,y∈l->n∈l->DomK g l K y n->Dom g l y n) :
  ∀ (m i:Nat) (near:List Int) (t:Bool),i+m=l.length->1<=i->PassInv g l j i near ->
   ∃ near' t',sweepF (rankTo g.length l l.length) fr F (l.drop i) near t=some (near',t')/\PassInv g l j l.length near'/\(K+1<=j->t'=t)/\(t'=false->t=false/\near'=near)
 | 0,i,near,t,hi,_,hP=>by
  have:i=l.length:=by omega
  subst this;exact ⟨near,t,by rw [List.drop_length]; rfl,hP,fun _=>rfl,fun h=>⟨h,rfl⟩⟩
 | m+1,i,near,t,hi,h1,hP=>by
  have hil:i<l.length:=by omega
  obtain ⟨c,e1,e2,e3⟩:=node_turn ho hfr hF hP hil h1;rw [am hil,sweepF,e1,Option.bind_some];obtain ⟨near',t',k1,k2,k3,k4⟩:=KH ho hfr hF hK m (i+1) (near.set l[i] (c:Int)) (t||decide (near.getD l[i] 0≠(c:Int))) (by omega) (by omega) e2;have hnl:=ah hil;have hrn:=rk_at ho hil;refine ⟨near',t',k1,k2,fun hj => ?_,fun ht => ?_⟩
  ·rw [k3 hj];have hn0:l[i]≠0:=by intro e; rw [e,Yo ho] at hrn; omega
   obtain ⟨p,q1,q2,q3⟩:=hP.inv.ptr l[i] hnl hn0 (hP.all (by omega) _ hnl);have hpc:p=c:=by
    refine Ptr.unique ho hK hnl q3 e3 ?_ (by omega);rw [if_neg (by omega)]; omega
   have:near.getD l[i] 0=(c:Int):=by rw [<-hpc]; exact q1
   rw [this]; simp
  ·obtain ⟨a1,a2⟩:=k4 ht;simp only [Bool.or_eq_false_iff,decide_eq_false_iff_not,Decidable.not_not] at a1;refine ⟨a1.1,a2.trans ?_⟩;have hnn:l[i]<near.length:=by rw [hP.inv.len]; exact ho.lt _ hnl
   have e:near.getD l[i] 0=near[l[i]]:=by simp [hnn]
   have:=a1.2;rw [e] at this;rw [<-this];exact List.set_getElem_self hnn
structure Idom (g:List (List Nat)) (l:List Nat) (near:List Int):Prop where
 len:near.length=g.length
 zero:nd near 0=0
 out : ∀ x,x<g.length->x∉l->nd near x = -1
 near : ∀ x∈l,x≠0 -> ∃ p:Nat,nd near x=p/\p∈l/\p≠x/\Dom g l p x /\ ∀ d,Dom g l d x->d≠x->Dom g l d p
theorem PassInv.next (ho:qu g l) {j:Nat} {near:List Int} (h:PassInv g l j l.length near):PassInv g l (j+1) 1 near:=by
 refine ⟨⟨h.inv.len,h.inv.zero,h.inv.out,fun x hx hx0 hd => ?_,h.inv.neg⟩,fun x hx _=>h.dfd x hx (rk_lt ho hx),fun h0=>by omega,fun _ x hx=>h.dfd x hx (rk_lt ho hx)⟩;obtain ⟨p,e1,e2,e3⟩:=h.inv.ptr x hx hx0 hd;refine ⟨p,e1,e2,⟨e3.mem,e3.rk,e3.dom, ?_⟩⟩;have:=e3.lev;rw [if_pos (rk_lt ho hx)] at this;have hp:=rk_pos ho hx hx0;rw [if_neg (by omega)];simpa using this
theorem PassInv.idom (ho:qu g l) {K j:Nat} {near:List Int} (hK : ∀ y n,y∈l->n∈l->DomK g l K y n->Dom g l y n) (h:PassInv g l j 1 near) (hj:K+1<=j):Idom g l near:=by
 refine ⟨h.inv.len,h.inv.zero,h.inv.out,fun x hx hx0 => ?_⟩;obtain ⟨p,e1,e2,e3⟩:=h.inv.ptr x hx hx0 (h.all (by omega) x hx);have hp:=rk_pos ho hx hx0;have hl:=e3.lev;rw [if_neg (by omega)] at hl;exact ⟨p,e1,e3.mem,fun e=>by have:=e3.rk; rw [e] at this; omega,hK p x e3.mem hx (hl.less (by omega)),e3.dom⟩
theorem chk_spec (ho:qu g l) {fr:List (List Nat)} (hfr : ∀ n p,n<g.length->(p∈fr.getD n []↔p<g.length/\n∈g.getD p [])) {F:Nat} (hF:2*l.length<F) {K:Nat} (hK : ∀ y n,y∈l->n∈l->DomK g l K y n->Dom g l y n) :
  ∀ (r j:Nat) (near:List Int),j+r=K+1->PassInv g l j 1 near -> ∃ nearF,chk (rankTo g.length l l.length) fr F l.tail (r+1) near=some nearF/\Idom g l nearF:=by
 have hl1:1<=l.length:=by obtain ⟨r,rfl⟩:=ho.head; simp
 intro r
 induction r with
 | zero =>
  intro j near hj hP;obtain ⟨near',t',k1,k2,k3,k4⟩:=KH ho hfr hF hK (l.length-1) 1 near false (by omega) (by omega) hP;have ht:=k3 (by omega);subst ht;obtain ⟨_,rfl⟩:=k4 rfl;rw [List.drop_one] at k1;exact ⟨near',by simp [chk,k1],hP.idom ho hK (by omega)⟩
 | succ r ih =>
  intro j near hj hP;obtain ⟨near',t',k1,k2,k3,k4⟩:=KH ho hfr hF hK (l.length-1) 1 near false (by omega) (by omega) hP;rw [List.drop_one] at k1
  cases t' with
  | true =>
   obtain ⟨nearF,a1,a2⟩:=ih (j+1) near' (by omega) (k2.next ho);exact ⟨nearF,by rw [chk,k1]; simpa using a1,a2⟩
  | false =>
   obtain ⟨_,rfl⟩:=k4 rfl;refine ⟨near',by simp [chk,k1], ?_⟩;have again : ∀ m,PassInv g l (j+m) 1 near':=by
    intro m
    induction m with
    | zero=>exact hP
    | succ m ihm =>
     obtain ⟨n2,t2,q1,q2,_,_⟩:=KH ho hfr hF hK (l.length-1) 1 near' false (by omega) (by omega) ihm;rw [List.drop_one,k1] at q1
     cases q1
     exact q2.next ho
   exact (again (K+1)).idom ho hK (by omega)
theorem enough (ho:qu g l) : ∃ K, ∀ y n,y∈l->n∈l->DomK g l K y n->Dom g l y n:=by
 have one : ∀ y n, ∃ k,DomK g l k y n->Dom g l y n:=by
  intro y n
  by_cases h:Dom g l y n
  ·exact ⟨0,fun _=>h⟩
  ·have : ∃ k,Way g l y k n:=Classical.byContradiction fun hc=>h fun k hw=>hc ⟨k,hw⟩
   obtain ⟨k,hk⟩:=this;exact ⟨k,fun hd=>absurd hk hd⟩
 have row : ∀ (y:Nat) (ns:List Nat), ∃ K, ∀ n∈ns,DomK g l K y n->Dom g l y n:=by
  intro y ns
  induction ns with
  | nil=>exact ⟨0,by simp⟩
  | cons n ns ih =>
   obtain ⟨K,hK⟩:=ih;obtain ⟨k,hk⟩:=one y n;refine ⟨max K k,fun m hm hd => ?_⟩;rcases aL.1 hm with rfl | hm
   ·exact hk (hd.less (by omega))
   ·exact hK m hm (hd.less (by omega))
 have all : ∀ ys:List Nat, ∃ K, ∀ y∈ys, ∀ n∈l,DomK g l K y n->Dom g l y n:=by
  intro ys
  induction ys with
  | nil=>exact ⟨0,by simp⟩
  | cons y ys ih =>
   obtain ⟨K,hK⟩:=ih;obtain ⟨k,hk⟩:=row y l;refine ⟨max K k,fun z hz n hn hd => ?_⟩;rcases aL.1 hz with rfl | hz
   ·exact hk n hn (hd.less (by omega))
   ·exact hK z hz n hn (hd.less (by omega))
 obtain ⟨K,hK⟩:=all l;exact ⟨K,fun y n hy hn=>hK y hy n hn⟩
theorem start_inv (ho:qu g l) (hg:Ok g):PassInv g l 0 1 ((List.replicate g.length (-1)).set 0 0):=by
 have hlen:0<(List.replicate g.length (-1:Int)).length:=by rw [List.length_replicate]; exact hg.pos
 have hset:=nd_set hlen 0;have hrep : ∀ x,x<g.length->nd (List.replicate g.length (-1:Int)) x = -1:=by
  intro x hx; simp [nd,List.getElem?_replicate,hx]
 have z : ∀ x∈l,rk g l x<1->x=0:=by
  intro x hx h
  by_cases e:x=0
  ·exact e
  ·have:=rk_pos ho hx e; omega
 refine ⟨⟨by simp,by rw [hset]; simp,fun x hx hxl => ?_,fun x hx hx0 hd => ?_,fun x hx hd => ?_⟩,fun x hx h => ?_,fun _ x hx h => ?_,fun h=>by omega⟩
 ·rw [hset,if_neg (fun (e:x=0)=>hxl (by rw [e]; exact zero_mem ho))]; exact hrep x hx
 ·rw [hset,if_neg hx0,hrep x (ho.lt x hx)] at hd; omega
 ·rw [hset] at hd ⊢
  by_cases e:x=0
  ·rw [if_pos e] at hd; omega
  ·rw [if_neg e]; exact hrep x (ho.lt x hx)
 ·rw [z x hx h,hset]; simp
 ·have hx0:x≠0:=by intro e; subst e; rw [Yo ho] at h; omega
  rw [hset,if_neg hx0,hrep x (ho.lt x hx)]; omega
end
/-! ### What goes to each node -/
theorem push_row {rows:List (List Nat)} {k i:Nat} (n:Nat) (h:k<rows.length):(push rows k i).getD n []=if n=k then rows.getD n []++[i] else rows.getD n []:=by
 unfold push
 by_cases e:k=n
 ·subst e; rw [getD_set_self' h,if_pos rfl]
 ·rw [getD_set_other e,if_neg (fun h=>e h.symm)]
theorem jaw : ∀ (es:List (Nat × Nat)) (rows:List (List Nat)) (n p:Nat),(∀ e∈es,e.1<rows.length)->(p∈(pushAll rows es).getD n []↔p∈rows.getD n []\/(n,p)∈es)
 | [],rows,n,p,_=>by simp [pushAll]
 | e::es,rows,n,p,h=>by
  have h1:=h e List.mem_cons_self;have:=jaw es (push rows e.1 e.2) n p (fun e' he'=>by rw [push_length]; exact h e' (List.mem_cons_of_mem _ he'));show p∈(pushAll (push rows e.1 e.2) es).getD n []↔_;rw [this,push_row n h1];obtain ⟨a,b⟩:=e
  by_cases hn:n=a
  ·subst hn;rw [if_pos rfl,aG];simp only [aL,List.not_mem_nil,or_false,Prod.mk.injEq,true_and];constructor
   ·rintro ((h | h) | h)
    ·exact .inl h
    ·exact .inr (.inl h)
    ·exact .inr (.inr h)
   ·rintro (h | h | h)
    ·exact .inl (.inl h)
    ·exact .inl (.inr h)
    ·exact .inr h
  ·rw [if_neg hn];simp only [aL,Prod.mk.injEq,hn,false_and,false_or]
theorem jax : ∀ (g:List (List Nat)) (j n p:Nat),(n,p)∈edges g j↔j<=p/\n∈g.getD (p-j) []
 | [],j,n,p=>by simp [edges]
 | l::g,j,n,p=>by
  simp only [edges,aG,bk,Prod.mk.injEq,jax g (j+1) n p];constructor
  ·rintro (⟨a,h1,rfl,rfl⟩ | ⟨h1,h2⟩)
   ·simpa using h1
   ·have e:p-j=(p-(j+1))+1:=by omega
    rw [e];exact ⟨by omega,by simpa using h2⟩
  ·rintro ⟨h1,h2⟩
   by_cases e:p=j
   ·subst e;exact .inl ⟨n,by simpa using h2,rfl,rfl⟩
   ·have e':p-j=(p-(j+1))+1:=by omega
    rw [e'] at h2;exact .inr ⟨by omega,by simpa using h2⟩
theorem mem_froms {g:List (List Nat)} (hg:Ok g) (n p:Nat) (hn:n<g.length):p∈(froms g).getD n []↔p<g.length/\n∈g.getD p []:=by
 have he : ∀ e∈edges g 0,e.1<(List.replicate g.length ([]:List Nat)).length:=by
  rintro ⟨a,b⟩ h;have:=((jax g 0 a b).1 h).2;rw [List.length_replicate];simp only [Nat.sub_zero] at this
  by_cases hb:b<g.length
  ·have e:g.getD b []=g[b]:=by simp [hb]
   rw [e] at this;exact hg.elt _ (ah hb) _ this
  ·have e:g.getD b []=[]:=by simp [aJ (by omega:g.length<=b)]
   rw [e] at this; simp at this
 rw [froms,jaw _ _ _ _ he,jax];have:(List.replicate g.length ([]:List Nat)).getD n []=[]:=by simp [List.getElem?_replicate,hn]
 rw [this];simp only [List.not_mem_nil,false_or,Nat.zero_le,true_and,Nat.sub_zero];constructor
 ·intro h;refine ⟨?_,h⟩;rcases Nat.lt_or_ge p g.length with hp | hp
  ·exact hp
  ·have e:g.getD p []=[]:=by simp [aJ hp]
   rw [e] at h; simp at h
 ·exact fun h=>h.2
theorem chk_ends {g:List (List Nat)} (hg:Ok g) : ∃ F K nearF,chk (rankTo g.length (order g) (order g).length) (froms g) F (order g).tail K ((List.replicate g.length (-1)).set 0 0)=some nearF/\Idom g (order g) nearF:=by
 have ho:=order_ok hg;obtain ⟨K,hK⟩:=enough ho;obtain ⟨nearF,h1,h2⟩:=chk_spec ho (fun n p hn=>mem_froms hg n p hn) (F:=2*(order g).length+1) (by omega) hK (K+1) 0 _ (by omega) (start_inv ho hg);exact ⟨_,_,nearF,h1,h2⟩
end Go.Vw.G
/-
 The document's nearest dominators are those that the turns find.
-/
namespace Go.Vw.G
open Go.Vw
section
variable {g:List (List Nat)}
theorem without_none (hg:Ok g) (b:Nat):Met (without g none) b↔b∈order g:=by
 rw [(order_ok hg).mem];have:=JW hg (m:=List.replicate g.length false) (by simp) (qd _ _) b;show Met (zZ g (List.replicate g.length false)) b↔_;rw [this];constructor
 ·rintro (h | h)
  ·exact absurd h (qd _ _)
  ·exact h
 ·exact .inr
theorem YR (hg:Ok g) {a b:Nat} (ha:a<g.length):Met (without g (some a)) b↔b≠a /\ ∃ k,Way g (order g) a k b:=by
 simp only [without]
 by_cases h0:a=0
 ·rw [if_pos h0];subst h0;constructor
  ·exact fun h=>absurd h (qd _ _)
  ·rintro ⟨_,k,hw⟩;exact absurd hw (Dom.zero (order_ok hg) k)
 ·rw [if_neg h0];have hset:=jcF (m:=List.replicate g.length false) (n:=a) (by simpa using ha);have hm : ∀ b,Met ((List.replicate g.length false).set a true) b↔b=a:=by
   intro b; rw [hset];constructor
   ·rintro (h | h)
    ·exact h
    ·exact absurd h (qd _ _)
   ·exact .inl
  have hmf:=JW hg (m:=(List.replicate g.length false).set a true) (by simp) (fun h=>h0 ((hm 0).1 h).symm) b;have hlen:=JA hg (m:=(List.replicate g.length false).set a true) (by simp) (by rw [getD_set_other h0]; exact rep_getD _ _);unfold Met
  by_cases hb:a=b
  ·subst hb;rw [getD_set_self' (by omega)];simp
  ·rw [getD_set_other hb];show Met (zZ g ((List.replicate g.length false).set a true)) b↔_;rw [hmf,hm];constructor
   ·rintro (h | h)
    ·exact absurd h.symm hb
    ·exact ⟨Ne.symm hb,h.way ((hm a).2 rfl)⟩
   ·rintro ⟨_,k,hw⟩;exact .inr (hw.fromM fun x hx=>(hm x).1 hx)
theorem Kr (hg:Ok g) (a b:Nat):tabAt (table g) a b=true↔a∈order g/\b∈order g/\Dom g (order g) a b:=by
 have ho:=order_ok hg
 by_cases ha:a<g.length
 ·have e1:(table g).getD a []=tableRow g a:=by simp [table,ha]
  simp only [tabAt,e1,tableRow]
  by_cases hr:a∈order g
  ·have h1:(without g none).getD a false=true:=(without_none hg a).2 hr;rw [if_pos h1]
   by_cases hb:b<g.length
   ·have e2:((List.range g.length).map fun b=>(without g none).getD b false && !((without g (some a)).getD b false)).getD b false=((without g none).getD b false && !((without g (some a)).getD b false)):=by
     simp [hb]
    rw [e2,af,Bool.not_eq_true'];have w1:=without_none hg b;have w2:=YR hg (b:=b) ha;unfold Met at w1 w2;rw [w1];constructor
    ·rintro ⟨k1,k2⟩;refine ⟨hr,k1,fun k hw => ?_⟩
     by_cases e:b=a
     ·subst e; exact hw.ne rfl
     ·have:=w2.2 ⟨e,k,hw⟩;rw [k2] at this; cases this
    ·rintro ⟨_,k1,k2⟩;refine ⟨k1, ?_⟩
     cases hx:(without g (some a)).getD b false with
     | false=>rfl
     | true =>
      obtain ⟨_,k,hw⟩:=w2.1 hx;exact absurd hw (k2 k)
   ·constructor
    ·intro h;rw [ag,aJ (by simp; omega)] at h;simp at h
    ·rintro ⟨_,h,_⟩;exact absurd (ho.lt b h) hb
  ·have h1 : ¬ (without g none).getD a false=true:=fun h=>hr ((without_none hg a).1 h)
   rw [if_neg h1,rep_getD];constructor
   ·intro h; cases h
   ·rintro ⟨h,_⟩; exact absurd h hr
 ·constructor
  ·intro h;have e:(table g).getD a []=[]:=by
    rw [ag,aJ (by simp [table]; omega)]; rfl
   rw [tabAt,e] at h;simp at h
  ·rintro ⟨h,_⟩;exact absurd (ho.lt a h) ha
theorem jbS {t:List (List Bool)} {a p:Nat} (h : ∀ c,tabAt t c a=true->tabAt t c p=true) : ∀ n,cntTo t a n<=cntTo t p n
 | 0=>bf _
 | n+1=>by
  have:=jbS h n;simp only [cntTo]
  by_cases h1:tabAt t n a=true
  ·rw [if_pos h1,if_pos (h n h1)]; omega
  ·rw [if_neg h1]; split<;>omega
theorem cntTo_lt {t:List (List Bool)} {a p:Nat} (h : ∀ c,tabAt t c a=true->tabAt t c p=true) {x:Nat} (h1:tabAt t x p=true) (h2 : ¬ tabAt t x a=true) : ∀ n,x<n->cntTo t a n<cntTo t p n
 | 0,hx=>by omega
 | n+1,hx=>by
  have hm:=jbS h n;simp only [cntTo]
  by_cases e:x=n
  ·subst e; rw [if_neg h2,if_pos h1]; omega
  ·have:=cntTo_lt h h1 h2 n (by omega)
   by_cases k1:tabAt t n a=true
   ·rw [if_pos k1,if_pos (h n k1)]; omega
   ·rw [if_neg k1]; split<;>omega
theorem cntTo_pos {t:List (List Bool)} {p:Nat} {x:Nat} (h1:tabAt t x p=true) : ∀ n,x<n->0<cntTo t p n
 | 0,hx=>by omega
 | n+1,hx=>by
  simp only [cntTo]
  by_cases e:x=n
  ·subst e; rw [if_pos h1]; omega
  ·have:=cntTo_pos h1 n (by omega);split<;>omega
theorem jaZ {t:List (List Bool)} {n b:Nat} (h : ∀ a,a≠b -> ¬ tabAt t a b=true) : ∀ a,bestTo t n b a=(-1,0)
 | 0=>rfl
 | a+1=>by
  simp only [bestTo];rw [if_neg (fun hh=>h a hh.1 hh.2.1)];exact jaZ h a
theorem best_idom {t:List (List Bool)} {n b p:Nat} (hpb:p≠b) (hp:tabAt t p b=true) (hc : ∀ a,a≠b->a≠p->tabAt t a b=true->cntTo t a n<cntTo t p n) (h0:0<cntTo t p n) :
  ∀ a,(p<a->bestTo t n b a=((p:Int),cntTo t p n))/\(¬ p<a->(bestTo t n b a).2<cntTo t p n)
 | 0=>⟨fun h=>by omega,fun _=>h0⟩
 | a+1=>by
  obtain ⟨h1,h2⟩:=best_idom hpb hp hc h0 a;simp only [bestTo]
  by_cases e:a=p
  ·subst e;rw [if_pos ⟨hpb,hp,h2 (by omega)⟩];exact ⟨fun _=>rfl,fun h=>by omega⟩
  ·refine ⟨fun h => ?_,fun h => ?_⟩
   ·have:=h1 (by omega);rw [this];rw [if_neg (fun hh=>by have:=hc a hh.1 e hh.2.1; have:=hh.2.2; simp only at this; omega)]
   ·have k:=h2 (by omega);split
    ·rename_i hh; exact hc a hh.1 e hh.2.1
    ·exact k
theorem near_eq (hg:Ok g) {nearF:List Int} (h:Idom g (order g) nearF):rNear g=nearF.set 0 (-1):=by
 have ho:=order_ok hg;refine List.ext_getElem (by simp [rNear,h.len]) fun b h1 h2 => ?_
 have hb:b<g.length:=by simpa [rNear] using h1
 have hbn:b<nearF.length:=by rw [h.len]; exact hb
 have e1:(rNear g)[b]=(bestTo (table g) g.length b g.length).1:=by simp [rNear]
 rw [e1,List.getElem_set];have hnd:nearF[b]=nd nearF b:=by simp [nd,hbn]
 by_cases hb0:0=b
 ·rw [if_pos hb0];subst hb0;rw [jaZ (fun a ha ht=>((Kr hg a 0).1 ht).2.2 0 (.start 0 (Ne.symm ha)))]
 ·rw [if_neg hb0,hnd]
  by_cases hbl:b∈order g
  ·obtain ⟨p,q1,q2,q3,q4,q5⟩:=h.near b hbl (Ne.symm hb0);rw [q1];have hpt:tabAt (table g) p b=true:=(Kr hg p b).2 ⟨q2,hbl,q4⟩;have hpp:tabAt (table g) p p=true:=(Kr hg p p).2 ⟨q2,q2,Dom.self p⟩;have hpn:=ho.lt p q2;have hc : ∀ a,a≠b->a≠p->tabAt (table g) a b=true->cntTo (table g) a g.length<cntTo (table g) p g.length:=by
    intro a hab hap hat;obtain ⟨a1,_,a3⟩:=(Kr hg a b).1 hat;have hdp:=q5 a a3 hab;refine cntTo_lt (x:=p) (fun c hcc => ?_) hpp (fun hx => ?_) _ hpn
    ·obtain ⟨c1,_,c3⟩:=(Kr hg c a).1 hcc;exact (Kr hg c p).2 ⟨c1,q2,c3.trans hdp⟩
    ·exact hap (hdp.anti ho ((Kr hg p a).1 hx).2.2 a1 q2)
   rw [(best_idom q3 hpt hc (cntTo_pos hpp _ hpn) g.length).1 hpn]
  ·rw [jaZ (fun a _ ht=>hbl ((Kr hg a b).1 ht).2.1)];exact (h.out b hb hbl).symm
end
end Go.Vw.G
namespace Go.Vw
open Go.Proofs Go.RowKit
attribute [-simp] List.map_set
namespace G
def ordI (g:List (List Int)):List Nat:=if right g then order (nats g) else []
def err (g:List (List Int)):Int:=if right g then 0 else 1
end G
def Fits (g:List (List Int)):Prop:=g.length<2^63 /\ ∀ l∈g,l.length<2^63
theorem jbA (g:List (List Int)) (h:Fits g) (hr:G.right g=true):bS 118 [vl (vl vnat) (G.nats g)] (.bool true):=by
 have:=Right_v g h.1 h.2;rw [hr,G.right_enc hr] at this;exact this
theorem OrderAll_v (g:List (List Int)) (h:Fits g):bS 100 [vl (vl vint) g] (.tuple [vl vnat (G.ordI g),vint (G.err g)]):=by
 intro S
 cases hr:G.right g with
 | false =>
  simp only [G.ordI,G.err,hr];refine QB (c:=jc Tryz.f100) Tryz.func100 Tryz.ntmps100 fun hwf=>?_
  refine bw ?_
  refine QP ?_;refine QL (Right_v g h.1 h.2) ?_;refine bB hr ?_;refine bR ?_
  exact jf (l:=[]) hwf ((Ghost.tuple [] [vint 1] (Ghost.nils_list _)).toB _) rfl
 | true =>
  simp only [G.ordI,G.err,hr,if_true];rw [G.right_enc hr];have hg:=G.right_ok hr;generalize hgn:G.nats g=gn at hg;have hrn:=jbA g h hr;rw [hgn] at hrn;refine QB (c:=jc Tryz.f100) Tryz.func100 Tryz.ntmps100 fun hwf=>?_
  refine bw ?_
  refine QP ?_;refine QL hrn ?_;refine bQ ?_
  refine QP ?_;refine QL (gOrd_v gn hg) ?_;refine bQ ?_
  exact bN
theorem ordI_len (g:List (List Int)):(G.ordI g).length<=256:=by
 simp only [G.ordI];split
 ·rename_i h;have hg:=G.right_ok h;obtain ⟨t,h1,h2,h3⟩:=G.order_ends hg;have:=hg.max;simp [G.order,h1]; omega
 ·simp
theorem jan : ∀ (es:List (Nat × Nat)) (rows:List (List Nat)) (r:List Nat),r∈G.pushAll rows es->r.length<=G.total rows+es.length
 | [],rows,r,h=>by
  have h:r∈rows:=h;obtain ⟨i,hi,rfl⟩:=a9 h;have:=G.row_le_total rows i;have hi':i<rows.length:=hi;have e:rows.getD i []=rows[i]:=by simp [hi']
  rw [e] at this;simpa using this
 | e::es,rows,r,h=>by
  have:=jan es (G.push rows e.1 e.2) r h
  by_cases hk:e.1<rows.length
  ·have k:=G.total_push (rows:=rows) (k:=e.1) (i:=e.2) hk;simp; omega
  ·have k:G.push rows e.1 e.2=rows:=by simp only [G.push]; exact List.set_eq_of_length_le (by omega)
   rw [k] at this;simp; omega
namespace G
def nearI (g:List (List Int)):List Int:=if right g then rNear (nats g) else []
theorem nearI_len (g:List (List Int)):(nearI g).length<=256:=by
 simp only [nearI];split
 ·rename_i h;have:=(right_ok h).max;simp [rNear]; exact this
 ·simp
end G
theorem NearestAll_v (g:List (List Int)) (h:Fits g):bS 102 [vl (vl vint) g] (.tuple [vl vint (G.nearI g),vint (G.err g)]):=by
 cases hr:G.right g with
 | false =>
  simp only [G.nearI,G.err,hr];exact NearestErr_v g h.1 h.2 hr
 | true =>
  simp only [G.nearI,G.err,hr,if_true];rw [G.right_enc hr];have hg:=G.right_ok hr;have ho:=G.order_ok hg;obtain ⟨F,K,nearF,h1,h2⟩:=G.chk_ends hg;rw [G.near_eq hg h2];refine Nearest_v (G.nats g) hg (jbA g h hr) (G.order (G.nats g)) rfl ?_ ho.lt (G.froms (G.nats g)) rfl (G.froms_length _) (fun r hr x hx => ?_) (fun r hr => ?_) ?_ F K nearF h1
  ·obtain ⟨r,e⟩:=ho.head; rw [e]; simp
  ·obtain ⟨i,hi,rfl⟩:=a9 hr;have hig:i<(G.nats g).length:=by rw [G.froms_length] at hi; exact hi
   have:=(G.mem_froms hg i x hig).1 (by simpa [hi] using hx);exact this.1
  ·have k1:=jan _ _ r hr;have k2:=G.edges_len hg.row 0;have k3:=hg.max;rw [G.total_rep] at k1;omega
  ·obtain ⟨t,k1,k2,k3⟩:=G.order_ends hg;simp [G.order,k1]; exact k2
end Go.Vw
/-
 Circles of blocks, by a walk in depth: the walk ends.
-/
namespace Ss
def tickB (b:Block):Bool:=b.code.any fun x=>decide (x.op=258)
mutual
def ringW (tick:List Bool) (g:List (List Nat)):Nat->Nat->List Nat->Option (Bool × List Nat)
 | 0,_,_=>none
 | fuel+1,n,st=>if tick.getD n false then some (false,st) else
   match ringL tick g fuel (g.getD n []) (st.set n 1) with
   | some (true,s)=>some (true,s)
   | some (false,s)=>some (false,s.set n 2)
   | none=>none
 termination_by fuel _ _=>(fuel,0)
def ringL (tick:List Bool) (g:List (List Nat)):Nat->List Nat->List Nat->Option (Bool × List Nat)
 | _,[],st=>some (false,st)
 | fuel,k::ks,st=>if st.getD k 0=1 then some (true,st) else if st.getD k 0=0 then
   match ringW tick g fuel k st with
   | some (true,s)=>some (true,s)
   | some (false,s)=>ringL tick g fuel ks s
   | none=>none
  else ringL tick g fuel ks st
 termination_by fuel ks _=>(fuel,ks.length+1)
end
def ringM (tick:List Bool) (g:List (List Nat)) (fuel:Nat):List Nat->List Nat->Option Bool
 | [],_=>some false
 | n::ns,st=>if st.getD n 0=0 then
   match ringW tick g fuel n st with
   | some (true,_)=>some true
   | some (false,s)=>ringM tick g fuel ns s
   | none=>none
  else ringM tick g fuel ns st
def Jw (st:List Nat):Nat:=(st.filter fun x=>decide (x=0)).length
theorem ZL (v:Nat) : ∀ (st:List Nat) (n:Nat),v≠0->Jw (st.set n v)<=Jw st/\(n<st.length->st.getD n 1=0->Jw (st.set n v)+1=Jw st)
 | [],n,_=>by simp [Jw]
 | x::st,0,hv=>by
  have e:Jw ((x::st).set 0 v)=Jw st:=by simp [Jw,hv]
  rw [e];refine ⟨?_,fun _ h => ?_⟩
  ·simp only [Jw,List.filter_cons];split<;>simp
  ·simp at h; subst h; simp [Jw]
 | x::st,n+1,hv=>by
  obtain ⟨h1,h2⟩:=ZL v st n hv;simp only [Jw,aq,List.filter_cons] at h1 h2 ⊢;split
  ·simp only [aC];refine ⟨by omega,fun h3 h4 => ?_⟩;have:=h2 (by simpa using h3) (by simpa using h4);omega
  ·exact ⟨h1,fun h3 h4=>h2 (by simpa using h3) (by simpa using h4)⟩
theorem zeros_le (st:List Nat):Jw st<=st.length:=List.length_filter_le _ _
section
variable {tick:List Bool} {g:List (List Nat)}
theorem Yp {N fuel:Nat} (hg : ∀ n, ∀ k∈g.getD n [],k<N)
  (ih : ∀ n st,n<N->st.length=N->st.getD n 0=0->Jw st<fuel -> ∃ r s,ringW tick g fuel n st=some (r,s)/\Jw s<=Jw st/\s.length=st.length) :
  ∀ (ks st:List Nat),(∀ k∈ks,k<N)->st.length=N->Jw st<fuel -> ∃ r s,ringL tick g fuel ks st=some (r,s)/\Jw s<=Jw st/\s.length=st.length
 | [],st,_,_,_=>⟨false,st,by rw [ringL],bf _,rfl⟩
 | k::ks,st,hk,hl,hz=>by
  rw [ringL];split
  ·exact ⟨true,st,rfl,bf _,rfl⟩
  ·split
   ·rename_i h0;obtain ⟨r,s,h1,h2,h3⟩:=ih k st (hk k (by simp)) hl h0 hz;rw [h1]
    cases r with
    | true=>exact ⟨true,s,rfl,h2,h3⟩
    | false =>
     obtain ⟨r',s',k1,k2,k3⟩:=Yp hg ih ks s (fun x hx=>hk x (by simp [hx])) (by omega) (by omega);exact ⟨r',s',k1,by omega,by omega⟩
   ·exact Yp hg ih ks st (fun x hx=>hk x (by simp [hx])) hl hz
theorem jbz {N:Nat} (hg : ∀ n, ∀ k∈g.getD n [],k<N) : ∀ (fuel n:Nat) (st:List Nat),n<N->st.length=N->st.getD n 0=0->Jw st<fuel -> ∃ r s,ringW tick g fuel n st=some (r,s)/\Jw s<=Jw st/\s.length=st.length
 | 0,_,_,_,_,_,hz=>by omega
 | fuel+1,n,st,hn,hl,h0,hz=>by
  rw [ringW];split
  ·exact ⟨false,st,rfl,bf _,rfl⟩
  ·have hz1:=(ZL 1 st n (by decide)).2 (by omega) (by
    rw [ag,ac (by omega)] at h0 ⊢;exact h0)
   obtain ⟨r,s,h1,h2,h3⟩:=Yp hg (fun n st=>jbz hg fuel n st) (g.getD n []) (st.set n 1) (hg n) (by simp; omega) (by omega);rw [h1];have h3':s.length=st.length:=by rw [h3]; simp
   cases r with
   | true=>exact ⟨true,s,rfl,by omega,h3'⟩
   | false =>
    have:=(ZL 2 s n (by decide)).1;exact ⟨false,s.set n 2,rfl,by omega,by simp [h3']⟩
theorem ringM_ends {N fuel:Nat} (hg : ∀ n, ∀ k∈g.getD n [],k<N) (hf:N<fuel) : ∀ (ns st:List Nat),(∀ n∈ns,n<N)->st.length=N -> ∃ r,ringM tick g fuel ns st=some r
 | [],_,_,_=>⟨false,rfl⟩
 | n::ns,st,hn,hl=>by
  simp only [ringM];split
  ·rename_i h0;obtain ⟨r,s,h1,h2,h3⟩:=jbz (tick:=tick) hg fuel n st (hn n (by simp)) hl h0 (by have:=zeros_le st; omega);rw [h1]
   cases r with
   | true=>exact ⟨true,rfl⟩
   | false=>exact ringM_ends hg hf ns s (fun x hx=>hn x (by simp [hx])) (by omega)
  ·exact ringM_ends hg hf ns st (fun x hx=>hn x (by simp [hx])) hl
theorem WC {fuel:Nat} (ih : ∀ n st r s,ringW tick g fuel n st=some (r,s)->s.length=st.length) : ∀ (ks st:List Nat) (r:Bool) (s:List Nat),ringL tick g fuel ks st=some (r,s)->s.length=st.length
 | [],st,r,s,h=>by rw [ringL] at h; cases h; rfl
 | k::ks,st,r,s,h=>by
  rw [ringL] at h;split at h
  ·cases h; rfl
  ·split at h
   ·cases hw:ringW tick g fuel k st with
    | none=>rw [hw] at h; cases h
    | some p =>
     obtain ⟨b,s1⟩:=p;rw [hw] at h;have e1:=ih k st b s1 hw
     cases b with
     | true=>cases h; exact e1
     | false=>exact (WC ih ks s1 r s h).trans e1
   ·exact WC ih ks st r s h
theorem ringW_len : ∀ (fuel n:Nat) (st:List Nat) (r:Bool) (s:List Nat),ringW tick g fuel n st=some (r,s)->s.length=st.length
 | 0,_,_,_,_,h=>by rw [ringW] at h; cases h
 | fuel+1,n,st,r,s,h=>by
  rw [ringW] at h;split at h
  ·cases h; rfl
  ·cases hl:ringL tick g fuel (g.getD n []) (st.set n 1) with
   | none=>rw [hl] at h; cases h
   | some p =>
    obtain ⟨b,s1⟩:=p;rw [hl] at h;have e1:=WC (ringW_len fuel) _ _ _ _ hl
    cases b with
    | true=>cases h; simpa using e1
    | false=>cases h; simpa using e1
end
def rings (bs:List Block) (g:List (List Nat)):Bool:=(ringM (bs.map tickB) g (g.length+1) (List.range g.length) (List.replicate g.length 0)).getD false
end Ss
namespace Go.Vw
open Go.Proofs Go.RowKit
attribute [-simp] List.map_set
theorem EqFI_v (l m:List (Int)) (p:Int->Int->Bool) (fid:FuncId) (caps:List V) (hc:jH Tryz.prog fid=true) (hl:l.length<2^63) (h:l.length=m.length -> ∀ (k:Nat) (h1:k<l.length) (h2:k<m.length),bS fid ([vint l[k],vint m[k]]++caps) (.bool (p l[k] m[k]))) :
  bS 128 [vl (vint) l,vl (vint) m, .func fid caps] (.bool (eqF p l m)):=by
 intro S
 by_cases hlm:l.length=m.length
 ·have hlm':(l.length:Int)=(m.length:Int):=by omega
  have h:=h hlm;refine QB (c:=jc Tryz.f128) Tryz.func128 Tryz.ntmps128 fun hwf=>?_
  refine bt hlm hlm' ?_
  refine QT ?_;refine jd [1,2,15,16,17] rfl (fun c σ S' => ∃ (k:Nat),k<=l.length/\c=l.length-k/\eqF p (l.drop k) (m.drop k)=eqF p l m/\σ=[(1,vl (vint) m),(2, .func fid caps),(15,vl (vint) l),(16,vnat m.length),(17,vnat k)]/\S'=St S [] []) l.length ?_ ?_
  ·exact ⟨0,by omega,rfl,rfl,by simp [Fr.only,hlm],rfl⟩
  ·rintro c σ T ⟨k,hk,rfl,hd,rfl,rfl⟩
   by_cases hkt:k<l.length
   ·have hkm:k<m.length:=by omega
    have hw:=jg hkt hl;have hst:eqF p (l.drop k) (m.drop k)=(p l[k] m[k]&&eqF p (l.drop (k+1)) (m.drop (k+1))):=by rw [am hkt,am hkm,eqF]
    have hh:=h k hkt hkm;obtain ⟨x,hx⟩ : ∃ x,l[k]=x:=⟨_,rfl⟩
    obtain ⟨y,hy⟩ : ∃ y,m[k]=y:=⟨_,rfl⟩
    rw [hx,hy] at hst hh
    refine bD hkt hkm hx hy ?_
    refine QP ?_ (r:=by conv=>lhs;simp[QV,hkt,hkm,hx,hy]);refine qx rfl hc rfl hh ?_;refine QW ?_
    cases hp:p x y with
    | false =>
     rw [hp] at hst
     refine bx hp ?_
     exact ja hwf (by rw [<-hd,hst]; rfl) rfl
    | true =>
     rw [hp] at hst
     refine bx hp ?_
     show js _ _ _ _ _ _ _;exact again ⟨ao hkt (aY k),k+1,hkt,rfl,by rw [<-hd,hst]; rfl,by simp [Fr.only,hw],rfl⟩
   ·have e:l.drop k=[]:=by rw [aH]; omega
    have e':m.drop k=[]:=by rw [aH]; omega
    rw [e,e'] at hd;have hkm : ¬ k<m.length:=by omega
    refine bt hkt hkm ?_
    exact ja hwf (by rw [<-hd]; rfl) rfl
 ·have hlm' : ¬ (l.length:Int)=(m.length:Int):=by omega
  have e:eqF p l m=false:=eqF_len hlm;rw [e];refine QB (c:=jc Tryz.f128) Tryz.func128 Tryz.ntmps128 fun hwf=>?_
  refine bt hlm hlm' ?_
  exact bN
end Go.Vw
