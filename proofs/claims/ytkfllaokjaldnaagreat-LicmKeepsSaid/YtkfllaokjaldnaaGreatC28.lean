import Derived.Test.YtkfllaokjaldnaaGreatC27
/-
  Part of the proof (texts LChk, LFirst, LTurn).
-/
set_option linter.unusedVariables false
set_option linter.unusedSimpArgs false
namespace Ss
theorem ZM {op:Int} (h:pure op=true):op≠258:=fun e=>by rw [e,pure_tick] at h; cases h
theorem WN {l:List Ins} {i q:Nat}:(l.eraseIdx i)[q]? = if q<i then l[q]? else l[q+1]? := List.getElem?_eraseIdx
def psi (n i u K:Nat):Nat:=if u=n∧i<K then K-1 else K
theorem ask_later {ts:List Int} {ds:List Def} {near:List Int} {block pos pos' v t:Int} (h:askOk ts ds near block pos v t=true) (hp:pos≤pos'):askOk ts ds near block pos' v t=true:=by
 simp only [askOk,Bool.and_eq_true] at h ⊢;refine ⟨h.1, ?_⟩;have h2:=h.2;split at h2
 ·rename_i e;rw [if_pos e];simp only [decide_eq_true_eq] at h2 ⊢;omega
 ·rename_i e; rw [if_neg e]; exact h2
theorem move_check {e:Env} {f:Fn} (h:check e f=true) {p n i:Nat} {bp bn:Block} {x:Ins} (hm:Mv f.blocks p n i bp bn x) (hx:pure x.op=true)
  (D2:Go.Vw.G.dominates (Go.Vw.G.nearI (succs f.blocks)) n p=false) (D1:Go.Vw.G.dominates (Go.Vw.G.nearI (succs f.blocks)) p n=true) (D3 : ∀ u:Nat,u<f.blocks.length→Go.Vw.G.dominates (Go.Vw.G.nearI (succs f.blocks)) n u=true→Go.Vw.G.dominates (Go.Vw.G.nearI (succs f.blocks)) p u=true)
  (D4 : ∀ ds,defsOf f=some ds → ∀ a∈x.args,(ds.getD a.toNat default).block≠n∧((ds.getD a.toNat default).block=p∨Go.Vw.G.dominates (Go.Vw.G.nearI (succs f.blocks)) (ds.getD a.toNat default).block p=true)) :
  check e ⟨f.sig,f.types,moveAt f.blocks p n i⟩=true:=by
 have hd:=check_dok h;have hsm:=check_small h;obtain ⟨hh,ds,hds,hsh,hbs⟩:=zq h;have D4:=D4 ds hds;obtain ⟨hdl,hdin⟩:=defs_in hds;obtain ⟨hnd,hmade,hout⟩:=Je hds;have hall:=hm.all;have hsu:=hm.succs;have htk:=hm.ticks (ZM hx);have hcnt:=hm.count;have hat:=hm.at;have hlen:=hm.len;have hnp:((n:Nat):Int)≠(p:Nat):=fun e=>hm.ne (by omega)
 obtain ⟨g,hg⟩ : ∃ g:Fn,g=⟨f.sig,f.types,moveAt f.blocks p n i⟩:=⟨_,rfl⟩
 have hgb:g.blocks=moveAt f.blocks p n i:=by rw [hg]
 have hgs:g.sig=f.sig:=by rw [hg]
 have hgt:g.types=f.types:=by rw [hg]
 rw [←hg];rw [←hgb] at hall hsu htk hcnt hat hlen;clear hg hgb;have hrange : ∀ v∈allL f.blocks,0≤v∧v<f.types.length:=fun v hv=>by
  obtain ⟨b,hb,hv⟩:=List.mem_flatMap.1 hv;obtain ⟨k1,k2⟩:=hdin b hb;rcases List.mem_append.1 hv with hv | hv
  ·exact k1 v hv
  ·obtain ⟨x,hx,hv⟩:=List.mem_flatMap.1 hv;exact k2 x hx v hv
 obtain ⟨ds',hds'⟩:=YI (l:=g.blocks) (i:=0) (ds:=List.replicate g.types.length ⟨false,0,0⟩) (by rw [List.length_replicate,hgt]; exact fun v hv=>hrange v (hall.subset hv)) (hall.nodup_iff.2 hnd) (fun v _=>dAt_rep _ _);have hds2:defsOf g=some ds':=hds';obtain ⟨hdl',_⟩:=defs_in hds2;obtain ⟨_,hmade',hout'⟩:=Je hds2;have hpar : ∀ m:Nat,(g.blocks.getD m default).params=(f.blocks.getD m default).params:=fun m=>by
  rw [List.getD_eq_getElem?_getD,List.getD_eq_getElem?_getD,hat m]
  by_cases e1:m=p
  ·subst e1; rw [if_pos rfl,hm.hp]; rfl
  ·rw [if_neg e1]
   by_cases e2:m=n
   ·subst e2; rw [if_pos rfl,hm.hn]; rfl
   ·rw [if_neg e2]
 have hfb : ∀ (j:Nat) (c:Block),g.blocks[j]? = some c → ∃ b,f.blocks[j]? = some b∧c.params=b.params∧c.term=b.term∧c.code=(if j=p then bp.code++[x] else if j=n then bn.code.eraseIdx i else b.code)∧(j=p→b=bp)∧(j=n→b=bn):=fun j c hc=>by
  rw [hat j] at hc
  by_cases e1:j=p
  ·subst e1;rw [if_pos rfl] at hc
   cases hc
   exact ⟨bp,hm.hp,rfl,rfl,by rw [if_pos rfl]; rfl,fun _=>rfl,fun e=>absurd e hm.ne⟩
  ·rw [if_neg e1] at hc
   by_cases e2:j=n
   ·subst e2;rw [if_pos rfl] at hc
    cases hc
    exact ⟨bn,hm.hn,rfl,rfl,by rw [if_neg e1,if_pos rfl]; rfl,fun e=>absurd e e1,fun _=>rfl⟩
   ·rw [if_neg e2] at hc;exact ⟨c,hc,rfl,rfl,by rw [if_neg e1,if_neg e2],fun e=>absurd e e1,fun e=>absurd e e2⟩
 have hbf : ∀ (j:Nat) (b:Block),f.blocks[j]? = some b → ∃ c,g.blocks[j]? = some c∧c.params=b.params∧c.code=(if j=p then bp.code++[x] else if j=n then bn.code.eraseIdx i else b.code)∧(j=p→b=bp)∧(j=n→b=bn):=fun j b hb=>by
  have hjl:j<g.blocks.length:=by rw [hlen]; exact (List.getElem?_eq_some_iff.1 hb).1
  obtain ⟨b',hb',q1,q2,q3,q4⟩:=hfb j _ (List.getElem?_eq_getElem hjl);rw [hb] at hb'
  cases hb'
  exact ⟨_,List.getElem?_eq_getElem hjl,q1,q3,q4⟩
 have hhead:checkHead e g=true:=by
  simp only [checkHead,Bool.and_eq_true,decide_eq_true_eq,List.all_eq_true] at hh ⊢;obtain ⟨⟨⟨⟨⟨g1,g2⟩,g3⟩,g4⟩,g5⟩,g6⟩:=hh;refine ⟨⟨⟨⟨⟨g1, ?_⟩,by rw [hlen]; exact g3⟩,by rw [hgt]; exact g4⟩,by rw [hgs]; exact g5⟩,fun c hc => ?_⟩
  ·obtain ⟨k1,k2,k3⟩:=(small_iff f).1 hsm;refine (small_iff g).2 ⟨?_,fun c hc => ?_,by rw [hcnt]; exact k3⟩
   ·simp only [Fn.heads,hlen,hgs,hgt] at k1 ⊢; exact k1
   ·obtain ⟨j,hj⟩:=List.mem_iff_getElem?.1 hc;obtain ⟨b,hb,q1,q2,q3,_⟩:=hfb j c hj;have hsb:=k2 b (List.mem_of_getElem? hb);have hsp:=k2 bp (List.mem_of_getElem? hm.hp);have hsn:=k2 bn (List.mem_of_getElem? hm.hn);simp only [Block.small,Bool.and_eq_true,List.all_eq_true] at hsb hsp hsn ⊢;rw [q1,q2];refine ⟨⟨hsb.1.1,fun y hy => ?_⟩,hsb.2⟩;rw [q3] at hy;split at hy
    ·rcases List.mem_append.1 hy with hy | hy
     ·exact hsp.1.2 y hy
     ·rw [List.mem_singleton] at hy; subst hy;exact hsn.1.2 _ (List.mem_of_getElem? hm.hi)
    ·split at hy
     ·exact hsn.1.2 y (List.mem_of_mem_eraseIdx hy)
     ·exact hsb.1.2 y hy
  ·obtain ⟨j,hj⟩:=List.mem_iff_getElem?.1 hc;obtain ⟨b,hb,q1,_⟩:=hfb j c hj;rw [q1];exact g6 b (List.mem_of_getElem? hb)
 have hshape:shapeOk g=true:=by
  simp only [shapeOk,Bool.and_eq_true] at hsh ⊢;have hr:rings g.blocks (Go.Vw.G.nats (succs f.blocks))=rings f.blocks (Go.Vw.G.nats (succs f.blocks)):=by simp only [rings,htk]
  rw [hsu,hlen,hgs,hpar 0,hgt,hr];refine ⟨hsh.1, ?_⟩;have h5:=hsh.2;have h0:0<f.blocks.length:=List.length_pos_iff.2 hd.ne;obtain ⟨b0,hb0⟩ : ∃ b0,f.blocks[0]? = some b0:=⟨_,List.getElem?_eq_getElem h0⟩
  obtain ⟨c0,hc0,_,q3,q4,q5⟩:=hbf 0 b0 hb0;have e1:f.blocks.getD 0 default=b0:=by rw [List.getD_eq_getElem?_getD,hb0]; rfl
  have e2:g.blocks.getD 0 default=c0:=by rw [List.getD_eq_getElem?_getD,hc0]; rfl
  rw [e1] at h5;rw [e2,q3]
  by_cases ep:0=p
  ·rw [if_pos ep, ←q4 ep]
   cases hb:b0.code with
   | nil=>rw [hb] at h5; cases h5
   | cons y r=>rw [hb] at h5; simpa using h5
  ·rw [if_neg ep]
   by_cases en:0=n
   ·rw [if_pos en, ←q5 en];have hi':=hm.hi;rw [←q5 en] at hi'
    cases hb:b0.code with
    | nil=>rw [hb] at h5; cases h5
    | cons y r =>
     rw [hb] at h5 hi';simp only [decide_eq_true_eq] at h5
     cases i with
     | zero =>
      simp only [List.getElem?_cons_zero,Option.some.injEq] at hi';subst hi';exact absurd h5 (ZM hx)
     | succ i=>simpa using h5
   ·rw [if_neg en]; exact h5
 have fact : ∀ v:Int,0≤v→(ds.getD v.toNat default).made=true→(∃ B P P':Int,ds.getD v.toNat default=⟨true,B,P⟩∧ds'.getD v.toNat default=⟨true,B,P'⟩∧(B=n→(P<i→P'=P)∧(i<P→P'=P-1)∧P≠i)∧(B≠n→P'=P)∧(B=p→P<bp.code.length))∨(ds.getD v.toNat default=⟨true,n,i⟩∧ds'.getD v.toNat default=⟨true,p,bp.code.length⟩):=by
  intro v q1 q4;have hv:=hmade v q1 q4;obtain ⟨b2,hb2,hv2⟩:=List.mem_flatMap.1 hv;obtain ⟨j,hj⟩:=List.mem_iff_getElem?.1 hb2;obtain ⟨c,hc,r1,r2,r3,r4⟩:=hbf j b2 hj;rcases List.mem_append.1 hv2 with hp | ho
  ·have a1:=qh hds j b2 hj v hp;have a2:=qh hds' j c hc v (by rw [r1]; exact hp);rw [Nat.zero_add] at a1 a2;exact .inl ⟨_,_,_,a1,a2,fun _=>⟨fun _=>rfl,fun h=>by omega,by omega⟩,fun _=>rfl,fun _=>by omega⟩
  ·obtain ⟨y,hy,hvy⟩:=List.mem_flatMap.1 ho;obtain ⟨k,hk⟩:=List.mem_iff_getElem?.1 hy;have a1:=hout j b2 hj k y hk v hvy;have hkl:=(List.getElem?_eq_some_iff.1 hk).1
   by_cases e1:j=p
   ·subst e1;rw [if_pos rfl] at r2;rw [r3 rfl] at hk hkl;have a2:=hout' j c hc k y (by rw [r2,List.getElem?_append_left hkl]; exact hk) v hvy;exact .inl ⟨_,_,_,a1,a2,fun e=>absurd e (Ne.symm hnp),fun _=>rfl,fun _=>by omega⟩
   ·rw [if_neg e1] at r2
    by_cases e2:j=n
    ·subst e2;rw [if_pos rfl] at r2;rw [r4 rfl] at hk
     by_cases e3:k=i
     ·subst e3;rw [hm.hi] at hk
      cases hk
      obtain ⟨cp,hcp,_,s2,_,_⟩:=hbf p bp hm.hp;rw [if_pos rfl] at s2;have a2:=hout' p cp hcp bp.code.length x (by rw [s2,List.getElem?_append_right (Nat.le_refl _)]; simp) v hvy;exact .inr ⟨a1,a2⟩
     ·by_cases e4:k<i
      ·have a2:=hout' j c hc k y (by rw [r2,WN,if_pos e4]; exact hk) v hvy;exact .inl ⟨_,_,_,a1,a2,fun _=>⟨fun _=>rfl,fun h=>by omega,by omega⟩,fun e=>absurd rfl e,fun e=>absurd e hnp⟩
      ·have a2:=hout' j c hc (k-1) y (by rw [r2,WN,if_neg (by omega),Nat.sub_add_cancel (by omega)]; exact hk) v hvy;exact .inl ⟨_,_,_,a1,a2,fun _=>⟨fun h=>by omega,fun h=>by omega,by omega⟩,fun e=>absurd rfl e,fun e=>absurd e hnp⟩
    ·rw [if_neg e2] at r2;have a2:=hout' j c hc k y (by rw [r2]; exact hk) v hvy;exact .inl ⟨_,_,_,a1,a2,fun e=>absurd (by omega) e2,fun _=>rfl,fun e=>absurd (by omega) e1⟩
 have key : ∀ (u K:Nat) (v t:Int),u<f.blocks.length → ¬ (u=n∧K=i)→askOk f.types ds (Go.Vw.G.nearI (succs f.blocks)) u K v t=true→askOk g.types ds' (Go.Vw.G.nearI (succs f.blocks)) u (psi n i u K:Nat) v t=true:=by
  intro u K v t hul hne ha;simp only [askOk,Bool.and_eq_true,decide_eq_true_eq] at ha ⊢;obtain ⟨⟨⟨⟨q1,q2⟩,q3⟩,q4⟩,q5⟩:=ha;have rng:(0≤v∧v<ds'.length)∧g.types.getD v.toNat 0=t:=⟨⟨q1,by rw [hdl',hgt, ←hdl]; exact q2⟩,by rw [hgt]; exact q3⟩
  rcases fact v q1 q4 with ⟨B,P,P',f1,f2,f3,f4,f5⟩ | ⟨f1,f2⟩
  ·rw [f1] at q5;rw [f2];refine ⟨⟨rng,rfl⟩, ?_⟩;simp only at q5 ⊢
   by_cases eB:B=u
   ·rw [if_pos eB,decide_eq_true_eq] at q5 ⊢;unfold psi
    by_cases en:u=n
    ·obtain ⟨g1,g2,g3⟩:=f3 (by omega);split
     ·rcases Int.lt_or_gt_of_ne g3 with h | h
      ·rw [g1 h]; omega
      ·rw [g2 h]; omega
     ·rw [g1 (by omega)]; exact q5
    ·rw [if_neg (fun h=>en h.1),f4 (by omega)]; exact q5
   ·rw [if_neg eB] at q5 ⊢; exact q5
  ·rw [f1] at q5;rw [f2];refine ⟨⟨rng,rfl⟩, ?_⟩;simp only at q5 ⊢
   by_cases ep:(p:Int)=u
   ·have:p=u:=by omega
    subst this;rw [if_neg hnp,D2] at q5
    cases q5
   ·rw [if_neg ep]
    by_cases en:(n:Int)=u
    ·have:n=u:=by omega
     subst this;exact D1
    ·rw [if_neg en] at q5;exact D3 u hul q5
 have keyA : ∀ (u K:Nat) (l t:List Int),u<f.blocks.length → ¬ (u=n∧K=i)→asks f.types ds (Go.Vw.G.nearI (succs f.blocks)) u K l t=true→asks g.types ds' (Go.Vw.G.nearI (succs f.blocks)) u (psi n i u K:Nat) l t=true :=
  fun u K l t hul hne ha=>Zj (fun x hx y hxy=>key u K x y hul hne hxy) ha
 have keyX : ∀ v t:Int,v∈x.args→askOk f.types ds (Go.Vw.G.nearI (succs f.blocks)) n i v t=true→askOk g.types ds' (Go.Vw.G.nearI (succs f.blocks)) p (bp.code.length:Nat) v t=true:=by
  intro v t hv ha;simp only [askOk,Bool.and_eq_true,decide_eq_true_eq] at ha ⊢;obtain ⟨⟨⟨⟨q1,q2⟩,q3⟩,q4⟩,q5⟩:=ha;obtain ⟨d1,d2⟩:=D4 v hv;rcases fact v q1 q4 with ⟨B,P,P',f1,f2,f3,f4,f5⟩ | ⟨f1,f2⟩
  ·rw [f1] at d1 d2;rw [f2];refine ⟨⟨⟨⟨q1,by rw [hdl',hgt, ←hdl]; exact q2⟩,by rw [hgt]; exact q3⟩,rfl⟩, ?_⟩;simp only at d1 d2 ⊢
   by_cases eB:B=p
   ·rw [if_pos eB,decide_eq_true_eq,f4 d1]; exact f5 eB
   ·rw [if_neg eB];rcases d2 with h | h
    ·exact absurd h eB
    ·exact h
  ·rw [f1] at d1;exact absurd rfl d1
 have hblocks:checkBlocks e g ds' (Go.Vw.G.nearI (succs g.blocks)) 0 g.blocks=true:=by
  rw [hsu];refine KZ fun j c hc => ?_
  rw [Nat.zero_add];obtain ⟨b,hb,w1,w2,w3,w4,w5⟩:=hfb j c hc;have hjl:=(List.getElem?_eq_some_iff.1 hb).1;have hbm:=List.mem_of_getElem? hb;obtain ⟨c1,c2⟩:=qO hbs hb;rw [Nat.zero_add] at c1 c2;have old : ∀ (k q:Nat) (y:Ins),b.code[k]? = some y → ¬ (j=n∧k=i)→psi n i j k=q→insOk e g ds' (Go.Vw.G.nearI (succs f.blocks)) j q y=true:=by
   intro k q y hk hne hq;have:=zH c1 hk;rw [Nat.zero_add] at this;simp only [insOk,Bool.and_eq_true] at this ⊢;rw [hgt];refine ⟨this.1, ?_⟩;have h9:=keyA j k _ _ hjl hne this.2;rw [hgt,hq] at h9;exact h9
  constructor
  ·refine YR fun q y hy => ?_
   rw [Nat.zero_add];rw [w3] at hy
   by_cases e1:j=p
   ·rw [if_pos e1, ←w4 e1] at hy
    by_cases hq:q<b.code.length
    ·rw [List.getElem?_append_left hq] at hy;refine old q q y hy (fun h=>hm.ne (e1▸h.1)) ?_;unfold psi; rw [if_neg (fun h=>hm.ne (e1▸h.1))]
    ·rw [List.getElem?_append_right (by omega)] at hy;have hql:q=b.code.length:=by
      have:=(List.getElem?_eq_some_iff.1 hy).1;simp at this; omega
     subst hql;simp only [Nat.sub_self,List.getElem?_cons_zero,Option.some.injEq] at hy;subst hy;obtain ⟨d1,d2⟩:=qO hbs hm.hn;have:=zH d1 hm.hi;rw [Nat.zero_add,Nat.zero_add] at this;simp only [insOk,Bool.and_eq_true] at this ⊢;rw [hgt];refine ⟨this.1, ?_⟩;rw [w4 e1,e1];have h9:asks g.types ds' (Go.Vw.G.nearI (succs f.blocks)) p (bp.code.length:Nat) x.args _=true:=Zj (fun v hv t ht=>keyX v t hv ht) this.2;rw [hgt] at h9;exact h9
   ·rw [if_neg e1] at hy
    by_cases e2:j=n
    ·rw [if_pos e2, ←w5 e2,WN] at hy
     by_cases hq:q<i
     ·rw [if_pos hq] at hy;refine old q q y hy (fun h=>by omega) ?_;unfold psi; rw [if_neg (fun h=>by omega)]
     ·rw [if_neg hq] at hy;refine old (q+1) q y hy (fun h=>by omega) ?_;unfold psi; rw [if_pos ⟨e2,by omega⟩]; rfl
    ·rw [if_neg e2] at hy;refine old q q y hy (fun h=>e2 h.1) ?_;unfold psi; rw [if_neg (fun h=>e2 h.1)]
  ·have hposle:(psi n i j b.code.length:Nat)≤c.code.length:=by
    rw [w3];unfold psi
    by_cases e1:j=p
    ·rw [if_pos e1,if_neg (fun h=>hm.ne (e1▸h.1)),w4 e1]; simp
    ·rw [if_neg e1]
     by_cases e2:j=n
     ·have hil:=(List.getElem?_eq_some_iff.1 hm.hi).1;rw [if_pos e2,if_pos ⟨e2,by rw [w5 e2]; exact hil⟩,w5 e2,List.length_eraseIdx_of_lt hil]; exact Nat.le_refl _
     ·rw [if_neg e2,if_neg (fun h=>e2 h.1)]; exact Nat.le_refl _
   have hne : ¬ (j=n∧b.code.length=i):=fun hc=>by
    have:=(List.getElem?_eq_some_iff.1 hm.hi).1;rw [←w5 hc.1] at this; omega
   have keyT : ∀ (l t:List Int),asks f.types ds (Go.Vw.G.nearI (succs f.blocks)) j b.code.length l t=true→asks g.types ds' (Go.Vw.G.nearI (succs f.blocks)) j c.code.length l t=true:=fun l t ha =>
    Zj (fun v hv y hy=>ask_later (key j _ v y hjl hne hy) (by omega)) ha
   unfold termOk at c2 ⊢;rw [w2,hgs];split at c2
   ·rename_i le mo rs heq;simp only [termTail,Bool.and_eq_true] at c2 ⊢;obtain ⟨⟨⟨⟨t1,t2⟩,t3⟩,t4⟩,t5⟩:=c2;refine ⟨⟨⟨⟨?_,t2⟩,t3⟩,keyT _ _ t4⟩,List.all_eq_true.2 fun y hy => ?_⟩
    ·split at t1
     ·rename_i hbr;rw [if_pos hbr];exact keyT _ _ t1
     ·rename_i hbr; rw [if_neg hbr]; exact t1
    ·have:=List.all_eq_true.1 t5 y hy;simp only [edgeOk,Bool.and_eq_true] at this ⊢;rw [hpar,hgt];refine ⟨this.1, ?_⟩;have h9:=keyT _ _ this.2;rw [hgt] at h9;exact h9
   ·cases c2
 simp only [check,hhead,hds2,hshape,hblocks,Bool.and_self]
end Ss

namespace Ss
open Go.Vw.G
def canMove (hm:Int→Int) (nodes:List Nat) (x:Ins):Bool:=pure x.op&&x.args.all fun a => !decide (hm a∈nodes.map Int.ofNat)
def firstB (bs:List Block) (hm:Int→Int) (nodes:List Nat):List Nat→Option (Nat × Nat)
 | []=>none
 | n::r=>match (bs.getD n default).code.findIdx? (canMove hm nodes) with
  | some i=>some (n,i)
  | none=>firstB bs hm nodes r
def first (bs:List Block) (hm:Int→Int):List (Nat × List Nat)→Option (Nat × Nat × Nat)
 | []=>none
 | l::r=>match porch bs l.1 (l.2.map Int.ofNat) with
  | none=>first bs hm r
  | some p=>match firstB bs hm l.2 l.2 with
   | some m=>some (p.toNat,m.1,m.2)
   | none=>first bs hm r
theorem jak {bs:List Block} {hm:Int→Int} {nodes:List Nat} : ∀ {l:List Nat} {n i:Nat},firstB bs hm nodes l=some (n,i)→n∈l ∧ ∃ x,(bs.getD n default).code[i]? = some x∧canMove hm nodes x=true
 | [],n,i,h=>by simp [firstB] at h
 | m::l,n,i,h=>by
  rw [firstB] at h;split at h
  ·rename_i j hj
   cases h
   obtain ⟨h1,h2,_⟩:=List.findIdx?_eq_some_iff_getElem.1 hj;exact ⟨by simp,_,List.getElem?_eq_getElem h1,h2⟩
  ·obtain ⟨h1,h2⟩:=jak h;exact ⟨by simp [h1],h2⟩
theorem Yw {bs:List Block} {hm:Int→Int} : ∀ {lp:List (Nat × List Nat)} {p n i:Nat},first bs hm lp=some (p,n,i) → ∃ l∈lp, ∃ q,porch bs l.1 (l.2.map Int.ofNat)=some q∧p=q.toNat∧n∈l.2 ∧ ∃ x,(bs.getD n default).code[i]? = some x∧canMove hm l.2 x=true
 | [],p,n,i,h=>by simp [first] at h
 | l::r,p,n,i,h=>by
  rw [first] at h;split at h
  ·obtain ⟨l',h1,h2⟩:=Yw h;exact ⟨l',by simp [h1],h2⟩
  ·rename_i q hq;split at h
   ·rename_i m hm'
    cases h
    obtain ⟨h1,h2⟩:=jak (n:=m.1) (i:=m.2) hm';exact ⟨l,by simp,q,hq,rfl,h1,h2⟩
   ·obtain ⟨l',h1,h2⟩:=Yw h;exact ⟨l',by simp [h1],h2⟩
theorem WM {q r:Ins→Bool} : ∀ {l:List Ins},(∀ x∈l,q x=r x)→l.findIdx? q=l.findIdx? r
 | [],_=>rfl
 | a::l,h=>by rw [List.findIdx?_cons,List.findIdx?_cons,h a (by simp),WM fun x hx=>h x (by simp [hx])]
theorem jci {hm hm':Int→Int} {nodes:List Nat} {x:Ins} (h : ∀ a∈x.args,hm a=hm' a):canMove hm nodes x=canMove hm' nodes x:=by
 unfold canMove
 congr 1
 rw [Bool.eq_iff_iff,List.all_eq_true,List.all_eq_true];exact ⟨fun k a ha=>by rw [←h a ha]; exact k a ha,fun k a ha=>by rw [h a ha]; exact k a ha⟩
theorem YM {bs:List Block} {hm hm':Int→Int} {nodes:List Nat} (h : ∀ n:Nat, ∀ x∈(bs.getD n default).code, ∀ a∈x.args,hm a=hm' a) : ∀ l:List Nat,firstB bs hm nodes l=firstB bs hm' nodes l
 | []=>rfl
 | n::l=>by rw [firstB,firstB,WM fun x hx=>jci (h n x hx),YM h l]
theorem jaj {bs:List Block} {hm hm':Int→Int} (h : ∀ n:Nat, ∀ x∈(bs.getD n default).code, ∀ a∈x.args,hm a=hm' a) : ∀ lp:List (Nat × List Nat),first bs hm lp=first bs hm' lp
 | []=>rfl
 | l::r=>by rw [first,first,YM h l.2,jaj h r]
def qD (f:Fn) (v:Int):Int:=(((defsOf f).getD []).getD v.toNat default).block
noncomputable def lps (bs:List Block):List (Nat × List Nat):=loopsTo (rNear (nats (succs bs))) (froms (nats (succs bs))) (nats (succs bs)).length (nats (succs bs)).length
def weigh (w:Nat→Nat):Nat→List Block→Nat
 | _,[]=>0
 | j,b::bs=>b.code.length*w j+weigh w (j+1) bs
theorem Zo {w:Nat→Nat} : ∀ {l:List Block} {j k:Nat} {b c:Block},l[k]? = some b→weigh w j (l.set k c)+b.code.length*w (j+k)=weigh w j l+c.code.length*w (j+k)
 | [],j,k,b,c,h=>by simp at h
 | a::l,j,0,b,c,h=>by
  simp only [List.getElem?_cons_zero,Option.some.injEq] at h;subst h;simp only [List.set_cons_zero,weigh,Nat.add_zero]; omega
 | a::l,j,k+1,b,c,h=>by
  have:=Zo (w:=w) (l:=l) (j:=j+1) (k:=k) (b:=b) (c:=c) (by simpa using h);rw [List.set_cons_succ,weigh,weigh,show j+(k+1)=j+1+k by omega];omega
theorem Mv.weigh {bs:List Block} {p n i:Nat} {bp bn:Block} {x:Ins} (h:Mv bs p n i bp bn x) {w:Nat→Nat} (hw:w p<w n):Ss.weigh w 0 (moveAt bs p n i)<Ss.weigh w 0 bs:=by
 have hp2:(bs.set n (cutAt bn i))[p]? = some bp:=by rw [List.getElem?_set_ne (Ne.symm h.ne)]; exact h.hp
 have e1:=Zo (w:=w) (j:=0) (c:=cutAt bn i) h.hn;have e2:=Zo (w:=w) (j:=0) (c:=endWith bp x) hp2;have hil:=(List.getElem?_eq_some_iff.1 h.hi).1;rw [h.eq];have l1:(cutAt bn i).code.length=bn.code.length-1:=by simp only [cutAt,List.length_eraseIdx_of_lt hil]
 have l2:(endWith bp x).code.length=bp.code.length+1:=by simp [endWith]
 rw [l1] at e1;rw [l2] at e2;simp only [Nat.zero_add] at e1 e2;obtain ⟨m,hm⟩ : ∃ m,bn.code.length=m+1:=⟨bn.code.length-1,by omega⟩
 rw [hm,Nat.add_sub_cancel,Nat.succ_mul] at e1;rw [Nat.succ_mul] at e2;omega
theorem Zi {e:Env} {f:Fn} (h:check e f=true) {p n i:Nat} (hf:first f.blocks (qD f) (lps f.blocks)=some (p,n,i)) :
  ∃ bp bn x,Mv f.blocks p n i bp bn x∧pure x.op=true∧check e ⟨f.sig,f.types,moveAt f.blocks p n i⟩=true∧rk (nats (succs f.blocks)) (order (nats (succs f.blocks))) p<rk (nats (succs f.blocks)) (order (nats (succs f.blocks))) n:=by
 obtain ⟨l,hl,q,hq,rfl,hn,x,hx,hcan⟩:=Yw hf;have hgr:=graphic h;have hok:=hgr.ok;have ho:=order_ok hok;obtain ⟨_,ds,hds,hsh,hbs⟩:=zq h;have hglen:(nats (succs f.blocks)).length=f.blocks.length:=nats_succs_len _;have hreach : ∀ u,u<f.blocks.length→u∈order (nats (succs f.blocks)):=by
  intro u hu;refine Classical.byContradiction fun hno => ?_
  have h1:=hgr.len;have h2:=ho.nd;have h3:(u::order (nats (succs f.blocks))).Nodup:=List.nodup_cons.2 ⟨hno,h2⟩;have h4:(u::order (nats (succs f.blocks))).length≤(List.range f.blocks.length).length:=List.Nodup.length_le_of_subset h3 fun y hy=>by
   rcases List.mem_cons.1 hy with rfl | hy
   ·exact List.mem_range.2 hu
   ·exact List.mem_range.2 (hgr.lt y hy)
  rw [List.length_range,List.length_cons,h1] at h4;omega
 have hrow : ∀ (u:Nat) (b:Block),f.blocks[u]? = some b→(nats (succs f.blocks)).getD u []=(rowOf b).map Int.toNat:=fun u b hb=>by
  simp only [nats,succs,List.getD_eq_getElem?_getD,List.getElem?_map,hb,Option.map_some,Option.getD_some]
 have hedge : ∀ (u:Nat) (b:Block),f.blocks[u]? = some b → ∀ t∈b.term.to,0<t.to:=by
  intro u b hb t ht;have hr:=right_to hgr.right b (List.mem_of_getElem? hb) t ht;obtain ⟨_,c2⟩:=qO hbs hb;unfold termOk at c2;split at c2
  ·rename_i le mo rs heq;simp only [termTail,Bool.and_eq_true] at c2;have:=List.all_eq_true.1 c2.2 t ht;simp only [edgeOk,Bool.and_eq_true,Bool.not_eq_true',decide_eq_false_iff_not] at this;have:=this.1;omega
  ·cases c2
 have hz : ∀ u,0∉(nats (succs f.blocks)).getD u []:=by
  intro u hm
  by_cases hu:u<f.blocks.length
  ·obtain ⟨b,hb⟩ : ∃ b,f.blocks[u]? = some b:=⟨_,List.getElem?_eq_getElem hu⟩
   rw [hrow u b hb] at hm;obtain ⟨z,hz,hz0⟩:=List.mem_map.1 hm;obtain ⟨t,ht,rfl⟩:=List.mem_map.1 hz;have:=hedge u b hb t ht;omega
  ·rw [List.getD_eq_getElem?_getD,List.getElem?_eq_none (by omega)] at hm;simp at hm
 have h0:0∉l.2:=loop_not0 hok hz hl;obtain ⟨a1,a2,a3,a4,a5⟩:=heads hok _ (Nat.le_refl _) l hl;have hpred : ∀ m∈l.2,m≠l.1 → ∀ u,m∈(nats (succs f.blocks)).getD u []→u∈l.2:=fun m hm hne u hu=>by
  refine a5 m hm hne u ((mem_froms hok m u (a3 m hm)).2 ⟨?_,hu⟩)
  by_cases hul:u<(nats (succs f.blocks)).length
  ·exact hul
  ·rw [List.getD_eq_getElem?_getD,List.getElem?_eq_none (by omega)] at hu; simp at hu
 obtain ⟨k,bp,rfl,hbp,hkind,hkn,hkh,huniq⟩:=porch_spec hq;have hin : ∀ u:Nat,(u:Int)∈l.2.map Int.ofNat↔u∈l.2:=fun u=>by
  rw [List.mem_map];constructor
  ·rintro ⟨w,hw,e⟩;have:w=u:=by have e2:(w:Int)=(u:Int):=e; omega
   exact this▸hw
  ·exact fun hu=>⟨u,hu,rfl⟩
 rw [hin] at hkn;have hrowM : ∀ (u:Nat) (b:Block),f.blocks[u]? = some b→(l.1∈(nats (succs f.blocks)).getD u []↔((l.1:Nat):Int)∈rowOf b):=fun u b hb=>by
  rw [hrow u b hb,List.mem_map];constructor
  ·rintro ⟨z,hz,e⟩;obtain ⟨t,ht,rfl⟩:=List.mem_map.1 hz;have:=hedge u b hb t ht;have e2:t.to=((l.1:Nat):Int):=by omega
   rw [←e2]; exact hz
  ·exact fun hz=>⟨_,hz,by simp⟩
 have hport : ∀ u,u∉l.2→l.1∈(nats (succs f.blocks)).getD u []→u=k:=fun u hu hm=>by
  by_cases hul:u<f.blocks.length
  ·obtain ⟨b,hb⟩ : ∃ b,f.blocks[u]? = some b:=⟨_,List.getElem?_eq_getElem hul⟩
   exact huniq u b hb (by rw [hin]; exact hu) ((hrowM u b hb).1 hm)
  ·rw [List.getD_eq_getElem?_getD,List.getElem?_eq_none (by omega)] at hm; simp at hm
 have hkl:=(List.getElem?_eq_some_iff.1 hbp).1;have hnl:n<f.blocks.length:=by rw [←hglen]; exact a3 n hn
 have hdom:Dom (nats (succs f.blocks)) (order (nats (succs f.blocks))) k n:=porch_dom hpred hport h0 n hn;have hne:k≠n:=fun e=>hkn (e▸hn)
 have hlt:=hdom.rk ho (hreach k hkl) (hreach n hnl) hne;have hN:=rNear_ok hok;have dI : ∀ {u v:Nat},u<f.blocks.length→v<f.blocks.length→(dominates (Go.Vw.G.nearI (succs f.blocks)) u v=true↔Dom (nats (succs f.blocks)) (order (nats (succs f.blocks))) u v):=fun {u v} hu hv=>by
  rw [hgr.near,zP hok hN (by omega) (by omega)];constructor
  ·rintro (h | h)
   ·exact h.2.2
   ·subst h; exact Dom.self _
  ·exact fun h => .inl ⟨hreach u hu,hreach v hv,h⟩
 obtain ⟨bn,hbn⟩ : ∃ b,f.blocks[n]? = some b:=⟨_,List.getElem?_eq_getElem hnl⟩
 have hbnd:f.blocks.getD n default=bn:=by rw [List.getD_eq_getElem?_getD,hbn]; rfl
 rw [hbnd] at hx;have hmv:Mv f.blocks k n i bp bn x:=⟨hbp,hbn,hx,hne⟩
 simp only [canMove,Bool.and_eq_true,List.all_eq_true,Bool.not_eq_true',decide_eq_false_iff_not] at hcan;rw [Int.toNat_natCast];refine ⟨bp,bn,x,hmv,hcan.1,move_check h hmv hcan.1 ?_ ((dI hkl hnl).2 hdom) (fun u hu hd=>(dI hkl hu).2 (hdom.trans ((dI hnl hu).1 hd))) ?_,hlt⟩
 ·cases hc:dominates (Go.Vw.G.nearI (succs f.blocks)) n k with
  | false=>rfl
  | true=>exact absurd (hdom.anti ho ((dI hnl hkl).1 hc) (hreach k hkl) (hreach n hnl)) hne
 ·intro ds2 hds2 a ha;rw [hds] at hds2
  cases hds2
  have hho:qD f a=(ds.getD a.toNat default).block:=by simp only [qD,hds,Option.getD_some]
  have hnot:=hcan.2 a ha;rw [hho] at hnot;obtain ⟨c1,_⟩:=qO hbs hbn;have hins:=zH c1 hx;rw [Nat.zero_add,Nat.zero_add] at hins;simp only [insOk,Bool.and_eq_true] at hins;obtain ⟨t,ht⟩:=jcb hins.2 a ha;simp only [askOk,Bool.and_eq_true,decide_eq_true_eq] at ht;obtain ⟨⟨⟨⟨q1,q2⟩,q3⟩,q4⟩,q5⟩:=ht;obtain ⟨_,hmade,hout⟩:=Je hds;obtain ⟨b2,hb2,hv2⟩:=List.mem_flatMap.1 (hmade a q1 q4);obtain ⟨j,hj⟩:=List.mem_iff_getElem?.1 hb2;have hjl:=(List.getElem?_eq_some_iff.1 hj).1;have hB:(ds.getD a.toNat default).block=(j:Int):=by
   rcases List.mem_append.1 hv2 with hp | ho2
   ·have:=qh hds j b2 hj a hp;rw [Nat.zero_add] at this;exact congrArg Def.block this
   ·obtain ⟨y,hy,hvy⟩:=List.mem_flatMap.1 ho2;obtain ⟨k2,hk2⟩:=List.mem_iff_getElem?.1 hy;have:=hout j b2 hj k2 y hk2 a hvy;exact congrArg Def.block this
  rw [hB] at hnot q5 ⊢;rw [hin] at hnot;have hjn:j≠n:=fun e=>hnot (e▸hn)
  refine ⟨fun e=>hjn (by omega), ?_⟩;rw [if_neg (fun e=>hjn (by omega))] at q5
  by_cases hjk:j=k
  ·exact .inl (by omega)
  ·refine .inr ((dI hjl hkl).2 ?_);exact out_dom hpred a2 ((hrowM k bp hbp).2 hkh) h0 hnot hn ((ho.mem n).1 (hreach n hnl)) ((dI hjl hnl).1 q5)
end Ss

namespace Ss
open Go.Vw.G
def moved (f:Fn) (p n i:Nat):Fn:=⟨f.sig,f.types,moveAt f.blocks p n i⟩
noncomputable def Kx:Nat→Fn→Fn
 | 0,f=>f
 | k+1,f=>match first f.blocks (qD f) (lps f.blocks) with
  | none=>f
  | some m=>Kx k (moved f m.1 m.2.1 m.2.2)
noncomputable def wt (f:Fn):Nat:=weigh (rk (nats (succs f.blocks)) (order (nats (succs f.blocks)))) 0 f.blocks
noncomputable def licF (f:Fn):Fn:=Kx (wt f+1) f
noncomputable def licOut (e:Env) (f:Fn):Fn × Int:=if check e f then (licF f,0) else (emptyFn,6)
theorem licOut_t {e:Env} {f:Fn} (h:check e f=true):licOut e f=(licF f,0):=by simp [licOut,h]
theorem licOut_f {e:Env} {f:Fn} (h:check e f=false):licOut e f=(emptyFn,6):=by simp [licOut,h]
theorem JH (k:Nat) {f:Fn} (h:first f.blocks (qD f) (lps f.blocks)=none):Kx k f=f:=by
 cases k with
 | zero=>rfl
 | succ k=>rw [Kx,h]
theorem WF (k:Nat) {f:Fn} {p n i:Nat} (h:first f.blocks (qD f) (lps f.blocks)=some (p,n,i)):Kx (k+1) f=Kx k (moved f p n i):=by rw [Kx,h]
theorem jbA {e:Env} {f:Fn} (h:check e f=true) {p n i:Nat} (hf:first f.blocks (qD f) (lps f.blocks)=some (p,n,i)) :
  check e (moved f p n i)=true∧succs (moved f p n i).blocks=succs f.blocks∧wt (moved f p n i)<wt f:=by
 obtain ⟨bp,bn,x,hm,hx,hc,hr⟩:=Zi h hf;have hs:succs (moved f p n i).blocks=succs f.blocks:=hm.succs;refine ⟨hc,hs, ?_⟩;unfold wt;rw [hs];exact hm.weigh hr
theorem ZY {P:Fn→Prop} {e:Env} (hs : ∀ f p n i,check e f=true→P f→first f.blocks (qD f) (lps f.blocks)=some (p,n,i)→P (moved f p n i)) : ∀ k f,check e f=true→P f→check e (Kx k f)=true∧P (Kx k f)
 | 0,f,h,hp=>⟨h,hp⟩
 | k+1,f,h,hp=>by
  cases hf:first f.blocks (qD f) (lps f.blocks) with
  | none=>rw [JH _ hf]; exact ⟨h,hp⟩
  | some m =>
   obtain ⟨p,n,i⟩:=m;rw [WF _ hf];exact ZY hs k _ (jbA h hf).1 (hs f p n i h hp hf)
theorem lic_end {e:Env} : ∀ k f,check e f=true→wt f<k→first (Kx k f).blocks (qD (Kx k f)) (lps (Kx k f).blocks)=none
 | 0,f,h,hk=>by omega
 | k+1,f,h,hk=>by
  cases hf:first f.blocks (qD f) (lps f.blocks) with
  | none=>rw [JH _ hf]; exact hf
  | some m =>
   obtain ⟨p,n,i⟩:=m;rw [WF _ hf];obtain ⟨h1,h2,h3⟩:=jbA h hf;exact lic_end k _ h1 (by omega)
theorem licF_check {e:Env} {f:Fn} (h:check e f=true):check e (licF f)=true:=(ZY (P:=fun _=>True) (fun _ _ _ _ _ _ _=>trivial) _ f h trivial).1
theorem licF_sig {e:Env} {f:Fn} (h:check e f=true):(licF f).sig=f.sig∧(licF f).types=f.types:=(ZY (P:=fun g=>g.sig=f.sig∧g.types=f.types) (fun g p n i _ hp _=>hp) _ f h ⟨rfl,rfl⟩).2
def bare (b:Block):Block:=⟨b.params,[],b.term⟩
theorem licF_keeps {e:Env} {f:Fn} (h:check e f=true):(licF f).blocks.map bare=f.blocks.map bare∧((licF f).blocks.flatMap Block.code).Perm (f.blocks.flatMap Block.code):=by
 refine (ZY (P:=fun g=>g.blocks.map bare=f.blocks.map bare∧(g.blocks.flatMap Block.code).Perm (f.blocks.flatMap Block.code)) (fun g p n i hg hp hf => ?_) _ f h ⟨rfl,List.Perm.refl _⟩).2;obtain ⟨bp,bn,x,hm,hx,hc,hr⟩:=Zi hg hf;exact ⟨(hm.map bare rfl rfl).trans hp.1,hm.codes.trans hp.2⟩
theorem moved_fits {f:Fn} {p n i:Nat} {bp bn:Block} {x:Ins} (hm:Mv f.blocks p n i bp bn x) (hf:f.Fits) (hl:bp.code.length<140737488355328):(moved f p n i).Fits:=by
 obtain ⟨h1,h2,h3,h4⟩:=hf;refine ⟨h1,h2,by rw [moved]; simp only [hm.len]; exact h3,fun c hc => ?_⟩;obtain ⟨j,hj⟩:=List.mem_iff_getElem?.1 hc;have hj':(moveAt f.blocks p n i)[j]? = some c:=hj;rw [hm.at j] at hj';split at hj'
 ·cases hj'
  obtain ⟨k1,⟨k2,k3⟩,k4⟩:=h4 bp (List.mem_of_getElem? hm.hp);obtain ⟨_,⟨_,m3⟩,_⟩:=h4 bn (List.mem_of_getElem? hm.hn);refine ⟨k1,⟨by simp [endWith]; omega,fun y hy => ?_⟩,k4⟩;rcases List.mem_append.1 hy with hy | hy
  ·exact k3 y hy
  ·rw [List.mem_singleton] at hy; subst hy; exact m3 _ (List.mem_of_getElem? hm.hi)
 ·split at hj'
  ·cases hj'
   obtain ⟨k1,⟨k2,k3⟩,k4⟩:=h4 bn (List.mem_of_getElem? hm.hn);refine ⟨k1,⟨Nat.le_trans (List.length_eraseIdx_le _ _) k2,fun y hy=>k3 y (List.mem_of_mem_eraseIdx hy)⟩,k4⟩
  ·exact h4 c (List.mem_of_getElem? hj')
theorem check_code {e:Env} {f:Fn} (h:check e f=true) : ∀ b∈f.blocks,b.code.length≤4096:=fun b hb=>by
 have h1:=((small_iff f).1 (check_small h)).2.2;have h2:=Go.Vw.count_mem hb;omega
theorem step_fits {e:Env} {f:Fn} (h:check e f=true) (hf:f.Fits) {p n i:Nat} (hs:first f.blocks (qD f) (lps f.blocks)=some (p,n,i)):(moved f p n i).Fits:=by
 obtain ⟨bp,bn,x,hm,_⟩:=Zi h hs;have:=check_code h bp (List.mem_of_getElem? hm.hp);exact moved_fits hm hf (by omega)
theorem licF_fits {e:Env} {f:Fn} (h:check e f=true) (hf:f.Fits):(licF f).Fits:=(ZY (P:=Fn.Fits) (fun g p n i hg hp hs=>step_fits hg hp hs) _ f h hf).2
theorem move_home {e:Env} {f:Fn} (h:check e f=true) {p n i:Nat} {bp bn:Block} {x:Ins} (hm:Mv f.blocks p n i bp bn x) (hc:check e (moved f p n i)=true) : ∀ v∈allL f.blocks,qD (moved f p n i) v=if v∈x.outs then (p:Int) else qD f v:=by
 obtain ⟨_,ds,hds,_,_⟩:=zq h;obtain ⟨_,ds',hds',_,_⟩:=zq hc;obtain ⟨hnd,hmade,hout⟩:=Je hds;obtain ⟨_,hmade',hout'⟩:=Je hds';have e1 : ∀ v:Int,qD f v=(dAt ds v).block:=fun v=>by simp only [qD,hds,Option.getD_some]
 have e2 : ∀ v:Int,qD (moved f p n i) v=(dAt ds' v).block:=fun v=>by simp only [qD,hds',Option.getD_some]
 have hat:=hm.at;have hxn : ∀ v∈x.outs,dAt ds v=⟨true,n,i⟩:=fun v hv=>hout n bn hm.hn i x hm.hi v hv
 intro v hv;rw [e1,e2];obtain ⟨b2,hb2,hv2⟩:=List.mem_flatMap.1 hv;obtain ⟨j,hj⟩:=List.mem_iff_getElem?.1 hb2;have blk : ∃ c,(moved f p n i).blocks[j]? = some c∧c.params=b2.params:=by
  have:=hat j
  by_cases e1:j=p
  ·subst e1; rw [if_pos rfl] at this; rw [hm.hp] at hj; cases hj; exact ⟨_,this,rfl⟩
  ·rw [if_neg e1] at this
   by_cases e2:j=n
   ·subst e2; rw [if_pos rfl] at this; rw [hm.hn] at hj; cases hj; exact ⟨_,this,rfl⟩
   ·rw [if_neg e2,hj] at this; exact ⟨_,this,rfl⟩
 rcases List.mem_append.1 hv2 with hp | ho
 ·have a1:=qh hds j b2 hj v hp;obtain ⟨c,hc,hcp⟩:=blk;have a2:=qh hds' j c hc v (by rw [hcp]; exact hp);have hno:v∉x.outs:=fun hxv=>by
   have:=hxn v hxv;rw [this] at a1;have:=congrArg Def.pos a1;simp only at this;omega
  rw [if_neg hno,a1,a2]
 ·obtain ⟨y,hy,hvy⟩:=List.mem_flatMap.1 ho;obtain ⟨k,hk⟩:=List.mem_iff_getElem?.1 hy;have a1:=hout j b2 hj k y hk v hvy;have new : ∀ (j' k':Nat) (c:Block),(moved f p n i).blocks[j']? = some c→c.code[k']? = some y→(dAt ds' v).block=(j':Int):=fun j' k' c hc hk'=>congrArg Def.block (hout' j' c hc k' y hk' v hvy)
  have hkl:=(List.getElem?_eq_some_iff.1 hk).1;have atp:=hat p;rw [if_pos rfl] at atp;have atn:=hat n;rw [if_neg (Ne.symm hm.ne),if_pos rfl] at atn
  by_cases hxv:v∈x.outs
  ·rw [if_pos hxv];have h3:=hxn v hxv;have h4:(⟨true,(j:Int),(k:Int)⟩:Def)=⟨true,n,i⟩:=a1.symm.trans h3;have h5:j=n:=by have:=congrArg Def.block h4; simp only at this; omega
   have h6:k=i:=by have:=congrArg Def.pos h4; simp only at this; omega
   subst h5; subst h6;rw [hm.hn] at hj
   cases hj
   rw [hm.hi] at hk
   cases hk
   exact new p bp.code.length _ atp (by simp [endWith])
  ·rw [if_neg hxv,a1];simp only
   by_cases e1:j=p
   ·subst e1;rw [hm.hp] at hj
    cases hj
    exact new j k _ atp (by simp only [endWith]; rw [List.getElem?_append_left hkl]; exact hk)
   ·by_cases e2:j=n
    ·subst e2;rw [hm.hn] at hj
     cases hj
     by_cases e3:k<i
     ·exact new j k _ atn (by simp only [cutAt]; rw [WN,if_pos e3]; exact hk)
     ·have e4:k≠i:=fun e4=>by
       subst e4;rw [hm.hi] at hk
       cases hk
       exact hxv hvy
      exact new j (k-1) _ atn (by simp only [cutAt]; rw [WN,if_neg (by omega),Nat.sub_add_cancel (by omega)]; exact hk)
    ·have:=hat j;rw [if_neg e1,if_neg e2,hj] at this;exact new j k b2 this hk
end Ss
