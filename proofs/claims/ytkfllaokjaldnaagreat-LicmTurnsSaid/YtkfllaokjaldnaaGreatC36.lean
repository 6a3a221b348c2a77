import Derived.Test.YtkfllaokjaldnaaGreatC35
import Derived.Test.YtkfllaokjaldnaaGreatC34
import Derived.Test.YtkfllaokjaldnaaGreatC14
/-
  Part of the proof (texts LChk, LFirst, LPor).
-/
set_option linter.unusedVariables false
set_option linter.unusedSimpArgs false
namespace Ss
theorem jac {op:Int} (h:pure op=true):op≠258:=fun e=>by rw [e,pure_tick] at h; cases h
theorem WU {l:List Ins} {i q:Nat}:(l.eraseIdx i)[q]? = if q<i then l[q]? else l[q+1]? := List.getElem?_eraseIdx
def psi (n i u K:Nat):Nat:=if u=n∧i<K then K-1 else K
theorem ask_later {ts:List Int} {ds:List Def} {near:List Int} {block pos pos' v t:Int} (h:askOk ts ds near block pos v t=true) (hp:pos≤pos'):askOk ts ds near block pos' v t=true:=by
 simp only [askOk,Bool.and_eq_true] at h ⊢;refine ⟨h.1, ?_⟩;have h2:=h.2;split at h2
 ·rename_i e;rw [if_pos e];simp only [decide_eq_true_eq] at h2 ⊢;omega
 ·rename_i e; rw [if_neg e]; exact h2
theorem move_check {e:Env} {f:Fn} (h:check e f=true) {p n i:Nat} {bp bn:Block} {x:Ins} (hm:Mv f.blocks p n i bp bn x) (hx:pure x.op=true)
  (D2:Go.Vw.G.dominates (Go.Vw.G.nearI (succs f.blocks)) n p=false) (D1:Go.Vw.G.dominates (Go.Vw.G.nearI (succs f.blocks)) p n=true) (D3 : ∀ u:Nat,u<f.blocks.length→Go.Vw.G.dominates (Go.Vw.G.nearI (succs f.blocks)) n u=true→Go.Vw.G.dominates (Go.Vw.G.nearI (succs f.blocks)) p u=true)
  (D4 : ∀ ds,defsOf f=some ds → ∀ a∈x.args,(ds.getD a.toNat default).block≠n∧((ds.getD a.toNat default).block=p∨Go.Vw.G.dominates (Go.Vw.G.nearI (succs f.blocks)) (ds.getD a.toNat default).block p=true)) :
  check e ⟨f.sig,f.types,moveAt f.blocks p n i⟩=true:=by
 have hd:=check_dok h;have hsm:=check_small h;obtain ⟨hh,ds,hds,hsh,hbs⟩:=check_spec h;have D4:=D4 ds hds;obtain ⟨hdl,hdin⟩:=defs_in hds;obtain ⟨hnd,hmade,hout⟩:=Jf hds;have hall:=hm.all;have hsu:=hm.succs;have htk:=hm.ticks (jac hx);have hcnt:=hm.count;have hat:=hm.at;have hlen:=hm.len;have hnp:((n:Nat):Int)≠(p:Nat):=fun e=>hm.ne (by omega)
 obtain ⟨g,hg⟩ : ∃ g:Fn,g=⟨f.sig,f.types,moveAt f.blocks p n i⟩:=⟨_,rfl⟩
 have hgb:g.blocks=moveAt f.blocks p n i:=by rw [hg]
 have hgs:g.sig=f.sig:=by rw [hg]
 have hgt:g.types=f.types:=by rw [hg]
 rw [←hg];rw [←hgb] at hall hsu htk hcnt hat hlen;clear hg hgb;have hrange : ∀ v∈allL f.blocks,0≤v∧v<f.types.length:=fun v hv=>by
  obtain ⟨b,hb,hv⟩:=List.mem_flatMap.1 hv;obtain ⟨k1,k2⟩:=hdin b hb;rcases List.mem_append.1 hv with hv | hv
  ·exact k1 v hv
  ·obtain ⟨x,hx,hv⟩:=List.mem_flatMap.1 hv;exact k2 x hx v hv
 obtain ⟨ds',hds'⟩:=YU (l:=g.blocks) (i:=0) (ds:=List.replicate g.types.length ⟨false,0,0⟩) (by rw [List.length_replicate,hgt]; exact fun v hv=>hrange v (hall.subset hv)) (hall.nodup_iff.2 hnd) (fun v _=>dAt_rep _ _);have hds2:defsOf g=some ds':=hds';obtain ⟨hdl',_⟩:=defs_in hds2;obtain ⟨_,hmade',hout'⟩:=Jf hds2;have hpar : ∀ m:Nat,(g.blocks.getD m default).params=(f.blocks.getD m default).params:=fun m=>by
  rw [List.getD_eq_getElem?_getD,List.getD_eq_getElem?_getD,hat m]
  by_cases e1:m=p
  ·subst e1; rw [if_pos rfl,hm.hp]; rfl
  ·rw [if_neg e1]
   by_cases e2:m=n
   ·subst e2; rw [if_pos rfl,hm.hn]; rfl
   ·rw [if_neg e2]
 have hfb : ∀ (j:Nat) (c:Block),g.blocks[j]? = some c → ∃ b,f.blocks[j]? = some b∧c.params=b.params∧c.term=b.term∧c.code=(if j=p then bp.code++[x] else if j=n then bn.code.eraseIdx i else b.code)∧(j=p→b=bp)∧(j=n→b=bn):=fun j c hc=>by
  rw [hat j] at hc
  by_cases e1:j=p
  ·subst e1;rw [if_pos rfl] at hc
   cases hc
   exact ⟨bp,hm.hp,rfl,rfl,by rw [if_pos rfl]; rfl,fun _=>rfl,fun e=>absurd e hm.ne⟩
  ·rw [if_neg e1] at hc
   by_cases e2:j=n
   ·subst e2;rw [if_pos rfl] at hc
    cases hc
    exact ⟨bn,hm.hn,rfl,rfl,by rw [if_neg e1,if_pos rfl]; rfl,fun e=>absurd e e1,fun _=>rfl⟩
   ·rw [if_neg e2] at hc;exact ⟨c,hc,rfl,rfl,by rw [if_neg e1,if_neg e2],fun e=>absurd e e1,fun e=>absurd e e2⟩
 have hbf : ∀ (j:Nat) (b:Block),f.blocks[j]? = some b → ∃ c,g.blocks[j]? = some c∧c.params=b.params∧c.code=(if j=p then bp.code++[x] else if j=n then bn.code.eraseIdx i else b.code)∧(j=p→b=bp)∧(j=n→b=bn):=fun j b hb=>by
  have hjl:j<g.blocks.length:=by rw [hlen]; exact (List.getElem?_eq_some_iff.1 hb).1
  obtain ⟨b',hb',q1,q2,q3,q4⟩:=hfb j _ (List.getElem?_eq_getElem hjl);rw [hb] at hb'
  cases hb'
  exact ⟨_,List.getElem?_eq_getElem hjl,q1,q3,q4⟩
 have hhead:checkHead e g=true:=by
  simp only [checkHead,Bool.and_eq_true,decide_eq_true_eq,List.all_eq_true] at hh ⊢;obtain ⟨⟨⟨⟨⟨g1,g2⟩,g3⟩,g4⟩,g5⟩,g6⟩:=hh;refine ⟨⟨⟨⟨⟨g1, ?_⟩,by rw [hlen]; exact g3⟩,by rw [hgt]; exact g4⟩,by rw [hgs]; exact g5⟩,fun c hc => ?_⟩
  ·obtain ⟨k1,k2,k3⟩:=(small_iff f).1 hsm;refine (small_iff g).2 ⟨?_,fun c hc => ?_,by rw [hcnt]; exact k3⟩
   ·simp only [Fn.heads,hlen,hgs,hgt] at k1 ⊢; exact k1
   ·obtain ⟨j,hj⟩:=List.mem_iff_getElem?.1 hc;obtain ⟨b,hb,q1,q2,q3,_⟩:=hfb j c hj;have hsb:=k2 b (List.mem_of_getElem? hb);have hsp:=k2 bp (List.mem_of_getElem? hm.hp);have hsn:=k2 bn (List.mem_of_getElem? hm.hn);simp only [Block.small,Bool.and_eq_true,List.all_eq_true] at hsb hsp hsn ⊢;rw [q1,q2];refine ⟨⟨hsb.1.1,fun y hy => ?_⟩,hsb.2⟩;rw [q3] at hy;split at hy
    ·rcases List.mem_append.1 hy with hy | hy
     ·exact hsp.1.2 y hy
     ·rw [List.mem_singleton] at hy; subst hy;exact hsn.1.2 _ (List.mem_of_getElem? hm.hi)
    ·split at hy
     ·exact hsn.1.2 y (List.mem_of_mem_eraseIdx hy)
     ·exact hsb.1.2 y hy
  ·obtain ⟨j,hj⟩:=List.mem_iff_getElem?.1 hc;obtain ⟨b,hb,q1,_⟩:=hfb j c hj;rw [q1];exact g6 b (List.mem_of_getElem? hb)
 have hshape:shapeOk g=true:=by
  simp only [shapeOk,Bool.and_eq_true] at hsh ⊢;have hr:rings g.blocks (Go.Vw.G.nats (succs f.blocks))=rings f.blocks (Go.Vw.G.nats (succs f.blocks)):=by simp only [rings,htk]
  rw [hsu,hlen,hgs,hpar 0,hgt,hr];refine ⟨hsh.1, ?_⟩;have h5:=hsh.2;have h0:0<f.blocks.length:=List.length_pos_iff.2 hd.ne;obtain ⟨b0,hb0⟩ : ∃ b0,f.blocks[0]? = some b0:=⟨_,List.getElem?_eq_getElem h0⟩
  obtain ⟨c0,hc0,_,q3,q4,q5⟩:=hbf 0 b0 hb0;have e1:f.blocks.getD 0 default=b0:=by rw [List.getD_eq_getElem?_getD,hb0]; rfl
  have e2:g.blocks.getD 0 default=c0:=by rw [List.getD_eq_getElem?_getD,hc0]; rfl
  rw [e1] at h5;rw [e2,q3]
  by_cases ep:0=p
  ·rw [if_pos ep, ←q4 ep]
   cases hb:b0.code with
   | nil=>rw [hb] at h5; cases h5
   | cons y r=>rw [hb] at h5; simpa using h5
  ·rw [if_neg ep]
   by_cases en:0=n
   ·rw [if_pos en, ←q5 en];have hi':=hm.hi;rw [←q5 en] at hi'
    cases hb:b0.code with
    | nil=>rw [hb] at h5; cases h5
    | cons y r =>
     rw [hb] at h5 hi';simp only [decide_eq_true_eq] at h5
     cases i with
     | zero =>
      simp only [List.getElem?_cons_zero,Option.some.injEq] at hi';subst hi';exact absurd h5 (jac hx)
     | succ i=>simpa using h5
   ·rw [if_neg en]; exact h5
 have fact : ∀ v:Int,0≤v→(ds.getD v.toNat default).made=true→(∃ B P P':Int,ds.getD v.toNat default=⟨true,B,P⟩∧ds'.getD v.toNat default=⟨true,B,P'⟩∧(B=n→(P<i→P'=P)∧(i<P→P'=P-1)∧P≠i)∧(B≠n→P'=P)∧(B=p→P<bp.code.length))∨(ds.getD v.toNat default=⟨true,n,i⟩∧ds'.getD v.toNat default=⟨true,p,bp.code.length⟩):=by
  intro v q1 q4;have hv:=hmade v q1 q4;obtain ⟨b2,hb2,hv2⟩:=List.mem_flatMap.1 hv;obtain ⟨j,hj⟩:=List.mem_iff_getElem?.1 hb2;obtain ⟨c,hc,r1,r2,r3,r4⟩:=hbf j b2 hj;rcases List.mem_append.1 hv2 with hp | ho
  ·have a1:=qj hds j b2 hj v hp;have a2:=qj hds' j c hc v (by rw [r1]; exact hp);rw [Nat.zero_add] at a1 a2;exact .inl ⟨_,_,_,a1,a2,fun _=>⟨fun _=>rfl,fun h=>by omega,by omega⟩,fun _=>rfl,fun _=>by omega⟩
  ·obtain ⟨y,hy,hvy⟩:=List.mem_flatMap.1 ho;obtain ⟨k,hk⟩:=List.mem_iff_getElem?.1 hy;have a1:=hout j b2 hj k y hk v hvy;have hkl:=(List.getElem?_eq_some_iff.1 hk).1
   by_cases e1:j=p
   ·subst e1;rw [if_pos rfl] at r2;rw [r3 rfl] at hk hkl;have a2:=hout' j c hc k y (by rw [r2,List.getElem?_append_left hkl]; exact hk) v hvy;exact .inl ⟨_,_,_,a1,a2,fun e=>absurd e (Ne.symm hnp),fun _=>rfl,fun _=>by omega⟩
   ·rw [if_neg e1] at r2
    by_cases e2:j=n
    ·subst e2;rw [if_pos rfl] at r2;rw [r4 rfl] at hk
     by_cases e3:k=i
     ·subst e3;rw [hm.hi] at hk
      cases hk
      obtain ⟨cp,hcp,_,s2,_,_⟩:=hbf p bp hm.hp;rw [if_pos rfl] at s2;have a2:=hout' p cp hcp bp.code.length x (by rw [s2,List.getElem?_append_right (Nat.le_refl _)]; simp) v hvy;exact .inr ⟨a1,a2⟩
     ·by_cases e4:k<i
      ·have a2:=hout' j c hc k y (by rw [r2,WU,if_pos e4]; exact hk) v hvy;exact .inl ⟨_,_,_,a1,a2,fun _=>⟨fun _=>rfl,fun h=>by omega,by omega⟩,fun e=>absurd rfl e,fun e=>absurd e hnp⟩
      ·have a2:=hout' j c hc (k-1) y (by rw [r2,WU,if_neg (by omega),Nat.sub_add_cancel (by omega)]; exact hk) v hvy;exact .inl ⟨_,_,_,a1,a2,fun _=>⟨fun h=>by omega,fun h=>by omega,by omega⟩,fun e=>absurd rfl e,fun e=>absurd e hnp⟩
    ·rw [if_neg e2] at r2;have a2:=hout' j c hc k y (by rw [r2]; exact hk) v hvy;exact .inl ⟨_,_,_,a1,a2,fun e=>absurd (by omega) e2,fun _=>rfl,fun e=>absurd (by omega) e1⟩
 have key : ∀ (u K:Nat) (v t:Int),u<f.blocks.length → ¬ (u=n∧K=i)→askOk f.types ds (Go.Vw.G.nearI (succs f.blocks)) u K v t=true→askOk g.types ds' (Go.Vw.G.nearI (succs f.blocks)) u (psi n i u K:Nat) v t=true:=by
  intro u K v t hul hne ha;simp only [askOk,Bool.and_eq_true,decide_eq_true_eq] at ha ⊢;obtain ⟨⟨⟨⟨q1,q2⟩,q3⟩,q4⟩,q5⟩:=ha;have rng:(0≤v∧v<ds'.length)∧g.types.getD v.toNat 0=t:=⟨⟨q1,by rw [hdl',hgt, ←hdl]; exact q2⟩,by rw [hgt]; exact q3⟩
  rcases fact v q1 q4 with ⟨B,P,P',f1,f2,f3,f4,f5⟩ | ⟨f1,f2⟩
  ·rw [f1] at q5;rw [f2];refine ⟨⟨rng,rfl⟩, ?_⟩;simp only at q5 ⊢
   by_cases eB:B=u
   ·rw [if_pos eB,decide_eq_true_eq] at q5 ⊢;unfold psi
    by_cases en:u=n
    ·obtain ⟨g1,g2,g3⟩:=f3 (by omega);split
     ·rcases Int.lt_or_gt_of_ne g3 with h | h
      ·rw [g1 h]; omega
      ·rw [g2 h]; omega
     ·rw [g1 (by omega)]; exact q5
    ·rw [if_neg (fun h=>en h.1),f4 (by omega)]; exact q5
   ·rw [if_neg eB] at q5 ⊢; exact q5
  ·rw [f1] at q5;rw [f2];refine ⟨⟨rng,rfl⟩, ?_⟩;simp only at q5 ⊢
   by_cases ep:(p:Int)=u
   ·have:p=u:=by omega
    subst this;rw [if_neg hnp,D2] at q5
    cases q5
   ·rw [if_neg ep]
    by_cases en:(n:Int)=u
    ·have:n=u:=by omega
     subst this;exact D1
    ·rw [if_neg en] at q5;exact D3 u hul q5
 have keyA : ∀ (u K:Nat) (l t:List Int),u<f.blocks.length → ¬ (u=n∧K=i)→asks f.types ds (Go.Vw.G.nearI (succs f.blocks)) u K l t=true→asks g.types ds' (Go.Vw.G.nearI (succs f.blocks)) u (psi n i u K:Nat) l t=true :=
  fun u K l t hul hne ha=>Zw (fun x hx y hxy=>key u K x y hul hne hxy) ha
 have keyX : ∀ v t:Int,v∈x.args→askOk f.types ds (Go.Vw.G.nearI (succs f.blocks)) n i v t=true→askOk g.types ds' (Go.Vw.G.nearI (succs f.blocks)) p (bp.code.length:Nat) v t=true:=by
  intro v t hv ha;simp only [askOk,Bool.and_eq_true,decide_eq_true_eq] at ha ⊢;obtain ⟨⟨⟨⟨q1,q2⟩,q3⟩,q4⟩,q5⟩:=ha;obtain ⟨d1,d2⟩:=D4 v hv;rcases fact v q1 q4 with ⟨B,P,P',f1,f2,f3,f4,f5⟩ | ⟨f1,f2⟩
  ·rw [f1] at d1 d2;rw [f2];refine ⟨⟨⟨⟨q1,by rw [hdl',hgt, ←hdl]; exact q2⟩,by rw [hgt]; exact q3⟩,rfl⟩, ?_⟩;simp only at d1 d2 ⊢
   by_cases eB:B=p
   ·rw [if_pos eB,decide_eq_true_eq,f4 d1]; exact f5 eB
   ·rw [if_neg eB];rcases d2 with h | h
    ·exact absurd h eB
    ·exact h
  ·rw [f1] at d1;exact absurd rfl d1
 have hblocks:checkBlocks e g ds' (Go.Vw.G.nearI (succs g.blocks)) 0 g.blocks=true:=by
  rw [hsu];refine Wa fun j c hc => ?_
  rw [Nat.zero_add];obtain ⟨b,hb,w1,w2,w3,w4,w5⟩:=hfb j c hc;have hjl:=(List.getElem?_eq_some_iff.1 hb).1;have hbm:=List.mem_of_getElem? hb;obtain ⟨c1,c2⟩:=qG hbs hb;rw [Nat.zero_add] at c1 c2;have old : ∀ (k q:Nat) (y:Ins),b.code[k]? = some y → ¬ (j=n∧k=i)→psi n i j k=q→insOk e g ds' (Go.Vw.G.nearI (succs f.blocks)) j q y=true:=by
   intro k q y hk hne hq;have:=zo c1 hk;rw [Nat.zero_add] at this;simp only [insOk,Bool.and_eq_true] at this ⊢;rw [hgt];refine ⟨this.1, ?_⟩;have h9:=keyA j k _ _ hjl hne this.2;rw [hgt,hq] at h9;exact h9
  constructor
  ·refine Zf fun q y hy => ?_
   rw [Nat.zero_add];rw [w3] at hy
   by_cases e1:j=p
   ·rw [if_pos e1, ←w4 e1] at hy
    by_cases hq:q<b.code.length
    ·rw [List.getElem?_append_left hq] at hy;refine old q q y hy (fun h=>hm.ne (e1▸h.1)) ?_;unfold psi; rw [if_neg (fun h=>hm.ne (e1▸h.1))]
    ·rw [List.getElem?_append_right (by omega)] at hy;have hql:q=b.code.length:=by
      have:=(List.getElem?_eq_some_iff.1 hy).1;simp at this; omega
     subst hql;simp only [Nat.sub_self,List.getElem?_cons_zero,Option.some.injEq] at hy;subst hy;obtain ⟨d1,d2⟩:=qG hbs hm.hn;have:=zo d1 hm.hi;rw [Nat.zero_add,Nat.zero_add] at this;simp only [insOk,Bool.and_eq_true] at this ⊢;rw [hgt];refine ⟨this.1, ?_⟩;rw [w4 e1,e1];have h9:asks g.types ds' (Go.Vw.G.nearI (succs f.blocks)) p (bp.code.length:Nat) x.args _=true:=Zw (fun v hv t ht=>keyX v t hv ht) this.2;rw [hgt] at h9;exact h9
   ·rw [if_neg e1] at hy
    by_cases e2:j=n
    ·rw [if_pos e2, ←w5 e2,WU] at hy
     by_cases hq:q<i
     ·rw [if_pos hq] at hy;refine old q q y hy (fun h=>by omega) ?_;unfold psi; rw [if_neg (fun h=>by omega)]
     ·rw [if_neg hq] at hy;refine old (q+1) q y hy (fun h=>by omega) ?_;unfold psi; rw [if_pos ⟨e2,by omega⟩]; rfl
    ·rw [if_neg e2] at hy;refine old q q y hy (fun h=>e2 h.1) ?_;unfold psi; rw [if_neg (fun h=>e2 h.1)]
  ·have hposle:(psi n i j b.code.length:Nat)≤c.code.length:=by
    rw [w3];unfold psi
    by_cases e1:j=p
    ·rw [if_pos e1,if_neg (fun h=>hm.ne (e1▸h.1)),w4 e1]; simp
    ·rw [if_neg e1]
     by_cases e2:j=n
     ·have hil:=(List.getElem?_eq_some_iff.1 hm.hi).1;rw [if_pos e2,if_pos ⟨e2,by rw [w5 e2]; exact hil⟩,w5 e2,List.length_eraseIdx_of_lt hil]; exact Nat.le_refl _
     ·rw [if_neg e2,if_neg (fun h=>e2 h.1)]; exact Nat.le_refl _
   have hne : ¬ (j=n∧b.code.length=i):=fun hc=>by
    have:=(List.getElem?_eq_some_iff.1 hm.hi).1;rw [←w5 hc.1] at this; omega
   have keyT : ∀ (l t:List Int),asks f.types ds (Go.Vw.G.nearI (succs f.blocks)) j b.code.length l t=true→asks g.types ds' (Go.Vw.G.nearI (succs f.blocks)) j c.code.length l t=true:=fun l t ha =>
    Zw (fun v hv y hy=>ask_later (key j _ v y hjl hne hy) (by omega)) ha
   unfold termOk at c2 ⊢;rw [w2,hgs];split at c2
   ·rename_i le mo rs heq;simp only [termTail,Bool.and_eq_true] at c2 ⊢;obtain ⟨⟨⟨⟨t1,t2⟩,t3⟩,t4⟩,t5⟩:=c2;refine ⟨⟨⟨⟨?_,t2⟩,t3⟩,keyT _ _ t4⟩,List.all_eq_true.2 fun y hy => ?_⟩
    ·split at t1
     ·rename_i hbr;rw [if_pos hbr];exact keyT _ _ t1
     ·rename_i hbr; rw [if_neg hbr]; exact t1
    ·have:=List.all_eq_true.1 t5 y hy;simp only [edgeOk,Bool.and_eq_true] at this ⊢;rw [hpar,hgt];refine ⟨this.1, ?_⟩;have h9:=keyT _ _ this.2;rw [hgt] at h9;exact h9
   ·cases c2
 simp only [check,hhead,hds2,hshape,hblocks,Bool.and_self]
end Ss

namespace Ss
open Go.Vw.G
def canMove (hm:Int→Int) (nodes:List Nat) (x:Ins):Bool:=pure x.op&&x.args.all fun a => !decide (hm a∈nodes.map Int.ofNat)
def firstB (bs:List Block) (hm:Int→Int) (nodes:List Nat):List Nat→Option (Nat × Nat)
 | []=>none
 | n::r=>match (bs.getD n default).code.findIdx? (canMove hm nodes) with
  | some i=>some (n,i)
  | none=>firstB bs hm nodes r
def first (bs:List Block) (hm:Int→Int):List (Nat × List Nat)→Option (Nat × Nat × Nat)
 | []=>none
 | l::r=>match porch bs l.1 (l.2.map Int.ofNat) with
  | none=>first bs hm r
  | some p=>match firstB bs hm l.2 l.2 with
   | some m=>some (p.toNat,m.1,m.2)
   | none=>first bs hm r
theorem jaA {bs:List Block} {hm:Int→Int} {nodes:List Nat} : ∀ {l:List Nat} {n i:Nat},firstB bs hm nodes l=some (n,i)→n∈l ∧ ∃ x,(bs.getD n default).code[i]? = some x∧canMove hm nodes x=true
 | [],n,i,h=>by simp [firstB] at h
 | m::l,n,i,h=>by
  rw [firstB] at h;split at h
  ·rename_i j hj
   cases h
   obtain ⟨h1,h2,_⟩:=List.findIdx?_eq_some_iff_getElem.1 hj;exact ⟨by simp,_,List.getElem?_eq_getElem h1,h2⟩
  ·obtain ⟨h1,h2⟩:=jaA h;exact ⟨by simp [h1],h2⟩
theorem YC {bs:List Block} {hm:Int→Int} : ∀ {lp:List (Nat × List Nat)} {p n i:Nat},first bs hm lp=some (p,n,i) → ∃ l∈lp, ∃ q,porch bs l.1 (l.2.map Int.ofNat)=some q∧p=q.toNat∧n∈l.2 ∧ ∃ x,(bs.getD n default).code[i]? = some x∧canMove hm l.2 x=true
 | [],p,n,i,h=>by simp [first] at h
 | l::r,p,n,i,h=>by
  rw [first] at h;split at h
  ·obtain ⟨l',h1,h2⟩:=YC h;exact ⟨l',by simp [h1],h2⟩
  ·rename_i q hq;split at h
   ·rename_i m hm'
    cases h
    obtain ⟨h1,h2⟩:=jaA (n:=m.1) (i:=m.2) hm';exact ⟨l,by simp,q,hq,rfl,h1,h2⟩
   ·obtain ⟨l',h1,h2⟩:=YC h;exact ⟨l',by simp [h1],h2⟩
theorem WT {q r:Ins→Bool} : ∀ {l:List Ins},(∀ x∈l,q x=r x)→l.findIdx? q=l.findIdx? r
 | [],_=>rfl
 | a::l,h=>by rw [List.findIdx?_cons,List.findIdx?_cons,h a (by simp),WT fun x hx=>h x (by simp [hx])]
theorem jcv {hm hm':Int→Int} {nodes:List Nat} {x:Ins} (h : ∀ a∈x.args,hm a=hm' a):canMove hm nodes x=canMove hm' nodes x:=by
 unfold canMove
 congr 1
 rw [Bool.eq_iff_iff,List.all_eq_true,List.all_eq_true];exact ⟨fun k a ha=>by rw [←h a ha]; exact k a ha,fun k a ha=>by rw [h a ha]; exact k a ha⟩
theorem Za {bs:List Block} {hm hm':Int→Int} {nodes:List Nat} (h : ∀ n:Nat, ∀ x∈(bs.getD n default).code, ∀ a∈x.args,hm a=hm' a) : ∀ l:List Nat,firstB bs hm nodes l=firstB bs hm' nodes l
 | []=>rfl
 | n::l=>by rw [firstB,firstB,WT fun x hx=>jcv (h n x hx),Za h l]
theorem Wm {bs:List Block} {hm hm':Int→Int} (h : ∀ n:Nat, ∀ x∈(bs.getD n default).code, ∀ a∈x.args,hm a=hm' a) : ∀ lp:List (Nat × List Nat),first bs hm lp=first bs hm' lp
 | []=>rfl
 | l::r=>by rw [first,first,Za h l.2,Wm h r]
def homeOf (f:Fn) (v:Int):Int:=(((defsOf f).getD []).getD v.toNat default).block
noncomputable def lps (bs:List Block):List (Nat × List Nat):=loopsTo (rNear (nats (succs bs))) (froms (nats (succs bs))) (nats (succs bs)).length (nats (succs bs)).length
def weigh (w:Nat→Nat):Nat→List Block→Nat
 | _,[]=>0
 | j,b::bs=>b.code.length*w j+weigh w (j+1) bs
theorem ZD {w:Nat→Nat} : ∀ {l:List Block} {j k:Nat} {b c:Block},l[k]? = some b→weigh w j (l.set k c)+b.code.length*w (j+k)=weigh w j l+c.code.length*w (j+k)
 | [],j,k,b,c,h=>by simp at h
 | a::l,j,0,b,c,h=>by
  simp only [List.getElem?_cons_zero,Option.some.injEq] at h;subst h;simp only [List.set_cons_zero,weigh,Nat.add_zero]; omega
 | a::l,j,k+1,b,c,h=>by
  have:=ZD (w:=w) (l:=l) (j:=j+1) (k:=k) (b:=b) (c:=c) (by simpa using h);rw [List.set_cons_succ,weigh,weigh,show j+(k+1)=j+1+k by omega];omega
theorem Mv.weigh {bs:List Block} {p n i:Nat} {bp bn:Block} {x:Ins} (h:Mv bs p n i bp bn x) {w:Nat→Nat} (hw:w p<w n):Ss.weigh w 0 (moveAt bs p n i)<Ss.weigh w 0 bs:=by
 have hp2:(bs.set n (cutAt bn i))[p]? = some bp:=by rw [List.getElem?_set_ne (Ne.symm h.ne)]; exact h.hp
 have e1:=ZD (w:=w) (j:=0) (c:=cutAt bn i) h.hn;have e2:=ZD (w:=w) (j:=0) (c:=endWith bp x) hp2;have hil:=(List.getElem?_eq_some_iff.1 h.hi).1;rw [h.eq];have l1:(cutAt bn i).code.length=bn.code.length-1:=by simp only [cutAt,List.length_eraseIdx_of_lt hil]
 have l2:(endWith bp x).code.length=bp.code.length+1:=by simp [endWith]
 rw [l1] at e1;rw [l2] at e2;simp only [Nat.zero_add] at e1 e2;obtain ⟨m,hm⟩ : ∃ m,bn.code.length=m+1:=⟨bn.code.length-1,by omega⟩
 rw [hm,Nat.add_sub_cancel,Nat.succ_mul] at e1;rw [Nat.succ_mul] at e2;omega
theorem Zv {e:Env} {f:Fn} (h:check e f=true) {p n i:Nat} (hf:first f.blocks (homeOf f) (lps f.blocks)=some (p,n,i)) :
  ∃ bp bn x,Mv f.blocks p n i bp bn x∧pure x.op=true∧check e ⟨f.sig,f.types,moveAt f.blocks p n i⟩=true∧rk (nats (succs f.blocks)) (order (nats (succs f.blocks))) p<rk (nats (succs f.blocks)) (order (nats (succs f.blocks))) n:=by
 obtain ⟨l,hl,q,hq,rfl,hn,x,hx,hcan⟩:=YC hf;have hgr:=graphic h;have hok:=hgr.ok;have ho:=order_ok hok;obtain ⟨_,ds,hds,hsh,hbs⟩:=check_spec h;have hglen:(nats (succs f.blocks)).length=f.blocks.length:=nats_succs_len _;have hreach : ∀ u,u<f.blocks.length→u∈order (nats (succs f.blocks)):=by
  intro u hu;refine Classical.byContradiction fun hno => ?_
  have h1:=hgr.len;have h2:=ho.nd;have h3:(u::order (nats (succs f.blocks))).Nodup:=List.nodup_cons.2 ⟨hno,h2⟩;have h4:(u::order (nats (succs f.blocks))).length≤(List.range f.blocks.length).length:=List.Nodup.length_le_of_subset h3 fun y hy=>by
   rcases List.mem_cons.1 hy with rfl | hy
   ·exact List.mem_range.2 hu
   ·exact List.mem_range.2 (hgr.lt y hy)
  rw [List.length_range,List.length_cons,h1] at h4;omega
 have hrow : ∀ (u:Nat) (b:Block),f.blocks[u]? = some b→(nats (succs f.blocks)).getD u []=(rowOf b).map Int.toNat:=fun u b hb=>by
  simp only [nats,succs,List.getD_eq_getElem?_getD,List.getElem?_map,hb,Option.map_some,Option.getD_some]
 have hedge : ∀ (u:Nat) (b:Block),f.blocks[u]? = some b → ∀ t∈b.term.to,0<t.to:=by
  intro u b hb t ht;have hr:=right_to hgr.right b (List.mem_of_getElem? hb) t ht;obtain ⟨_,c2⟩:=qG hbs hb;unfold termOk at c2;split at c2
  ·rename_i le mo rs heq;simp only [termTail,Bool.and_eq_true] at c2;have:=List.all_eq_true.1 c2.2 t ht;simp only [edgeOk,Bool.and_eq_true,Bool.not_eq_true',decide_eq_false_iff_not] at this;have:=this.1;omega
  ·cases c2
 have hz : ∀ u,0∉(nats (succs f.blocks)).getD u []:=by
  intro u hm
  by_cases hu:u<f.blocks.length
  ·obtain ⟨b,hb⟩ : ∃ b,f.blocks[u]? = some b:=⟨_,List.getElem?_eq_getElem hu⟩
   rw [hrow u b hb] at hm;obtain ⟨z,hz,hz0⟩:=List.mem_map.1 hm;obtain ⟨t,ht,rfl⟩:=List.mem_map.1 hz;have:=hedge u b hb t ht;omega
  ·rw [List.getD_eq_getElem?_getD,List.getElem?_eq_none (by omega)] at hm;simp at hm
 have h0:0∉l.2:=loop_not0 hok hz hl;obtain ⟨a1,a2,a3,a4,a5⟩:=heads hok _ (Nat.le_refl _) l hl;have hpred : ∀ m∈l.2,m≠l.1 → ∀ u,m∈(nats (succs f.blocks)).getD u []→u∈l.2:=fun m hm hne u hu=>by
  refine a5 m hm hne u ((mem_froms hok m u (a3 m hm)).2 ⟨?_,hu⟩)
  by_cases hul:u<(nats (succs f.blocks)).length
  ·exact hul
  ·rw [List.getD_eq_getElem?_getD,List.getElem?_eq_none (by omega)] at hu; simp at hu
 obtain ⟨k,bp,rfl,hbp,hkind,hkn,hkh,huniq⟩:=porch_spec hq;have hin : ∀ u:Nat,(u:Int)∈l.2.map Int.ofNat↔u∈l.2:=fun u=>by
  rw [List.mem_map];constructor
  ·rintro ⟨w,hw,e⟩;have:w=u:=by have e2:(w:Int)=(u:Int):=e; omega
   exact this▸hw
  ·exact fun hu=>⟨u,hu,rfl⟩
 rw [hin] at hkn;have hrowM : ∀ (u:Nat) (b:Block),f.blocks[u]? = some b→(l.1∈(nats (succs f.blocks)).getD u []↔((l.1:Nat):Int)∈rowOf b):=fun u b hb=>by
  rw [hrow u b hb,List.mem_map];constructor
  ·rintro ⟨z,hz,e⟩;obtain ⟨t,ht,rfl⟩:=List.mem_map.1 hz;have:=hedge u b hb t ht;have e2:t.to=((l.1:Nat):Int):=by omega
   rw [←e2]; exact hz
  ·exact fun hz=>⟨_,hz,by simp⟩
 have hport : ∀ u,u∉l.2→l.1∈(nats (succs f.blocks)).getD u []→u=k:=fun u hu hm=>by
  by_cases hul:u<f.blocks.length
  ·obtain ⟨b,hb⟩ : ∃ b,f.blocks[u]? = some b:=⟨_,List.getElem?_eq_getElem hul⟩
   exact huniq u b hb (by rw [hin]; exact hu) ((hrowM u b hb).1 hm)
  ·rw [List.getD_eq_getElem?_getD,List.getElem?_eq_none (by omega)] at hm; simp at hm
 have hkl:=(List.getElem?_eq_some_iff.1 hbp).1;have hnl:n<f.blocks.length:=by rw [←hglen]; exact a3 n hn
 have hdom:Dom (nats (succs f.blocks)) (order (nats (succs f.blocks))) k n:=porch_dom hpred hport h0 n hn;have hne:k≠n:=fun e=>hkn (e▸hn)
 have hlt:=hdom.rk ho (hreach k hkl) (hreach n hnl) hne;have hN:=rNear_ok hok;have dI : ∀ {u v:Nat},u<f.blocks.length→v<f.blocks.length→(dominates (Go.Vw.G.nearI (succs f.blocks)) u v=true↔Dom (nats (succs f.blocks)) (order (nats (succs f.blocks))) u v):=fun {u v} hu hv=>by
  rw [hgr.near,zx hok hN (by omega) (by omega)];constructor
  ·rintro (h | h)
   ·exact h.2.2
   ·subst h; exact Dom.self _
  ·exact fun h => .inl ⟨hreach u hu,hreach v hv,h⟩
 obtain ⟨bn,hbn⟩ : ∃ b,f.blocks[n]? = some b:=⟨_,List.getElem?_eq_getElem hnl⟩
 have hbnd:f.blocks.getD n default=bn:=by rw [List.getD_eq_getElem?_getD,hbn]; rfl
 rw [hbnd] at hx;have hmv:Mv f.blocks k n i bp bn x:=⟨hbp,hbn,hx,hne⟩
 simp only [canMove,Bool.and_eq_true,List.all_eq_true,Bool.not_eq_true',decide_eq_false_iff_not] at hcan;rw [Int.toNat_natCast];refine ⟨bp,bn,x,hmv,hcan.1,move_check h hmv hcan.1 ?_ ((dI hkl hnl).2 hdom) (fun u hu hd=>(dI hkl hu).2 (hdom.trans ((dI hnl hu).1 hd))) ?_,hlt⟩
 ·cases hc:dominates (Go.Vw.G.nearI (succs f.blocks)) n k with
  | false=>rfl
  | true=>exact absurd (hdom.anti ho ((dI hnl hkl).1 hc) (hreach k hkl) (hreach n hnl)) hne
 ·intro ds2 hds2 a ha;rw [hds] at hds2
  cases hds2
  have hho:homeOf f a=(ds.getD a.toNat default).block:=by simp only [homeOf,hds,Option.getD_some]
  have hnot:=hcan.2 a ha;rw [hho] at hnot;obtain ⟨c1,_⟩:=qG hbs hbn;have hins:=zo c1 hx;rw [Nat.zero_add,Nat.zero_add] at hins;simp only [insOk,Bool.and_eq_true] at hins;obtain ⟨t,ht⟩:=jaC hins.2 a ha;simp only [askOk,Bool.and_eq_true,decide_eq_true_eq] at ht;obtain ⟨⟨⟨⟨q1,q2⟩,q3⟩,q4⟩,q5⟩:=ht;obtain ⟨_,hmade,hout⟩:=Jf hds;obtain ⟨b2,hb2,hv2⟩:=List.mem_flatMap.1 (hmade a q1 q4);obtain ⟨j,hj⟩:=List.mem_iff_getElem?.1 hb2;have hjl:=(List.getElem?_eq_some_iff.1 hj).1;have hB:(ds.getD a.toNat default).block=(j:Int):=by
   rcases List.mem_append.1 hv2 with hp | ho2
   ·have:=qj hds j b2 hj a hp;rw [Nat.zero_add] at this;exact congrArg Def.block this
   ·obtain ⟨y,hy,hvy⟩:=List.mem_flatMap.1 ho2;obtain ⟨k2,hk2⟩:=List.mem_iff_getElem?.1 hy;have:=hout j b2 hj k2 y hk2 a hvy;exact congrArg Def.block this
  rw [hB] at hnot q5 ⊢;rw [hin] at hnot;have hjn:j≠n:=fun e=>hnot (e▸hn)
  refine ⟨fun e=>hjn (by omega), ?_⟩;rw [if_neg (fun e=>hjn (by omega))] at q5
  by_cases hjk:j=k
  ·exact .inl (by omega)
  ·refine .inr ((dI hjl hkl).2 ?_);exact out_dom hpred a2 ((hrowM k bp hbp).2 hkh) h0 hnot hn ((ho.mem n).1 (hreach n hnl)) ((dI hjl hnl).1 q5)
end Ss

namespace Ss
def porchF (f:Fn) (head:Int) (nodes:List Int):Option Int:=if f.small then porch f.blocks head nodes else none
theorem scanRow_cons (head:Int) (i:Nat) (a:Int) (l:List Int) (st:Int × Nat):scanRow head i (a::l) st=scanRow head i l (if a=head then ((i:Int),st.2+1) else st):=by simp [scanRow]
end Ss
namespace Go.Vw
open Go.Proofs Go.RowKit
set_option maxRecDepth 10000
set_option maxHeartbeats 4000000
def WG:Option Int→V
 | none => .tuple [vint 0, .bool false]
 | some p => .tuple [vint p, .bool true]
theorem vl_nat (l:List Nat):vl vnat l=vl vint (l.map Int.ofNat):=by simp [vl,List.map_map]
theorem Porch_v (f:Ss.Fn) (hf:f.Fits) (head:Int) (nodes:List Int) (hn:nodes.length<2^63):VPure Tryz.prog 28 [qD f,vint head,vl vint nodes] (WG (Ss.porchF f head nodes)):=by
 intro S;have cs:=Succ_v f hf;have cc:=fun x=>Contains_v nodes x hn
 have hsb := @qd f;have hfb:=hf.2.2.2;obtain ⟨rows,hrows⟩ : ∃ rows,rows=if f.small then Ss.succs f.blocks else []:=⟨_,rfl⟩
 have hrl:rows.length≤4096 ∧ ∀ r∈rows,r.length≤4096:=by
  rw [hrows];split
  ·rename_i h;obtain ⟨_,h1,h2,_⟩:=hsb h;refine ⟨by simpa [Ss.succs] using h1,fun r hr => ?_⟩;obtain ⟨b,hb,rfl⟩:=List.mem_map.1 hr;simpa [Ss.rowOf] using (h2 b hb).2.1
  ·simp
 obtain ⟨R,hR⟩ : ∃ R,Ss.scanG head nodes 0 rows (0,0)=R:=⟨_,rfl⟩
 have hsp:=(Ss.scan_spec head nodes rows 0 (0,0)).2.2;rw [hR] at hsp;have hres:Ss.porchF f head nodes=if R.2≠1∨(f.blocks.getD R.1.toNat default).term.kind≠1 then none else some R.1:=by
  unfold Ss.porchF Ss.porch
  cases hs:f.small with
  | true=>rw [hs] at hrows; rw [if_pos rfl] at hrows; rw [←hrows,hR]; rfl
  | false=>rw [hs] at hrows; simp only [Bool.false_eq_true,if_false] at hrows; rw [hrows] at hR; rw [←hR]; simp [Ss.scanG]
 have hin:R.2=1 → ∃ j:Nat,R.1=(j:Int)∧j<f.blocks.length:=fun h=>by
  obtain ⟨j,l,h1,_,_,h4,_⟩:=hsp (by simpa using h);refine ⟨j,by simpa using h4, ?_⟩;have:=(List.getElem?_eq_some_iff.1 h1).1;rw [hrows] at this;split at this
  ·simpa [Ss.succs] using this
  ·simp at this
 rw [←hrows] at cs;rw [hres];clear hres hrows hsp hsb hf;obtain ⟨⟨fi,fo⟩,ts,bs⟩:=f;have cs':VPure Tryz.prog 26 [.agg [vl vint fi,vl vint fo,vl vint ts,vl jd bs]] (vl (vl vint) rows):=cs;simp only at *
 refine jb (c:=jg Tryz.f28) Tryz.func28 rfl rfl (by simp [Tryz.ntmps28]) ?_;rw [Tryz.ntmps28];intro hwf
 repeat refine QS ?_
 refine QY ?_;refine QH 3 0 ?_;refine jE [1,2,3] (by conv=>lhs; simp [Fr.only,Fr.look]) ?_;refine zp [] hwf (by decide) (by simp [-List.map_set]) (by conv=>lhs; simp [-List.map_set]) (by conv=>lhs; simp [-List.map_set]) (by conv=>lhs; simp [-List.map_set]) ?_
 repeat first|refine QG ?_|refine QY ?_
 repeat refine QS ?_
 refine QP ?_;refine jc (cs') (by rfl) ?_;refine QW ?_
 repeat first|refine QG ?_|refine QY ?_
 repeat refine QS ?_
 refine je [1,2,3,8,9,15,16,17] rfl (fun c σ S' => ∃ (k:Nat) (at':Int) (many:Nat),k≤rows.length∧c=rows.length-k∧many≤4096*k∧Ss.scanG head nodes k (rows.drop k) (at',many)=R∧σ=[(1,vint head),(2,vl vint nodes),(3,(V.agg [vl vint fi,vl vint fo,vl vint ts,vl jd bs]).ref),(8,vint at'),(9,vnat many),(15,vl (vl vint) rows),(16,vnat rows.length),(17,vnat k)]∧S'=St S [] []) rows.length ?_ ?_
 ·exact ⟨0,0,0,by omega,rfl,by omega,hR,by simp [Fr.only],rfl⟩
 ·rintro c σ T ⟨k,at',many,hk,rfl,hm,hsc,rfl,rfl⟩
  by_cases hkt:k<rows.length
  ·have hw:=jo hkt (by omega);rw [List.drop_eq_getElem_cons hkt,Ss.scanG] at hsc;have hr4:=hrl.2 _ (List.getElem_mem hkt)
   by_cases hin2:(k:Int)∈nodes
   ·rw [if_pos hin2] at hsc
    repeat first|refine QG ?_|refine QY ?_ (r:=by conv=>lhs;simp[-List.map_set,QV,hkt])
    repeat refine QS ?_
    refine QP ?_;refine jn rfl (cc (k:Int)) ?_;refine QM (by conv=>lhs;simp[-List.map_set,QV,hin2]) ?_;refine QN ?_
    repeat first|refine QG ?_|refine QY ?_ (r:=by conv=>lhs;simp[-List.map_set,QV,hin2,hw])
    show jx _ _ _ _ _ _ _;exact again ⟨Nat.sub_lt_sub_left hkt (Nat.lt_succ_self k),k+1,at',many,hkt,rfl,by omega,hsc,by simp [Fr.only,Fr.look],rfl⟩
   ·rw [if_neg hin2] at hsc;obtain ⟨row,hrow⟩ : ∃ r,rows[k]=r:=⟨_,rfl⟩
    rw [hrow] at hsc hr4
    repeat first|refine QG ?_|refine QY ?_ (r:=by conv=>lhs;simp[-List.map_set,QV,hkt,hrow])
    repeat refine QS ?_
    refine QP ?_;refine jn rfl (cc (k:Int)) ?_;refine QM (by conv=>lhs;simp[-List.map_set,QV,hin2]) ?_;refine QN ?_
    repeat first|refine QG ?_|refine QY ?_ (r:=by conv=>lhs;simp[-List.map_set,QV,hin2])
    repeat refine QS ?_
    refine je [1,2,3,8,9,10,15,16,17,25,26,27] rfl (fun c σ S' => ∃ (j:Nat) (at':Int) (many:Nat),j≤row.length∧c=row.length-j∧many≤4096*k+j∧Ss.scanG head nodes (k+1) (rows.drop (k+1)) (Ss.scanRow head k (row.drop j) (at',many))=R∧σ=[(1,vint head),(2,vl vint nodes),(3,(V.agg [vl vint fi,vl vint fo,vl vint ts,vl jd bs]).ref),(8,vint at'),(9,vnat many),(10,vnat k),(15,vl (vl vint) rows),(16,vnat rows.length),(17,vnat k),(25,vl vint row),(26,vnat row.length),(27,vnat j)]∧S'=St S [] []) row.length ?_ ?_
    ·exact ⟨0,at',many,by omega,rfl,by omega,hsc,by simp [Fr.only,Fr.look],rfl⟩
    ·rintro c σ T ⟨j,at',many,hj,rfl,hm,hsc,rfl,rfl⟩
     by_cases hjt:j<row.length
     ·have hwj:=jo hjt (by omega);rw [List.drop_eq_getElem_cons hjt,Ss.scanRow_cons] at hsc;have hwm:=jo (k:=many) (n:=many+1) (by omega) (by omega)
      by_cases he:row[j]=head
      ·rw [if_pos he] at hsc
       repeat first|refine QG ?_|refine QY ?_ (r:=by conv=>lhs;simp[-List.map_set,QV,hjt,he,hwm,hwj])
       show jx _ _ _ _ _ _ _;exact again ⟨Nat.sub_lt_sub_left hjt (Nat.lt_succ_self j),j+1,(k:Int),many+1,hjt,rfl,by omega,hsc,by simp [Fr.only,Fr.look],rfl⟩
      ·rw [if_neg he] at hsc
       repeat first|refine QG ?_|refine QY ?_ (r:=by conv=>lhs;simp[-List.map_set,QV,hjt,he,hwj])
       show jx _ _ _ _ _ _ _;exact again ⟨Nat.sub_lt_sub_left hjt (Nat.lt_succ_self j),j+1,at',many,hjt,rfl,by omega,hsc,by simp [Fr.only,Fr.look],rfl⟩
     ·have e:row.drop j=[]:=by rw [List.drop_eq_nil_iff]; omega
      rw [e] at hsc;have hsc':Ss.scanG head nodes (k+1) (rows.drop (k+1)) (at',many)=R:=hsc
      repeat first|refine QG ?_|refine QY ?_ (r:=by conv=>lhs;simp[-List.map_set,QV,hjt,hw])
      show jx _ _ _ _ _ _ _;exact again ⟨Nat.sub_lt_sub_left hkt (Nat.lt_succ_self k),k+1,at',many,hkt,rfl,by omega,hsc',by simp [Fr.only,Fr.look],rfl⟩
  ·have e:rows.drop k=[]:=by rw [List.drop_eq_nil_iff]; omega
   rw [e] at hsc;have hsc':(at',many)=R:=hsc;subst hsc';simp only at hin ⊢
   by_cases h1:many=1
   ·obtain ⟨q,rfl,hq⟩:=hin h1;obtain ⟨⟨ps,code,⟨tk,ta,to,az⟩⟩,hx⟩ : ∃ b,bs[q]=b:=⟨_,rfl⟩
    have hgd:bs.getD ((q:Int)).toNat default=⟨ps,code,⟨tk,ta,to,az⟩⟩:=by rw [List.getD_eq_getElem?_getD,Int.toNat_natCast,List.getElem?_eq_getElem hq,hx]; rfl
    rw [hgd];subst h1
    by_cases ht:tk=1
    ·subst ht;rw [if_neg (by simp)]
     repeat first|refine QG ?_|refine QY ?_ (r:=by conv=>lhs;simp[-List.map_set,QV,hkt,hq,hx])
     exact ja hwf rfl rfl
    ·rw [if_pos (.inr ht)]
     repeat first|refine QG ?_|refine QY ?_ (r:=by conv=>lhs;simp[-List.map_set,QV,hkt,hq,hx,ht])
     exact ja hwf rfl rfl
   ·rw [if_pos (.inl h1)];have h2 : ¬ (many:Int)=1:=by omega
    repeat first|refine QG ?_|refine QY ?_ (r:=by conv=>lhs;simp[-List.map_set,QV,hkt,h1,h2])
    exact ja hwf rfl rfl
end Go.Vw
