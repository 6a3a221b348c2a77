import Derived.Test.YtcpncecdegmliaaGreatC38
/- Part of the proof. -/
set_option linter.unusedVariables false
set_option linter.unusedSimpArgs false
set_option maxRecDepth 10000
set_option maxHeartbeats 8000000
namespace Ss
open Go.Vw.G
def KeptIn (bs:List Block) (all:Kept):Prop := ∀ p∈all, ∃ (j:Nat) (b:Block),p.2=(j:Int)∧bs[j]? = some b∧p.1∈b.code∧p.1.op=257
theorem WQ {near:List Int} {n:Nat} {bs:List Block} {b:Block} (hb:bs[n]? = some b) : ∀ (code:List Ins) (all:Kept),(∀ x∈code,x∈b.code)→KeptIn bs all→KeptIn bs (rcode near n all code).2 ∧ ∀ p∈(rcode near n all code).2,p∈all∨p.2=(n:Int)
 | [],all,_,h=>⟨h,fun p hp => .inl hp⟩
 | x::r,all,hx,h=>by
  rw [rcode];split
  ·exact WQ hb r all (fun y hy=>hx y (by simp [hy])) h
  ·simp only;have h2:KeptIn bs (if x.op=257 then all++[(x,(n:Int))] else all):=by
    split
    ·rename_i ho;intro p hp;rcases List.mem_append.1 hp with hp | hp
     ·exact h p hp
     ·rw [List.mem_singleton] at hp;subst hp;exact ⟨n,b,rfl,hb,hx x (by simp),ho⟩
    ·exact h
   obtain ⟨k1,k2⟩:=WQ hb r _ (fun y hy=>hx y (by simp [hy])) h2;refine ⟨k1,fun p hp => ?_⟩;rcases k2 p hp with k | k
   ·split at k
    ·rcases List.mem_append.1 k with k | k
     ·exact .inl k
     ·rw [List.mem_singleton] at k; subst k; exact .inr rfl
    ·exact .inl k
   ·exact .inr k
def TurnB (near:List Int) (bs:List Block) (i:Nat) (b c:Block):Prop:=c.params=b.params∧c.term=b.term ∧ ∃ all:Kept,KeptIn bs all∧(∀ p∈all,p.2≠(i:Int))∧c.code=(rcode near i all b.code).1
theorem jbb {near:List Int} {bs:List Block} : ∀ (r:List Nat) (cs:List Block) (all:Kept),r.Nodup→cs.length=bs.length→(∀ n∈r,n<bs.length∧cs[n]? = bs[n]?)→KeptIn bs all→(∀ p∈all, ∀ n∈r,p.2≠(n:Int)) →
  (r.foldl (Zy near) (cs,all)).1.length=bs.length∧(∀ n∈r, ∀ b,bs[n]? = some b → ∃ c,(r.foldl (Zy near) (cs,all)).1[n]? = some c∧TurnB near bs n b c) ∧ ∀ n,n∉r→(r.foldl (Zy near) (cs,all)).1[n]? = cs[n]?
 | [],cs,all,_,hl,_,_,_=>⟨hl,by simp,fun n _=>rfl⟩
 | k::r,cs,all,hn,hl,hr,hk,hne=>by
  obtain ⟨n1,n2⟩:=List.nodup_cons.1 hn;obtain ⟨hkl,hke⟩:=hr k (by simp);rw [List.foldl_cons];have e1:bs[k]? = some bs[k]:=List.getElem?_eq_getElem hkl;have e2:cs.getD k default=bs[k]:=by rw [List.getD_eq_getElem?_getD,hke,e1,Option.getD_some]
  obtain ⟨c1,c2⟩:=WQ (near:=near) e1 bs[k].code all (fun _ h=>h) hk;have e3:Zy near (cs,all) k=(cs.set k ⟨bs[k].params,(rcode near k all bs[k].code).1,bs[k].term⟩,(rcode near k all bs[k].code).2):=by simp only [Zy,e2]
  rw [e3];obtain ⟨h1,h2,h3⟩:=jbb (near:=near) (bs:=bs) r (cs.set k ⟨bs[k].params,(rcode near k all bs[k].code).1,bs[k].term⟩) (rcode near k all bs[k].code).2 n2 (by simpa using hl)
   (fun n hnr=>⟨(hr n (by simp [hnr])).1,(List.getElem?_set_ne (fun e:k=n=>n1 (by rw [e]; exact hnr))).trans (hr n (by simp [hnr])).2⟩) c1
   (fun p hp n hnr=>by
    rcases c2 p hp with h | h
    ·exact hne p h n (by simp [hnr])
    ·intro e;have e2:k=n:=by omega
     subst e2;exact n1 hnr)
  refine ⟨h1,fun n hnm b hb => ?_,fun n hnm => ?_⟩
  ·rcases List.mem_cons.1 hnm with rfl | hnm
   ·rw [e1] at hb
    cases hb
    refine ⟨_,(h3 n n1).trans (List.getElem?_set_self (by omega)),rfl,rfl,all,hk,fun p hp=>hne p hp n (by simp),rfl⟩
   ·exact h2 n hnm b hb
  ·simp only [List.mem_cons,not_or] at hnm;rw [h3 n hnm.2,List.getElem?_set_ne (Ne.symm hnm.1)]
theorem bceF_turn {e:Env} {f:Fn} (hf:f.Fits) (h:check e f=true) : ∀ (i:Nat) (b:Block),f.blocks[i]? = some b → ∃ c,(bceF f).blocks[i]? = some c∧TurnB (rNear (nats (succs f.blocks))) f.blocks i b c:=by
 obtain ⟨h1,ds,h2,h3,h4⟩:=check_spec h;simp only [shapeOk,Bool.and_eq_true,decide_eq_true_eq] at h3;obtain ⟨⟨⟨⟨hr,h5⟩,h6⟩,h7⟩,h8⟩:=h3;have hok:=right_ok hr;have ho:=order_ok hok;have hgl:(nats (succs f.blocks)).length=f.blocks.length:=by simp [nats,succs]
 have hN:=jbV hok;rw [ordI,if_pos hr] at h5;have hlt : ∀ n∈order (nats (succs f.blocks)),n<f.blocks.length:=fun n hn=>by rw [←hgl]; exact ho.lt n hn
 have hall : ∀ i<f.blocks.length,i∈order (nats (succs f.blocks)):=(len_all ho.nd hlt).1 h5
 have he:bceF f=bce (rNear (nats (succs f.blocks))) (order (nats (succs f.blocks))) f :=
  (bce_same (fun n hn=>⟨by omega,by rw [hN.len,hgl]; have:=hlt n hn; omega⟩) (fun b hb x hx=>((hf.2.2.2 b hb).2.1.2 x hx).2.1.1) hlt).symm
 intro i b hb;obtain ⟨hi,_⟩:=List.getElem?_eq_some_iff.1 hb;obtain ⟨k1,k2,k3⟩:=jbb (near:=rNear (nats (succs f.blocks))) (bs:=f.blocks) (order (nats (succs f.blocks))) f.blocks [] ho.nd rfl (fun n hn=>⟨hlt n hn,rfl⟩) (fun p hp=>by cases hp) (fun p hp=>by cases hp);rw [he];exact k2 i (hall i hi) b hb
theorem dom_facts {e:Env} {f:Fn} (h:check e f=true):let near:=nearI (succs f.blocks)
  near=rNear (nats (succs f.blocks))∧(∀ i j:Nat,i<f.blocks.length→j<f.blocks.length→dominates near i j=true→dominates near j i=true→i=j)∧(∀ j:Nat,j<f.blocks.length→dominates near j 0=true→j=0) ∧
  ∀ (j i k:Nat) (b:Block) (x:Edge),f.blocks[i]? = some b→x∈b.term.to→x.to.toNat=k→j<f.blocks.length→j≠k→dominates near j k=true→dominates near j i=true:=by
 obtain ⟨h1,ds,h2,h3,h4⟩:=check_spec h;simp only [shapeOk,Bool.and_eq_true,decide_eq_true_eq] at h3;obtain ⟨⟨⟨⟨hr,h5⟩,h6⟩,h7⟩,h8⟩:=h3;have hok:=right_ok hr;have ho:=order_ok hok;have hgl:(nats (succs f.blocks)).length=f.blocks.length:=by simp [nats,succs]
 have hN:=jbV hok;rw [ordI,if_pos hr] at h5;have hlt : ∀ n∈order (nats (succs f.blocks)),n<f.blocks.length:=fun n hn=>by rw [←hgl]; exact ho.lt n hn
 have hall : ∀ i<f.blocks.length,i∈order (nats (succs f.blocks)):=(len_all ho.nd hlt).1 h5
 have hto:=right_to hr;have iff : ∀ {a b:Nat},a<f.blocks.length→b<f.blocks.length→(dominates (rNear (nats (succs f.blocks))) a b=true↔Dom (nats (succs f.blocks)) (order (nats (succs f.blocks))) a b):=fun {a b} ha hb=>by
  rw [Wy hok hN (by omega) (by omega)];constructor
  ·rintro (⟨_,_,h⟩ | rfl)
   ·exact h
   ·exact Dom.self _
  ·exact fun h => .inl ⟨hall a ha,hall b hb,h⟩
 have e0:nearI (succs f.blocks)=rNear (nats (succs f.blocks)):=by rw [nearI,if_pos hr]
 simp only [e0];refine ⟨trivial,fun i j hi hj k1 k2 => ?_,fun j hj k => ?_,fun j i k b x hb hx hk hj hne hd => ?_⟩
 ·exact Dom.anti ho ((iff hi hj).1 k1) ((iff hj hi).1 k2) (hall i hi) (hall j hj)
 ·have h0:0<f.blocks.length:=by omega
  refine Classical.byContradiction fun hj0 => ?_
  exact (iff hj h0).1 k 0 (Way.start 0 (Ne.symm hj0))
 ·obtain ⟨hi,_⟩:=List.getElem?_eq_some_iff.1 hb;have hk2:=hto b (List.mem_of_getElem? hb) x hx;have hkl:k<f.blocks.length:=by omega
  refine (iff hj hi).2 (Dom.pred ((iff hj hkl).1 hd) hne ?_);have:(nats (succs f.blocks))[i]? = some ((rowOf b).map Int.toNat):=by simp [nats,succs,hb]
  rw [List.getD_eq_getElem?_getD,this,Option.getD_some];exact List.mem_map.2 ⟨x.to,List.mem_map.2 ⟨x,hx,rfl⟩,hk⟩
end Ss
namespace Ev
open Go.Vw.G
theorem KL : ∀ (v is xs:List Int) (n:Nat),(∀ i∈is,i.toNat≠n)→(setAll v is xs).getD n 0=v.getD n 0
 | v,[],_,n,_=>rfl
 | v,_::_,[],n,_=>rfl
 | v,i::is,x::xs,n,h=>by
  rw [setAll,KL _ is xs n fun j hj=>h j (by simp [hj])];simp only [List.getD_eq_getElem?_getD];rw [List.getElem?_set_ne (h i (by simp))]
def Holds (v:List Int) (m:Nat) (x:Ss.Ins):Prop:=insideI m (v.getD (x.args.getD 0 0).toNat 0) x.n=true
theorem YA {m m':Nat} {a n n':Int} (h:insideI m a n=true) (hm:m≤m') (hn:n'≤n):insideI m' a n'=true:=by
 simp only [insideI,Bool.and_eq_true,decide_eq_true_eq] at h ⊢;omega
theorem jas {e:Ss.Env} {f:Ss.Fn} {ds:List Ss.Def} {near:List Int} {i k:Int} {x:Ss.Ins} (h:Ss.insOk e f ds near i k x=true) (ho:x.op=257):x.outs=[] ∧ ∃ a,x.args=[a]∧Ss.askOk f.types ds near i k a 127=true:=by
 simp only [Ss.insOk,Bool.and_eq_true,decide_eq_true_eq] at h;obtain ⟨⟨⟨i1,i2⟩,i3⟩,i4⟩:=h;have hns:(Ss.numSig 257).2.2=false:=by
  cases hh:(Ss.numSig 257).2.2 with
  | false=>rfl
  | true=>have:=jbi hh; omega
 have hform : ∀ out,(Ss.form e x.op x.n out).ok=true→Ss.form e x.op x.n out=⟨[127],[],8589934592,true⟩:=fun out hk=>by
  rw [ho] at hk ⊢;simp only [Ss.form,jbl,hns] at hk ⊢
  cases hm:e.mem with
  | false=>rw [hm] at hk; simp at hk
  | true=>simp [Ss.formMem]
 rw [hform _ i1] at i3 i4;refine ⟨by simpa [Ss.typesOf] using i3, ?_⟩;have hl:=jcs i4;obtain ⟨a,ha⟩:=list1 hl;rw [ha] at i4;simp only [Ss.asks,Go.Vw.eqF,Bool.and_true] at i4;exact ⟨a,ha,i4⟩
theorem chk_one {O:Ops} {call:Int→List Int→State→Option Res} {x:Ss.Ins} {a:Int} {v:List Int} {s:State} (ho:x.op=257) (ha:x.args=[a]):oneF O call x (valsI v x.args) s=some ([0],s,if insideI s.mem.length (v.getD a.toNat 0) x.n=true then 0 else 35):=by
 obtain ⟨op,n,xa,xo⟩:=x;simp only at ho ha;subst ho ha
 rfl
def jcA (call call':Int→List Int→State→Option Res):Prop := ∀ n args s r,call n args s=some r→call' n args s=some r∧s.mem.length≤r.2.1.mem.length
theorem one_sim {O:Ops} (hO:OpsOk O) {call call':Int→List Int→State→Option Res} (hc:jcA call call') {x:Ss.Ins} {a:List Int} {s:State} {r:Res} (h:oneF O call x a s=some r):oneF O call' x a s=some r∧s.mem.length≤r.2.1.mem.length:=by
 by_cases c6:x.op=16
 ·have e1 : ¬ x.op=256:=by omega
  have e2 : ¬ x.op=258:=by omega
  have e3 : ¬ x.op=27:=by omega
  have e4 : ¬ x.op=35:=by omega
  have e5 : ¬ x.op=36:=by omega
  simp only [oneF,if_neg e1,if_neg e2,if_neg e3,if_neg e4,if_neg e5,if_pos c6] at h ⊢;exact hc _ _ _ _ h
 ·have e:oneF O call' x a s=oneF O call x a s:=by simp only [oneF,if_neg c6]
  refine ⟨e.trans h, ?_⟩;clear e hc;simp only [oneF,if_neg c6] at h;split at h
  ·cases h; exact Nat.le_refl _
  split at h
  ·split at h<;>cases h<;>exact Nat.le_refl _
  split at h
  ·split at h
   ·cases h; exact Nat.le_refl _
   ·cases h
  split at h
  ·split at h
   ·cases h; exact Nat.le_refl _
   ·cases h
  split at h
  ·split at h
   ·split at h
    ·cases h; exact Nat.le_refl _
    ·cases h
   ·cases h
  split at h
  ·split at h
   ·cases h; exact Nat.le_refl _
   ·cases h
  split at h
  ·split at h
   ·split at h
    ·cases h
     simp only;split
     ·rename_i hz;exact Nat.le_of_eq (hO.storeLen _ _ _ _ _ hz).symm
     ·exact Nat.le_refl _
    ·cases h
   ·split at h
    ·cases h; exact Nat.le_refl _
    ·cases h
  ·split at h
   ·cases h; exact Nat.le_refl _
   split at h
   ·split at h
    ·cases h; exact hO.growLen _ _ _
    ·cases h
   ·cases h; exact Nat.le_refl _
def Knows (f:Ss.Fn) (near:List Int) (i:Nat) (v:List Int) (m:Nat):Prop := ∀ (j:Nat) (b:Ss.Block),f.blocks[j]? = some b→j≠i→dominates near j i=true → ∀ x∈b.code,x.op=257→Holds v m x
section
variable {e:Ss.Env} {f:Ss.Fn} {ds:List Ss.Def} {near:List Int}
theorem ask_apart (hanti : ∀ i j:Nat,i<f.blocks.length→j<f.blocks.length→dominates near i j=true→dominates near j i=true→i=j) {i j:Nat} (hi:i<f.blocks.length) (hj:j<f.blocks.length) (hne:j≠i) (hd:dominates near j i=true) {k pos a w t:Int} (ha:Ss.askOk f.types ds near j k a t=true) (hw:Ss.dAt ds w=⟨true,(i:Int),pos⟩) (h0:0≤w):w.toNat≠a.toNat:=by
 intro he;simp only [Ss.askOk,Bool.and_eq_true,decide_eq_true_eq] at ha;obtain ⟨⟨⟨⟨a0,a1⟩,a2⟩,a3⟩,a4⟩:=ha;have hwa:w=a:=by omega
 subst hwa;have e1:(ds.getD w.toNat default)=⟨true,(i:Int),pos⟩:=hw;rw [e1] at a4;simp only at a4;rw [if_neg (by omega)] at a4;exact hne (hanti i j hi hj a4 hd).symm
theorem jcp {O:Ops} (hO:OpsOk O) {call call':Int→List Int→State→Option Res} (hc:jcA call call') {i:Nat} {b:Ss.Block} (hb:f.blocks[i]? = some b) (hok:FnOk e f ds near)
  (hanti : ∀ i j:Nat,i<f.blocks.length→j<f.blocks.length→dominates near i j=true→dominates near j i=true→i=j) (hdef : ∀ (k:Nat) (x:Ss.Ins),b.code[k]? = some x → ∀ v∈x.outs,Ss.dAt ds v=⟨true,(i:Int),(k:Int)⟩) :
  ∀ (l pre:List Ss.Ins) (all:Ss.Kept) (v:List Int) (s:State) (r:List Int × State × Int),pre++l=b.code→Ss.KeptIn f.blocks all→(∀ p∈all,p.2=(i:Int)→p.1∈pre)→Knows f near i v s.mem.length→(∀ x∈pre,x.op=257→Holds v s.mem.length x) →
   codeF O call l v s=some r→codeF O call' (Ss.rcode near i all l).1 v s=some r∧s.mem.length≤r.2.1.mem.length∧(r.2.2=0→Knows f near i r.1 r.2.1.mem.length ∧ ∀ x∈b.code,x.op=257→Holds r.1 r.2.1.mem.length x)
 | [],pre,all,v,s,r,he,_,_,hk,hp,h=>by
  cases h
  rw [List.append_nil] at he;subst he;exact ⟨rfl,Nat.le_refl _,fun _=>⟨hk,hp⟩⟩
 | x::l,pre,all,v,s,r,he,hki,hkp,hk,hp,h=>by
  have hil:i<f.blocks.length:=(List.getElem?_eq_some_iff.1 hb).1;have hxi:b.code[pre.length]? = some x:=by rw [←he]; simp
  have hbo:=hok.blocks i b hb;have hio:=Ss.checkCode_at hbo.code hxi;rw [Nat.zero_add] at hio;have he':(pre++[x])++l=b.code:=by rw [List.append_assoc]; exact he
  rw [codeF] at h;split at h
  ·rename_i hin
   cases h1:oneF O call x (valsI v x.args) s with
   | none=>rw [h1] at h; cases h
   | some q =>
    rw [h1] at h;obtain ⟨out,s',er⟩:=q;simp only at h;obtain ⟨g1,g2⟩:=one_sim hO hc h1;simp only at g2;rw [Ss.rcode]
    cases hcov:Ss.rcov near i all x with
    | true =>
     simp only [if_true];obtain ⟨p,hpm,hpc⟩:=List.any_eq_true.1 hcov;simp only [Ss.covers,Bool.and_eq_true,decide_eq_true_eq] at hpc;obtain ⟨⟨⟨⟨p1,p2⟩,p3⟩,p4⟩,p5⟩:=hpc;obtain ⟨ho,a,ha,hask⟩:=jas hio p2;obtain ⟨j,bj,q1,q2,q3,q4⟩:=hki p hpm;have hpass:Holds v s.mem.length p.1:=by
      by_cases hji:j=i
      ·subst hji;exact hp p.1 (hkp p hpm q1) p1
      ·exact hk j bj q2 hji (by rw [←q1]; exact p5) p.1 q3 p1
     have hins:insideI s.mem.length (v.getD a.toNat 0) x.n=true:=by
      have e2:p.1.args.getD 0 0=a:=by rw [p3,ha]; rfl
      rw [Holds,e2] at hpass;exact YA hpass (Nat.le_refl _) p4
     rw [chk_one p2 ha,if_pos hins] at h1
     cases h1
     simp only [ho,ne_eq,not_true_eq_false,if_false,setAll,List.length_nil,List.length_cons,Nat.zero_le,and_true] at h;have hx:Holds v s.mem.length x:=by
      rw [Holds,ha]; exact hins
     rw [if_pos (show inR v.length []=true from rfl)] at h;exact jcp hO hc hb hok hanti hdef l (pre++[x]) all v s r he' hki (fun p hp hpi=>List.mem_append_left _ (hkp p hp hpi)) hk (fun y hy ho=>by
      rcases List.mem_append.1 hy with hy | hy
      ·exact hp y hy ho
      ·rw [List.mem_singleton] at hy; subst hy; exact hx) h
    | false =>
     simp only [Bool.false_eq_true,if_false];rw [codeF,if_pos hin,g1];simp only
     by_cases h0:er=0
     ·rw [if_neg (not_not_intro h0)] at h ⊢;split at h
      ·rename_i hio2;rw [if_pos hio2];have hout : ∀ w∈x.outs,0≤w∧Ss.dAt ds w=⟨true,(i:Int),(pre.length:Int)⟩:=fun w hw=>⟨((hbo.ins x (by rw [←he]; simp)).2 w hw).1,hdef _ _ hxi w hw⟩
       have hkeep : ∀ y:Ss.Ins,(∀ w∈x.outs,w.toNat≠(y.args.getD 0 0).toNat)→Holds v s.mem.length y→Holds (setAll v x.outs out) s'.mem.length y:=fun y hy hh=>by
        rw [Holds,KL _ _ _ _ hy];exact YA hh g2 (Int.le_refl _)
       have hk2:Knows f near i (setAll v x.outs out) s'.mem.length:=fun j bj hbj hji hd y hy ho=>by
        refine hkeep y (fun w hw => ?_) (hk j bj hbj hji hd y hy ho);obtain ⟨k,hk⟩:=List.mem_iff_getElem?.1 hy;have hyo:=Ss.checkCode_at (hok.blocks j bj hbj).code hk;obtain ⟨_,a,ha,hask⟩:=jas hyo ho;rw [ha];exact ask_apart hanti hil (List.getElem?_eq_some_iff.1 hbj).1 hji hd hask (hout w hw).2 (hout w hw).1
       have hp2 : ∀ y∈pre,y.op=257→Holds (setAll v x.outs out) s'.mem.length y:=fun y hy ho=>by
        refine hkeep y (fun w hw => ?_) (hp y hy ho);obtain ⟨k,hk⟩:=List.mem_iff_getElem?.1 hy;have hkl:k<pre.length:=(List.getElem?_eq_some_iff.1 hk).1;have hyi:b.code[k]? = some y:=by rw [←he,List.getElem?_append_left hkl]; exact hk
        have hyo:=Ss.checkCode_at hbo.code hyi;rw [Nat.zero_add] at hyo;obtain ⟨_,a,ha,hask⟩:=jas hyo ho;rw [ha];intro hwa;obtain ⟨w0,w1⟩:=hout w hw;simp only [Ss.askOk,Bool.and_eq_true,decide_eq_true_eq] at hask;obtain ⟨⟨⟨⟨a0,a1⟩,a2⟩,a3⟩,a4⟩:=hask;have hwa2:w=a:=by simp only [List.getD_cons_zero] at hwa; omega
        subst hwa2;have e1:(ds.getD w.toNat default)=⟨true,(i:Int),(pre.length:Int)⟩:=w1;rw [e1] at a4;simp only [if_true,decide_eq_true_eq] at a4;omega
       have hx2:x.op=257→Holds (setAll v x.outs out) s'.mem.length x:=fun ho=>by
        obtain ⟨hoo,a,ha,hask⟩:=jas hio ho;rw [chk_one ho ha] at h1;obtain ⟨rfl,rfl,hz⟩:[0]=out∧s=s'∧(if insideI s.mem.length (v.getD a.toNat 0) x.n=true then (0:Int) else 35)=er:=by simpa using h1
        have e3:setAll v x.outs [0]=v:=by rw [hoo]; rfl
        rw [e3,Holds,ha];split at hz
        ·rename_i hh; exact hh
        ·omega
       have hp3 : ∀ y∈pre++[x],y.op=257→Holds (setAll v x.outs out) s'.mem.length y:=fun y hy ho=>by
        rcases List.mem_append.1 hy with hy | hy
        ·exact hp2 y hy ho
        ·rw [List.mem_singleton] at hy; subst hy; exact hx2 ho
       obtain ⟨z1,z2,z3⟩:=jcp hO hc hb hok hanti hdef l (pre++[x]) (if x.op=257 then all++[(x,(i:Int))] else all) (setAll v x.outs out) s' r he' (by
         split
         ·rename_i ho;intro p hp;rcases List.mem_append.1 hp with hp | hp
          ·exact hki p hp
          ·rw [List.mem_singleton] at hp;subst hp;exact ⟨i,b,rfl,hb,by rw [←he]; simp,ho⟩
         ·exact hki) (by
         intro p hp hpi;split at hp
         ·rcases List.mem_append.1 hp with hp | hp
          ·exact List.mem_append_left _ (hkp p hp hpi)
          ·rw [List.mem_singleton] at hp;subst hp;simp
         ·exact List.mem_append_left _ (hkp p hp hpi)) hk2 hp3 h
       exact ⟨z1,Nat.le_trans g2 z2,z3⟩
      ·cases h
     ·rw [if_pos h0] at h ⊢
      cases h
      exact ⟨rfl,g2,fun hz=>absurd hz h0⟩
  ·cases h
end
noncomputable def bceP (P:Prog):Prog:=⟨P.env,P.fns.map Ss.bceF⟩
theorem bceP_right {P:Prog} (hP:RightP P):RightP (bceP P):=by
 refine ⟨hP.env,by simpa [bceP] using hP.len,fun i f hf => ?_⟩;simp only [bceP,List.getElem?_map,Option.map_eq_some_iff] at hf;obtain ⟨g,hg,rfl⟩:=hf;obtain ⟨h1,h2,h3⟩:=hP.fns i g hg;exact ⟨Ss.bceF_fits h1,Ss.bceF_check h2,h3⟩
theorem callG_sim {P:Prog} {d:Nat} {go go':Nat→Ss.Fn→List Int→Nat→List Int→State→Option Res} (h : ∀ f∈P.fns, ∀ args s r,go (d+1) f (List.replicate f.types.length 0) 0 args s=some r→go' (d+1) (Ss.bceF f) (List.replicate f.types.length 0) 0 args s=some r∧s.mem.length≤r.2.1.mem.length) :
  jcA (callG P go d) (callG (bceP P) go' d):=by
 intro n args s r hr;unfold callG at hr ⊢;split at hr
 ·rename_i hn;rw [if_pos (show n<(bceP P).env.imports from hn)];show (match P.env.sigs[n.toNat]? with
   | some t=>hostF s n t.out args
   | none=>none)=some r∧_
  cases ht:P.env.sigs[n.toNat]? with
  | none=>rw [ht] at hr; cases hr
  | some t =>
   rw [ht] at hr;refine ⟨hr, ?_⟩;simp only [hostF] at hr;split at hr
   ·cases hr; exact Nat.le_refl _
   ·cases hr
 ·rename_i hn;rw [if_neg (show ¬ n<(bceP P).env.imports from hn)];split at hr
  ·rename_i hd;rw [if_pos hd]
   cases hr
   exact ⟨rfl,Nat.le_refl _⟩
  ·rename_i hd;rw [if_neg hd];split at hr
   ·rename_i f hf;have e:(bceP P).fns[(n-(bceP P).env.imports).toNat]? = some (Ss.bceF f):=by
     show (P.fns.map Ss.bceF)[(n-P.env.imports).toNat]? = _;rw [List.getElem?_map,hf]; rfl
    rw [e];exact h f (List.mem_of_getElem? hf) args s r hr
   ·cases hr
theorem Yk {O:Ops} (hO:OpsOk O) {P:Prog} (hP:RightP P) : ∀ (N d:Nat) (f:Ss.Fn) (v:List Int) (at_:Nat) (args:List Int) (s:State) (r:Res),f∈P.fns→Knows f (nearI (Ss.succs f.blocks)) at_ v s.mem.length→blocksF O P N d f v at_ args s=some r→blocksF O (bceP P) N d (Ss.bceF f) v at_ args s=some r∧s.mem.length≤r.2.1.mem.length
 | 0,d,f,v,at_,args,s,r,_,_,h=>by cases h
 | N+1,d,f,v,at_,args,s,r,hf,hk,h=>by
  obtain ⟨i,hi⟩:=List.mem_iff_getElem?.1 hf;obtain ⟨f1,f2,f3⟩:=hP.fns i f hi;obtain ⟨ds,hds,hok⟩:=fn_ok f1 f2;obtain ⟨e0,d1,d2,d3⟩:=Ss.dom_facts f2;have hm:=(Ss.defs_made hds).2.2;have hpm:=Ss.putBlocks_params hds;have ht:=Ss.bceF_turn f1 f2;rw [←e0] at ht;have hcall:jcA (callG P (blocksF O P N) d) (callG (bceP P) (blocksF O (bceP P) N) d):=callG_sim fun g hg args s r hr=>by
   refine Yk hO hP N (d+1) g _ 0 args s r hg (fun j b hb hj hd => ?_) hr;obtain ⟨i',hi'⟩:=List.mem_iff_getElem?.1 hg;obtain ⟨e0',d1',d2',d3'⟩:=Ss.dom_facts (hP.fns i' g hi').2.1;exact absurd (d2' j (List.getElem?_eq_some_iff.1 hb).1 hd) hj
  rw [blocksF] at h
  cases hb:f.blocks[at_]? with
  | none=>rw [hb] at h; cases h
  | some b =>
   rw [hb] at h;simp only at h;obtain ⟨c,hc,t1,t2,all,t3,t4,t5⟩:=ht at_ b hb;have hbo:=hok.blocks at_ b hb;have hal:at_<f.blocks.length:=(List.getElem?_eq_some_iff.1 hb).1;split at h
   ·rename_i hpar;have hk1:Knows f (nearI (Ss.succs f.blocks)) at_ (setAll v b.params args) s.mem.length:=fun j bj hbj hji hd y hy ho=>by
     rw [Holds,KL]
     ·exact hk j bj hbj hji hd y hy ho
     ·intro w hw;obtain ⟨k,hk⟩:=List.mem_iff_getElem?.1 hy;have hyo:=Ss.checkCode_at (hok.blocks j bj hbj).code hk;obtain ⟨_,a,ha,hask⟩:=jas hyo ho;rw [ha];have hw2:=hpm at_ b hb w hw;rw [Nat.zero_add] at hw2;exact ask_apart d1 hal (List.getElem?_eq_some_iff.1 hbj).1 hji hd hask hw2 (hbo.pars w hw).1
    cases hcd:codeF O (callG P (blocksF O P N) d) b.code (setAll v b.params args) s with
    | none=>rw [hcd] at h; cases h
    | some q =>
     obtain ⟨z1,z2,z3⟩:=jcp hO hcall hb hok d1 (hm at_ b hb) b.code [] all _ s q rfl t3 (fun p hp hpi=>absurd hpi (t4 p hp)) hk1 (by simp) hcd;rw [hcd] at h;obtain ⟨v2,s2,er⟩:=q;simp only at h z2 z3;rw [blocksF,hc];simp only [t1,t2,t5];rw [if_pos hpar,z1];simp only
     by_cases he:er=0
     ·rw [if_neg (not_not_intro he)] at h ⊢;obtain ⟨w1,w2⟩:=z3 he;split at h
      ·rename_i h4;rw [if_pos h4];split at h
       ·rename_i h5;rw [if_pos h5]
        cases h
        exact ⟨rfl,z2⟩
       ·cases h
      ·rename_i h4;rw [if_neg h4];split at h
       ·rename_i h5;rw [if_pos h5]
        cases h
        exact ⟨rfl,z2⟩
       ·rename_i h5;rw [if_neg h5];split at h
        ·cases h
        ·rename_i k hpk;split at h
         ·cases h
         ·rename_i ed hed;split at h
          ·rename_i h6;rw [if_pos h6];have hkn:Knows f (nearI (Ss.succs f.blocks)) ed.to.toNat v2 s2.mem.length:=fun j bj hbj hji hd y hy ho=>by
            have hdi:=d3 j at_ ed.to.toNat b ed hb (List.mem_of_getElem? hed) rfl (List.getElem?_eq_some_iff.1 hbj).1 hji hd
            by_cases hj:j=at_
            ·subst hj;rw [hb] at hbj
             cases hbj
             exact w2 y hy ho
            ·exact w1 j bj hbj hj hdi y hy ho
           obtain ⟨y1,y2⟩:=Yk hO hP N d f v2 ed.to.toNat _ s2 r hf hkn h;exact ⟨y1,Nat.le_trans z2 y2⟩
          ·cases h
     ·rw [if_pos he] at h ⊢
      cases h
      exact ⟨rfl,z2⟩
   ·cases h
theorem bce_means {O:Ops} (hO:OpsOk O) {P:Prog} (hP:RightP P) {N d:Nat} {n:Int} {args:List Int} {s:State} {r:Res} (h:callF O P N d n args s=some r):callF O (bceP P) N d n args s=some r :=
 (callG_sim (fun g hg args s r hr=>by
  refine Yk hO hP N (d+1) g _ 0 args s r hg (fun j b hb hj hd => ?_) hr;obtain ⟨i',hi'⟩:=List.mem_iff_getElem?.1 hg;obtain ⟨e0',d1',d2',d3'⟩:=Ss.dom_facts (hP.fns i' g hi').2.1;exact absurd (d2' j (List.getElem?_eq_some_iff.1 hb).1 hd) hj) n args s r h).1
end Ev
namespace Go.Vw
open Go.Proofs Go.RowKit
attribute [-simp] List.map_set
theorem NSame_v (s:Ev.State) (h2:s.globals.length<2^62) (h3:s.input.length<2^62) (h4:s.log.length<2^62):VPure Tryz.prog 13 [qb s,qb s] (.bool true):=by
 intro S;obtain ⟨mem,most,glb,fuel,inp,log⟩:=s;simp only at h2 h3 h4;have e1:qb ⟨mem,most,glb,fuel,inp,log⟩ = .agg [vl vby mem,vint most,vl vu glb,vint fuel,vl vu inp,vl vu log]:=rfl;rw [e1];have a1:=Nbytes_v mem;have a2:=Zj glb glb h2;have a3:=Zj inp inp h3;have a4:=Zj log log h4;rw [decide_eq_true rfl] at a2 a3 a4;refine QB (c:=jc Tryz.f13) Tryz.func13 Tryz.ntmps13 fun hwf=>?_
 refine QT ?_;refine QY ?_;refine QH 2 0 ?_;refine QH 3 1 ?_;refine QT ?_;refine QP ?_;refine QL (a1) ?_;refine QZ ?_;refine QL (a2) ?_;refine QZ ?_;refine QL (a3) ?_;refine QZ ?_;refine QL (a4) ?_;refine QW ?_
 repeat first|refine QG ?_|refine QY ?_
 exact ja (X := .bool true) hwf (by simp) rfl
theorem NWords_t (a:List Int) (h:a.length<2^62):VPure Tryz.prog 12 [vl vu a,vl vu a] (.bool true):=by
 have:=Zj a a h
 rwa [decide_eq_true rfl] at this
end Go.Vw
namespace Ss
def smallB:Fn:=⟨⟨[127,127],[127]⟩,[127,127],[⟨[0,1],[⟨258,0,[],[]⟩,⟨257,8,[0],[]⟩,⟨257,4,[0],[]⟩,⟨257,4,[1],[]⟩],⟨4,0,[],[0]⟩⟩]⟩
def smallB':Fn:=⟨⟨[127,127],[127]⟩,[127,127],[⟨[0,1],[⟨258,0,[],[]⟩,⟨257,8,[0],[]⟩,⟨257,4,[1],[]⟩],⟨4,0,[],[0]⟩⟩]⟩
def envB:Env:=⟨[],0,[],[],true⟩
theorem smallB_defs:defsOf smallB=some [⟨true,0, -1⟩,⟨true,0, -1⟩]:=by decide
theorem smallB_succs:succs smallB.blocks=[[]]:=by decide
theorem smallB_rings:rings smallB.blocks [[]]=false:=by
 simp [rings,smallB,tickB,ringM,ringW,List.range_succ]
theorem smallB_shape:shapeOk smallB=true:=by
 have h1:Go.Vw.G.right [[]]=true:=by decide
 have h2:Go.Vw.G.ordI [[]]=[0]:=by decide
 have h3:Go.Vw.G.nats [[]]=[[]]:=rfl;simp only [shapeOk,smallB_succs,h1,h2,h3,smallB_rings]
 decide
theorem numSig_257:numSig 257=((numSig 257).1,(numSig 257).2.1,false):=by
 have:(numSig 257).2.2=false:=by decide
 rw [←this]
theorem smallB_check:check envB smallB=true:=by
 have h1:checkHead envB smallB=true:=by decide
 have hf : ∀ n o,form envB 257 n o=⟨[127],[],8589934592,true⟩:=fun n o=>by
  have e0:form envB 257 n o=formNum envB 257:=by simp [form]
  rw [e0];unfold formNum;rw [numSig_257];simp [envB,formMem]
 have hf2 : ∀ n o,form envB 258 n o=⟨[],[],0,true⟩:=fun n o=>by simp [form]
 simp only [check,h1,smallB_defs,smallB_shape,Bool.true_and];generalize Go.Vw.G.nearI (succs smallB.blocks)=near;simp [smallB,checkBlocks,checkCode,insOk,hf,hf2,insOut,typesOf,asks,Go.Vw.eqF,termOk,termHead,termTail,branches,askOk]
theorem smallB_bce:bceF smallB=smallB':=by
 have h1:Go.Vw.G.order (Go.Vw.G.nats (succs smallB.blocks))=[0]:=by decide
 have h2:Go.Vw.G.rNear (Go.Vw.G.nats (succs smallB.blocks))=[-1]:=by decide
 rw [bceF,h1,h2]
 decide
theorem smallB_out:bceOut envB smallB=(smallB',0):=by rw [bceOut_t smallB_check,smallB_bce]
theorem smallB_fits:smallB.Fits:=by
 simp [smallB,Fn.Fits,Sig.Fits,Ints,Block.Fits,Ins.Fits,Term.Fits,I64]
theorem envB_fits:envB.Fits:=by
 simp [envB,Env.Fits,Ints,I64]
end Ss
namespace Go.Vw
open Go.Proofs Go.RowKit
attribute [-simp] List.map_set
theorem envB_ghost (S:Store):Ghost (.agg [.nils, .int .i64 0, .nils, .nils, .bool true]) S (qM Ss.envB) S:=by
 refine Ghost.agg_nl rfl fun i x y hx hy => ?_
 match i,hx,hy with
 | 0,hx,hy=>cases hx; cases hy; exact .inr ⟨rfl,rfl⟩
 | 1,hx,hy=>cases hx; cases hy; exact .inl rfl
 | 2,hx,hy=>cases hx; cases hy; exact .inr ⟨rfl,rfl⟩
 | 3,hx,hy=>cases hx; cases hy; exact .inr ⟨rfl,rfl⟩
 | 4,hx,hy=>cases hx; cases hy; exact .inl rfl
theorem small13_v:VPure Tryz.prog 33 [.int .i64 0, .nils, .list [.agg [.int .i64 257, .int .u64 8, .list [.int .i64 0], .nils], .agg [.int .i64 257, .int .u64 4, .list [.int .i64 0], .nils], .agg [.int .i64 257, .int .u64 4, .list [.int .i64 1], .nils]]] (jJ Ss.smallB):=by
 intro S;have hcv : ∀ l,(vl jp l).closed1=true:=fun _=>rfl
 have hk1 : ∀ k n,(V.int k n).closed1=true:=fun _ _=>rfl
 have hk2 : ∀ l,(V.list l).closed1=true:=fun _=>rfl
 have hr2:rep0 [V.int .i64 0] 2=[.int .i64 0, .int .i64 0]:=rfl;have hr1:rep0 [V.int .i64 0] 1=[.int .i64 0]:=rfl;have hr4:rep0 [V.int .i64 0, .int .u64 0, .nils, .nils] 1=[.int .i64 0, .int .u64 0, .nils, .nils]:=rfl;have hr6:rep0 [V.nils, .nils, .int .i64 0, .int .i64 0, .nils, .nils] 1=[.nils, .nils, .int .i64 0, .int .i64 0, .nils, .nils]:=rfl;refine qq (c:=jc Tryz.f33) Tryz.func33 rfl (by conv=>lhs; reduce) (by simp [Tryz.ntmps33]) ?_;rw [Tryz.ntmps33];intro hwf;refine QT ?_;refine QY ?_;refine QT ?_;refine QY ?_ (r:=by conv=>lhs;simp[QV,hr2,hr1,hr4,hr6,jN,jL])
 apply jF
 ·exact Reach.nilCell (k:=3) (i:=2) (by simp) (by rfl) (by rfl)
 simp only [List.set_cons_succ,List.set_cons_zero]
 apply jF
 ·exact Reach.nilCell (k:=3) (i:=3) (by simp) (by rfl) (by rfl)
 simp only [List.set_cons_succ,List.set_cons_zero]
 apply jF
 ·exact Reach.nilCell (k:=3) (i:=7) (by simp) (by rfl) (by rfl)
 simp only [List.set_cons_succ,List.set_cons_zero]
 apply jF
 ·exact Reach.nilCell (k:=3) (i:=11) (by simp) (by rfl) (by rfl)
 simp only [List.set_cons_succ,List.set_cons_zero]
 apply jF
 ·exact Reach.nilCell (k:=3) (i:=15) (by simp) (by rfl) (by rfl)
 simp only [List.set_cons_succ,List.set_cons_zero]
 apply jF
 ·exact Reach.frzCellS (enc:=jp) (s:=4) (fun _=>rfl) JJ (k:=5) (j:=3) (i:=1) [⟨258,0,[],[]⟩,⟨257,8,[0],[]⟩,⟨257,4,[0],[]⟩,⟨257,4,[1],[]⟩] (by decide) (by simp) (by simp) (by rfl) (by rfl) (by rfl)
 simp only [List.set_cons_succ,List.set_cons_zero]
 apply jF
 ·exact Reach.frzCell (k:=5) (j:=1) (i:=0) (by decide) (by simp) (by simp) (by rfl) (by rfl) (by rfl) (by rfl) (by rfl)
 simp only [List.set_cons_succ,List.set_cons_zero]
 apply jF
 ·exact Reach.nilCell (k:=5) (i:=4) (by simp) (by rfl) (by rfl)
 simp only [List.set_cons_succ,List.set_cons_zero]
 apply jF
 ·exact Reach.frzCell (k:=5) (j:=4) (i:=5) (by decide) (by simp) (by simp) (by rfl) (by rfl) (by rfl) (by rfl) (by rfl)
 simp only [List.set_cons_succ,List.set_cons_zero];refine QT ?_;refine vw_drawFrz (ZZ.mk _ (St S [] [none,none,none,none,none,some (6,[.list [.int .i64 0, .int .i64 1],vl jp [⟨258,0,[],[]⟩,⟨257,8,[0],[]⟩,⟨257,4,[0],[]⟩,⟨257,4,[1],[]⟩], .int .i64 4, .int .i64 0, .list [], .list [.int .i64 0]])]) (St S [] [none,none,none,none,none,some (6,[.list [.int .i64 0, .int .i64 1],vl jp [⟨258,0,[],[]⟩,⟨257,8,[0],[]⟩,⟨257,4,[0],[]⟩,⟨257,4,[1],[]⟩], .int .i64 4, .int .i64 0, .list [], .list [.int .i64 0]])]) []) [17,18,24] rfl (by kernel_rfl) (by conv=>lhs; reduce) (by conv=>lhs; reduce) (by conv=>lhs; reduce) (by kernel_rfl) (by kernel_rfl) (JW (by simp [subU,shpU,subL,shpL])) (Store.sub_refl _) (by conv=>lhs; simp [QV,hr2,hr1,hr6,hk1,hk2]) ?_;refine QI ?_ (r:=by conv=>lhs;simp[QV,hr2]);refine QZ ?_;refine QI ?_ (r:=by conv=>lhs;simp[QV,jN,jL])
 refine QM (by conv=>lhs;simp[QV,hr6,hk1,hk2,hcv]) ?_;refine QI ?_;refine QN ?_
 apply jF
 ·exact Reach.frzCell (k:=0) (j:=7) (i:=2) (by decide) (by simp) (by simp) (by rfl) (by rfl) (by rfl) (by rfl) (by rfl)
 simp only [List.set_cons_succ,List.set_cons_zero]
 repeat first|refine QG ?_|refine QY ?_
 exact Wx (by simp; rfl) (ja hwf (by simp [Ss.smallB,vl]) rfl)
theorem ghost_single {x x':V} {S S':Store} (h:GhostArgs [x] S [x'] S'):Ghost x S x' S':=by
 intro m β w v hS hr;obtain ⟨m',β',h1,h2,h3⟩:=h m β w [v] hS ((RepL.nil m β).cons hr);exact ⟨m',β',h1,h2,h3.2 0 x' v rfl rfl⟩
theorem code13_ghost {S:Store} {oc a b c:Nat} (hc:S.get oc=some (4,[.int .i64 257, .int .u64 8, .slice a 0 1, .nils, .int .i64 257, .int .u64 4, .slice b 0 1, .nils, .int .i64 257, .int .u64 4, .slice c 0 1, .nils])) (ha:S.get a=some (1,[.int .i64 0])) (hb:S.get b=some (1,[.int .i64 0])) (hcc:S.get c=some (1,[.int .i64 1])) (hd:[oc,a,b,c].Nodup) :
  Ghost (.slice oc 0 3) S (.list [.agg [.int .i64 257, .int .u64 8, .list [.int .i64 0], .nils], .agg [.int .i64 257, .int .u64 4, .list [.int .i64 0], .nils], .agg [.int .i64 257, .int .u64 4, .list [.int .i64 1], .nils]]) (S.dels [oc,a,b,c]):=by
 have hw:OwL S (reps 3 [.c, .c, .s (List.replicate 1 .c), .c]) [.int .i64 257, .int .u64 8, .slice a 0 1, .nils, .int .i64 257, .int .u64 4, .slice b 0 1, .nils, .int .i64 257, .int .u64 4, .slice c 0 1, .nils] [.int .i64 257, .int .u64 8,vl vint [0], .nils, .int .i64 257, .int .u64 4,vl vint [0], .nils, .int .i64 257, .int .u64 4,vl vint [1], .nils] [a,b,c]:=by
  refine .c rfl (.c rfl (OwL.slice (enc:=vint) (fun _=>rfl) (fun _=>rfl) [0] (by rw [qp]; exact ha) (.c rfl ?_)));refine .c rfl (.c rfl (OwL.slice (enc:=vint) (fun _=>rfl) (fun _=>rfl) [0] (by rw [qp]; exact hb) (.c rfl ?_)));exact .c rfl (.c rfl (OwL.slice (enc:=vint) (fun _=>rfl) (fun _=>rfl) [1] (by rw [qp]; exact hcc) (.c rfl .nil)))
 have:=OwL.s (S:=S) (o:=oc) (tys:=[.c, .c, .s (List.replicate 1 .c), .c]) (cells:=[.int .i64 257, .int .u64 8, .slice a 0 1, .nils, .int .i64 257, .int .u64 4, .slice b 0 1, .nils, .int .i64 257, .int .u64 4, .slice c 0 1, .nils]) (ys:=[.agg [.int .i64 257, .int .u64 8, .list [.int .i64 0], .nils], .agg [.int .i64 257, .int .u64 4, .list [.int .i64 0], .nils], .agg [.int .i64 257, .int .u64 4, .list [.int .i64 1], .nils]]) (i:=[a,b,c]) (j:=[]) hc (fun y hy=>by
  simp only [List.mem_cons,List.not_mem_nil,or_false] at hy;rcases hy with rfl | rfl | rfl<;>exact ⟨rfl,rfl⟩) hw .nil
 exact ghost_single (this.freeze hd S fun _ _=>rfl)
theorem Alive13_v:VPure Tryz.prog 9 [] (.bool true):=by
 intro S;have hr1:rep0 [V.int .i64 0] 1=[.int .i64 0]:=rfl;have hr3:rep0 [V.int .i64 0, .int .u64 0, .nils, .nils] 3=[.int .i64 0, .int .u64 0, .nils, .nils, .int .i64 0, .int .u64 0, .nils, .nils, .int .i64 0, .int .u64 0, .nils, .nils]:=rfl;have cs:=small13_v;have cb:=BceP_v Ss.envB Ss.smallB Ss.envB_fits Ss.smallB_fits;rw [Ss.smallB_out] at cb;have hF':jJ Ss.smallB' = .agg [vl vint [127,127],vl vint [127],vl vint [127,127],vl je [⟨[0,1],[⟨258,0,[],[]⟩,⟨257,8,[0],[]⟩,⟨257,4,[1],[]⟩],⟨4,0,[],[0]⟩⟩]]:=rfl;obtain ⟨f1,f2,f3,f4,hF,o1,o2,o3,o4⟩ : ∃ f1 f2 f3 f4,jJ Ss.smallB = .agg [f1,f2,f3,f4]∧f1.one=true∧f2.one=true∧f3.one=true∧f4.one=true:=⟨_,_,_,_,rfl,rfl,rfl,rfl,rfl⟩
 rw [hF] at cs cb;rw [hF'] at cb;refine QB (c:=jc Tryz.f9) Tryz.func9 Tryz.ntmps9 fun hwf=>?_
 refine QT ?_;refine QY ?_;refine QT ?_;refine QY ?_;refine QH 1 0 ?_;refine QT ?_;refine QP ?_ (r:=by conv=>lhs;simp[QV,hr1,hr3]);have hg := @code13_ghost (St S [] [none,some (1,[.int .i64 0]),some (1,[.int .i64 0]),some (1,[.int .i64 1]),some (4,[.int .i64 257, .int .u64 8, .slice (lid S.nx 1) 0 1, .nils, .int .i64 257, .int .u64 4, .slice (lid S.nx 2) 0 1, .nils, .int .i64 257, .int .u64 4, .slice (lid S.nx 3) 0 1, .nils])]) (lid S.nx 4) (lid S.nx 1) (lid S.nx 2) (lid S.nx 3) (by rw [ju]; rfl) (by rw [ju]; rfl) (by rw [ju]; rfl) (by rw [ju]; rfl) (by simp [lid]);refine qY rfl (GhostArgs.one [_,_] [] hg) cs ?_;have hdl:(St S [] [none,some (1,[.int .i64 0]),some (1,[.int .i64 0]),some (1,[.int .i64 1]),some (4,[.int .i64 257, .int .u64 8, .slice (lid S.nx 1) 0 1, .nils, .int .i64 257, .int .u64 4, .slice (lid S.nx 2) 0 1, .nils, .int .i64 257, .int .u64 4, .slice (lid S.nx 3) 0 1, .nils])]).dels [lid S.nx 4,lid S.nx 1,lid S.nx 2,lid S.nx 3]=St S [] [none,none,none,none,none]:=by
  simp [Store.dels,jby]
 rw [hdl];refine QM (by conv=>lhs;simp[QV,o1,o2,o3,o4]) ?_;refine QN ?_;refine QT ?_;refine QP ?_ (r:=by conv=>lhs;simp[QV,o1,o2,o3,o4]);refine qY rfl (GhostArgs.one [] [_] (envB_ghost _)) cb ?_;refine QW ?_;have hix : ∀ S,jD 4 S (vl jp [⟨258,0,[],[]⟩,⟨257,8,[0],[]⟩,⟨257,4,[1],[]⟩]) (.int .i64 1)=some (.ref (jp ⟨257,8,[0],[]⟩)):=fun _=>rfl
 repeat first|refine QG ?_|refine QY ?_ (r:=by conv=>lhs;simp[QV,hix])
 exact ja (X := .bool true) hwf (by simp) rfl
end Go.Vw
