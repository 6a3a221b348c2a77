import Derived.Test.YtkfllaokjaldnaaGreatC25
import Derived.Test.YtkfllaokjaldnaaGreatC24
import Derived.Test.YtkfllaokjaldnaaGreatC22
import Derived.Test.YtkfllaokjaldnaaGreatC20
import Derived.Test.YtkfllaokjaldnaaGreatC23
import Derived.Test.YtkfllaokjaldnaaGreatC15
import Derived.Test.YtkfllaokjaldnaaGreatC11
/-
  Part of the proof (texts SShp, BClo, BChk, LDom, DNeed, DTab, DRound, SMoreP, DOkc, DRun, BDel, BRows, BRun, SMoreQ, SLMore).
-/
set_option linter.unusedVariables false
set_option linter.unusedSimpArgs false
namespace Go.Vw
open Go.Proofs Go.RowKit
theorem OwL.cell {T:Store} {us:List Ty} {cs zs:List V} {ii:List Nat} {u v:V} (h:OwL T us cs zs ii) (hu:u.closed1=true) (hv:v.closed1=true) : ∀ {q:Nat},cs[q]? = some u → ∃ zs',OwL T us (cs.set q v) zs' ii:=by
 induction h with
 | nil=>intro q hq; simp at hq
 | c hx tt ihh =>
  intro q hq
  cases q with
  | zero=>exact ⟨_, .c hv tt⟩
  | succ q =>
   obtain ⟨zs',h2⟩:=ihh (q:=q) (by simpa using hq);exact ⟨_, .c hx h2⟩
 | s ho2 hs2 d2 t2 _ ihh =>
  intro q hq
  cases q with
  | zero =>
   simp only [List.getElem?_cons_zero,Option.some.injEq] at hq;rw [←hq] at hu; simp [V.closed1] at hu
  | succ q =>
   obtain ⟨zs',h2⟩:=ihh (q:=q) (by simpa using hq);exact ⟨_, .s ho2 hs2 d2 h2⟩
def At (T:Store) (o p:Nat) (w:V):Prop := ∃ s cs,T.get o=some (s,cs)∧cs[p]? = some w
inductive Lim:V→Prop
 | c {x:V} (h : ∀ ys,x ≠ .list ys):Lim x
 | l {ys:List V} (h:ys.length≤140737488355328) (k : ∀ y∈ys, ∀ z∈y.cells,Lim z):Lim (.list ys)
def LimO (T:Store) (ids:List Nat):Prop := ∀ o∈ids, ∀ w cs,T.get o=some (w,cs)→cs.length≤140737488355328*w
theorem OwL.lim {T:Store} {us:List Ty} {cs zs:List V} {ii:List Nat} (h:OwL T us cs zs ii):(∀ z∈zs,Lim z)→LimO T ii:=by
 induction h with
 | nil=>intro _ o ho; simp at ho
 | c _ _ ih=>exact fun hz=>ih fun z hz'=>hz z (by simp [hz'])
 | @s tys ts rs xs cells ys i j o ho hs d t ihd iht =>
  intro hz;have h1:Lim (.list ys):=hz _ (by simp)
  cases h1 with
  | c h=>exact absurd rfl (h ys)
  | l hl hk =>
   intro o' ho' w cs hg;rcases List.mem_cons.1 ho' with rfl | h2
   ·rw [ho] at hg
    cases hg
    rw [d.len.1,JE];exact Nat.mul_le_mul_right _ hl
   ·rcases List.mem_append.1 h2 with h2 | h2
    ·refine ihd (fun z hz' => ?_) o' h2 w cs hg;obtain ⟨y,hy,hzy⟩:=List.mem_flatMap.1 hz';exact hk y hy z hzy
    ·exact iht (fun z hz'=>hz z (by simp [hz'])) o' h2 w cs hg
structure Shp (S T0:Store) (ob n:Nat) (ids:List Nat) (T1:Store):Prop where
 nx:T1.nx=T0.nx
 wf:T1.Wf
 old : ∀ o,o<S.nx→T1.get o=S.get o
 own : ∃ cells xs,T1.get ob=some (6,cells)∧OwL T1 (reps n blkD) cells xs ids
 lim:LimO T1 ids
theorem insD_inv {T:Store} {r x:List V} {ii:List Nat} (h:OwL T insD r x ii) : ∃ (u v:V) (oa na ou nu:Nat) (ca:List V),r=[u,v, .slice oa 0 na, .slice ou 0 nu]∧u.closed1=true∧oa∈ii∧T.get oa=some (1,ca)∧ca.length=na ∧ ∀ c∈ca,c.closed1=true:=by
 cases h with
 | c h1 h=>cases h with
  | c h2 h=>cases h with
   | @s _ _ _ _ ca ys i j oa ho hs d h=>cases h with
    | s ho2 hs2 d2 h=>cases h with
     | nil =>
      have hl:ca.length=ys.length:=by rw [d.len.1,JE]; simp
      have e:=Jo (n:=ys.length*1) (by rw [←jaZ]; exact d);exact ⟨_,_,oa,_,_,_,ca,rfl,h1,by simp,ho,hl,by rw [e.1]; exact d.closed⟩
theorem edgeD_inv {T:Store} {r x:List V} {ii:List Nat} (h:OwL T KS r x ii) : ∃ (u:V) (oa na:Nat),r=[u, .slice oa 0 na]∧u.closed1=true:=by
 cases h with
 | c h1 h=>cases h with
  | s ho hs d h=>cases h with
   | nil=>exact ⟨_,_,_,rfl,h1⟩
theorem blkD_inv {T:Store} {r x:List V} {ii:List Nat} (h:OwL T blkD r x ii) : ∃ (op np oc nc oe ne:Nat) (u a z:V) (cc ce xi xe:List V) (ci ei:List Nat),r=[.slice op 0 np, .slice oc 0 nc,u,a, .slice oe 0 ne,z]∧u.closed1=true∧oc∈ii∧T.get oc=some (4,cc)∧OwL T (reps nc insD) cc xi ci∧(∀ o∈ci,o∈ii) ∧
  oe∈ii∧T.get oe=some (2,ce)∧OwL T (reps ne KS) ce xe ei:=by
 cases h with
 | s ho hs d h=>cases h with
  | s ho2 hs2 d2 h=>cases h with
   | c h1 h=>cases h with
    | c h2 h=>cases h with
     | s ho3 hs3 d3 h=>cases h with
      | c h3 h=>cases h with
       | nil=>exact ⟨_,_,_,_,_,_,_,_,_,_,_,_,_,_,_,rfl,h1,by simp,ho2,d2,fun o ho=>by simp [ho],by simp,ho3,d3⟩
theorem Yr {c1 r c2:List V} {i m p:Nat} {w:V} (hc:c1.length=i*m) (hr:r[p]? = some w):(c1++(r++c2))[i*m+p]? = some w:=by
 have hp:p<r.length:=(List.getElem?_eq_some_iff.1 hr).1;rw [←hc,List.getElem?_append_right (by omega),Nat.add_sub_cancel_left,List.getElem?_append_left hp];exact hr
theorem Shp.block {S T0 T1:Store} {ob n k:Nat} {ids:List Nat} (h:Shp S T0 ob n ids T1) (hk:k<n) : ∃ (cells:List V) (oc nc oe ne:Nat) (u:V) (cc ce:List V),T1.get ob=some (6,cells)∧cells[k*6+1]? = some (.slice oc 0 nc)∧cells[k*6+2]? = some u∧u.closed1=true∧cells[k*6+4]? = some (.slice oe 0 ne) ∧
  oc∈ids∧T1.get oc=some (4,cc)∧oe∈ids∧T1.get oe=some (2,ce)∧nc≤140737488355328∧ne≤140737488355328∧(∀ j<nc, ∃ (u:V) (oa na:Nat) (ca:List V),cc[j*4]? = some u∧u.closed1=true∧cc[j*4+2]? = some (.slice oa 0 na)∧oa∈ids∧T1.get oa=some (1,ca)∧ca.length=na∧na≤140737488355328 ∧ ∀ c∈ca,c.closed1=true) ∧ ∀ q<ne, ∃ u:V,ce[q*2]? = some u∧u.closed1=true:=by
 obtain ⟨cells,xs,h4,h5⟩:=h.own;obtain ⟨c1,r,c2,x1,x,x2,i1,ii,i2,rfl,hl,rfl,rfl,k1,k2,k3⟩:=h5.elem hk;obtain ⟨op,np,oc,nc,oe,ne,u,a,z,cc,ce,xi,xe,ci,ei,rfl,hu,hoc,hcc,hci,hcs,hoe,hce,hei⟩:=blkD_inv k2;refine ⟨_,oc,nc,oe,ne,u,cc,ce,h4,Yr (m:=6) (p:=1) hl rfl,Yr (m:=6) (p:=2) hl rfl,hu,Yr (m:=6) (p:=4) hl rfl,by simp [hoc],hcc,by simp [hoe],hce, ?_, ?_,fun j hj => ?_,fun q hq => ?_⟩
 ·have h8:=h.lim oc (by simp [hoc]) _ _ hcc;have h9:cc.length=nc*4:=by rw [hci.len.1,JE]; rfl
  omega
 ·have h8:=h.lim oe (by simp [hoe]) _ _ hce;have h9:ce.length=ne*2:=by rw [hei.len.1,JE]; rfl
  omega
 ·obtain ⟨d1,s,d2,y1,y,y2,j1,jj,j2,rfl,hl2,rfl,rfl,m1,m2,m3⟩:=hci.elem hj;obtain ⟨u',v',oa,na,ou,nu,ca,rfl,hu',hoa,hca,hcl,hcc'⟩:=insD_inv m2;exact ⟨u',oa,na,ca,by have:=Yr (m:=4) (p:=0) (c2:=d2) hl2 (r:=[u',v', .slice oa 0 na, .slice ou 0 nu]) rfl; simpa using this,hu',Yr (m:=4) (p:=2) hl2 rfl,by have:=hcs oa (by simp [hoa]); simp [this],hca,hcl,by have:=h.lim oa (by have:=hcs oa (by simp [hoa]); simp [this]) _ _ hca; omega,hcc'⟩
 ·obtain ⟨d1,s,d2,y1,y,y2,j1,jj,j2,rfl,hl2,rfl,rfl,m1,m2,m3⟩:=hei.elem hq;obtain ⟨u',oa,na,rfl,hu'⟩:=edgeD_inv m2;exact ⟨u',by have:=Yr (m:=2) (p:=0) (c2:=d2) hl2 (r:=[u', .slice oa 0 na]) rfl; simpa using this,hu'⟩
theorem At.same {T:Store} {o p s:Nat} {cs:List V} {w w':V} (h:At T o p w) (hg:T.get o=some (s,cs)) (hw:cs[p]? = some w'):w'=w:=by
 obtain ⟨s1,cs1,h1,h2⟩:=h;rw [hg] at h1
 cases h1
 rw [hw] at h2;exact Option.some.inj h2
end Go.Vw

namespace Ss
open Go.Vw.G
def UpEnds (near:List Int):Nat→Int→Prop
 | 0,b=>b<0
 | k+1,b=>b<0∨(okIx near b∧UpEnds near k (near.getD b.toNat 0))
end Ss
namespace Go.Vw
open Go.Proofs Go.RowKit
set_option maxRecDepth 10000
set_option maxHeartbeats 2000000
def encFar (M:Ss.Far):List V:=M.map fun e => .tuple [.agg [.int .i64 e.1.1, .int .i64 e.1.2], .int .u64 e.2]
end Go.Vw

namespace Ss
open Go.Vw Go.Vw.G
theorem eqF_len {α:Type} {p:α→α→Bool} : ∀ {l m:List α},eqF p l m=true→l.length=m.length
 | [],[],_=>rfl
 | [],_::_,h=>by simp [eqF] at h
 | _::_,[],h=>by simp [eqF] at h
 | x::l,y::m,h=>by
  have:eqF p l m=true:=by
   simp only [eqF,Bool.and_eq_true] at h
   first | exact h.2 | exact h.2.2
  simp [eqF_len this]
theorem ends_of {g:List (List Nat)} (hg:Ok g) {near:List Int} (hN:NearOk g near) : ∀ (k:Nat) (b:Nat),b∈order g→rk g (order g) b<k→UpEnds near k b
 | 0,b,_,h=>by omega
 | k+1,b,hb,h=>by
  have ho:=order_ok hg;have hbl:=ho.lt b hb;have hok:okIx near (b:Int):=⟨by omega,by rw [hN.len]; omega⟩
  refine .inr ⟨hok, ?_⟩;rw [Int.toNat_natCast]
  by_cases hb0:b=0
  ·subst hb0;have:near.getD 0 0 = -1:=hN.zero;rw [this]
   cases k with
   | zero=>show (-1:Int)<0; omega
   | succ k=>exact .inl (by omega)
  ·obtain ⟨p,q1,q2,q3,q4,q5⟩:=hN.near b hb hb0;have hnd:near.getD b 0=(p:Int):=q1;rw [hnd];have hr:=q4.rk ho q2 hb q3;exact ends_of hg hN k p q2 (by omega)
structure Graphic (f:Fn):Prop where
 ok:Ok (nats (succs f.blocks))
 right:G.right (succs f.blocks)=true
 ord:G.ordI (succs f.blocks)=order (nats (succs f.blocks))
 near:G.nearI (succs f.blocks)=rNear (nats (succs f.blocks))
 len:(order (nats (succs f.blocks))).length=f.blocks.length
 lt : ∀ n∈order (nats (succs f.blocks)),n<f.blocks.length
 nlen:(rNear (nats (succs f.blocks))).length=f.blocks.length
 ends : ∀ n∈order (nats (succs f.blocks)),UpEnds (rNear (nats (succs f.blocks))) 256 n
 blocks:f.blocks.length≤256
theorem nats_succs_len (bs:List Block):(nats (succs bs)).length=bs.length:=by rw [nats_length,succs,List.length_map]
theorem graphic {e:Env} {f:Fn} (h:check e f=true):Graphic f:=by
 obtain ⟨h1,ds,hds,hsh,hB⟩:=zq h;have hr:G.right (succs f.blocks)=true:=by
  unfold shapeOk at hsh;simp only [Bool.and_eq_true] at hsh;exact hsh.1.1.1.1
 have hol:(G.ordI (succs f.blocks)).length=f.blocks.length:=by
  unfold shapeOk at hsh;simp only [Bool.and_eq_true,decide_eq_true_eq] at hsh;exact hsh.1.1.1.2
 have hok:=right_ok hr;have e1:G.ordI (succs f.blocks)=order (nats (succs f.blocks)):=by simp [G.ordI,hr]
 have e2:G.nearI (succs f.blocks)=rNear (nats (succs f.blocks)):=by simp [G.nearI,hr]
 have hN:=rNear_ok hok;have ho:=order_ok hok;have hl:=nats_succs_len f.blocks;rw [e1] at hol;have hmx:=hok.max;rw [hl] at hmx;exact ⟨hok,hr,e1,e2,hol,fun n hn=>by rw [←hl]; exact ho.lt n hn,by rw [hN.len,hl],fun n hn=>ends_of hok hN 256 n hn (by have:=rk_lt ho hn; omega),hmx⟩
theorem check_small {e:Env} {f:Fn} (h:check e f=true):f.small=true:=by
 have:=(zq h).1;unfold checkHead at this;simp only [Bool.and_eq_true] at this;exact this.1.1.1.1.2
end Ss

namespace Go.Vw.G
open Go.Vw
section
variable {g:List (List Nat)} {l:List Nat} {hd p:Nat} {nodes:List Nat}
theorem porch_dom (hpred : ∀ n∈nodes,n≠hd → ∀ q,n∈g.getD q []→q∈nodes) (hp : ∀ j,j∉nodes→hd∈g.getD j []→j=p) (h0:0∉nodes) : ∀ n∈nodes,Dom g l p n:=by
 intro n hn k hw;have step : ∀ {a n:Nat},n∈g.getD a []→n∈nodes→a≠p→(a∈nodes→False)→False:=fun {a n} he hn hap ih=>by
  by_cases e:n=hd
  ·subst e
   by_cases ha:a∈nodes
   ·exact ih ha
   ·exact hap (hp a ha he)
  ·exact ih (hpred n hn e a he)
 induction hw with
 | start k h=>exact h0 hn
 | on ha he hr hy ih=>exact step he hn ha.ne ih
 | back ha he hy ih=>exact step he hn ha.ne ih
theorem out_dom (hpred : ∀ n∈nodes,n≠hd → ∀ q,n∈g.getD q []→q∈nodes) (hhd:hd∈nodes) (hpe:hd∈g.getD p []) (h0:0∉nodes) {h n:Nat} (hh:h∉nodes) (hn:n∈nodes) (hr:R g n) (hdom:Dom g l h n):Dom g l h p:=by
 intro k hw;have hwh:Way g l h (k+1) hd := .back hw hpe fun e=>hh (e▸hhd)
 have key : ∀ m,R g m→m∈nodes → ∃ k,Way g l h k m:=by
  intro m hm
  induction hm with
  | start _=>exact fun h=>absurd h h0
  | @step a m ha he _ ih =>
   intro hmn
   by_cases e:m=hd
   ·subst e; exact ⟨_,hwh⟩
   ·obtain ⟨k',hk⟩:=ih (hpred m hmn e a he);exact ⟨k'+1, .back hk he fun e2=>hh (e2▸hmn)⟩
 obtain ⟨k',hk⟩:=key n hr hn;exact hdom k' hk
end
theorem Wi {near:List Int} {fr:List (List Nat)} {N:Nat} : ∀ k, ∀ x∈loopsTo near fr N k, ∃ t,t∈fr.getD x.1 []
 | 0,x,hx=>by simp [loopsTo] at hx
 | h+1,x,hx=>by
  simp only [loopsTo] at hx;split at hx
  ·exact Wi h x hx
  ·rename_i hc;rcases List.mem_append.1 hx with hx | hx
   ·exact Wi h x hx
   ·rw [List.mem_singleton] at hx;subst hx
    cases hb:backs near h (fr.getD h []) with
    | nil=>exact absurd (.inr hb) hc
    | cons t r =>
     have:t∈backs near h (fr.getD h []):=by rw [hb]; simp
     exact ⟨t,(List.mem_filter.1 this).1⟩
theorem loop_not0 {g:List (List Nat)} (hg:Ok g) (hz : ∀ q,0∉g.getD q []) {x:Nat × List Nat} (hx:x∈loopsTo (rNear g) (froms g) g.length g.length):0∉x.2:=by
 intro h0;have ho:=order_ok hg;obtain ⟨q1,q2,q3,q4,q5⟩:=heads hg g.length (Nat.le_refl _) x hx;have h1:=q4 0 h0 ((without_none hg 0).2 (YY ho));have hx0:x.1=0:=by
  rcases (zP hg (rNear_ok hg) q1 hg.pos).1 h1 with h | h
  ·by_cases e:x.1=0
   ·exact e
   ·exact absurd (Way.start 0 (Ne.symm e)) (h.2.2 0)
  ·exact h
 obtain ⟨t,ht⟩:=Wi g.length x hx;rw [hx0] at ht;exact hz t ((mem_froms hg 0 t hg.pos).1 ht).2
theorem picked_lt (inn:List Bool) : ∀ k, ∀ x∈picked inn k,x<k
 | 0,x,h=>by simp [picked] at h
 | k+1,x,h=>by
  have ih:=picked_lt inn k;simp only [picked] at h;split at h
  ·rcases List.mem_append.1 h with h | h
   ·have:=ih x h; omega
   ·rw [List.mem_singleton] at h; omega
  ·have:=ih x h; omega
theorem WC (inn:List Bool) : ∀ k,(picked inn k).Pairwise (· < ·)
 | 0=>by simp [picked]
 | k+1=>by
  have ih:=WC inn k;simp only [picked];split
  ·refine List.pairwise_append.2 ⟨ih,by simp,fun a ha b hb => ?_⟩;rw [List.mem_singleton] at hb;have:=picked_lt inn k a ha; omega
  ·exact ih
theorem loops_sorted {near:List Int} {fr:List (List Nat)} {N:Nat} : ∀ k, ∀ x∈loopsTo near fr N k,x.2.Pairwise (· < ·)
 | 0,x,hx=>by simp [loopsTo] at hx
 | h+1,x,hx=>by
  simp only [loopsTo] at hx;split at hx
  ·exact loops_sorted h x hx
  ·rcases List.mem_append.1 hx with hx | hx
   ·exact loops_sorted h x hx
   ·rw [List.mem_singleton] at hx;subst hx;exact WC _ _
end Go.Vw.G

namespace Ss
abbrev on (need:List Bool) (v:Int):Bool:=need.getD v.toNat false
def dfs (asks:List (List Int)):Nat→List Bool→List Int→List Bool
 | 0,need,_=>need
 | _+1,need,[]=>need
 | n+1,need,v::r=>if on need v then dfs asks (n+1) need r else dfs asks (n+1) (dfs asks n (need.set v.toNat true) (asks.getD v.toNat [])) r
termination_by n _ l=>(n,l.length)
def off (need:List Bool):Nat:=need.countP fun b => !b
structure Marks (asks:List (List Int)) (need:List Bool) (l:List Int) (R:List Bool):Prop where
 len:R.length=need.length
 mono : ∀ i:Nat,need[i]? = some true→R[i]? = some true
 all : ∀ v∈l,on R v=true
 shut : ∀ i:Nat,R[i]? = some true→need[i]? = some true ∨ ∀ u∈asks.getD i [],on R u=true
 least : ∀ P:Nat→Prop,(∀ i:Nat,need[i]? = some true→P i)→(∀ v∈l,P v.toNat)→(∀ i:Nat,P i → ∀ u∈asks.getD i [],P u.toNat) → ∀ i:Nat,R[i]? = some true→P i
end Ss

namespace Ss
def InR (n:Nat) (v:Int):Prop:=0≤v∧v<n
structure DOk (f:Fn):Prop where
 ne:f.blocks≠[]
 outs : ∀ b∈f.blocks, ∀ x∈b.code, ∀ v∈x.outs,InR f.types.length v
 one : ∀ b∈f.blocks, ∀ x∈b.code,pure x.op=true → ∃ o,x.outs=[o]
 args : ∀ b∈f.blocks, ∀ x∈b.code, ∀ v∈x.args,InR f.types.length v
 pars : ∀ b∈f.blocks, ∀ v∈b.params,InR f.types.length v
 targs : ∀ b∈f.blocks, ∀ v∈b.term.args,InR f.types.length v
 targ : ∀ b∈f.blocks,branches b.term=true→InR f.types.length b.term.arg
 eargs : ∀ b∈f.blocks, ∀ e∈b.term.to, ∀ v∈e.args,InR f.types.length v
 etos : ∀ b∈f.blocks, ∀ e∈b.term.to,0≤e.to∧e.to<f.blocks.length∧e.args.length=(f.blocks.getD e.to.toNat default).params.length
 u1 : ∀ b∈f.blocks, ∀ c∈f.blocks, ∀ x∈b.code, ∀ y∈c.code,pure x.op=true→pure y.op=true→x.outs=y.outs→x.args=y.args
 u2 : ∀ b∈f.blocks, ∀ c∈f.blocks, ∀ p∈b.params, ∀ y∈c.code,p∉y.outs
def askIns (t:List (List Int)) (x:Ins):List (List Int):=if pure x.op then t.set (x.outs.getD 0 0).toNat x.args else t
def askPar (t:List (List Int)) (q:Int × Int):List (List Int):=t.set q.1.toNat (t.getD q.1.toNat []++[q.2])
def askEdge (bs:List Block) (t:List (List Int)) (e:Edge):List (List Int):=((bs.getD e.to.toNat default).params.zip e.args).foldl askPar t
def askBlock (bs:List Block) (t:List (List Int)) (b:Block):List (List Int):=b.term.to.foldl (askEdge bs) (b.code.foldl askIns t)
def askTab (f:Fn):List (List Int):=f.blocks.foldl (askBlock f.blocks) (List.replicate f.types.length [])
def Asks (f:Fn) (v u:Int):Prop:=(∃ b∈f.blocks, ∃ x∈b.code,pure x.op=true∧x.outs=[v]∧u∈x.args) ∨ ∃ b∈f.blocks, ∃ e∈b.term.to,(v,u)∈(f.blocks.getD e.to.toNat default).params.zip e.args
end Ss

namespace Ss
def marks (need:List Bool) (l:List Int):List Bool:=l.foldl (fun o v=>o.set v.toNat true) need
def rIns (o:List Bool) (x:Ins):List Bool:=if pure x.op then (if on o (x.outs.getD 0 0) then marks o x.args else o) else marks (marks o x.outs) x.args
def rPar (o:List Bool) (q:Int × Int):List Bool:=if on o q.1 then o.set q.2.toNat true else o
def rEdge (bs:List Block) (o:List Bool) (e:Edge):List Bool:=((bs.getD e.to.toNat default).params.zip e.args).foldl rPar o
def rTerm (o:List Bool) (t:Term):List Bool:=if branches t then (marks o t.args).set t.arg.toNat true else marks o t.args
def rBlock (bs:List Block) (o:List Bool) (b:Block):List Bool:=b.term.to.foldl (rEdge bs) (rTerm (b.code.foldl rIns o) b.term)
def rRound (f:Fn) (o:List Bool):List Bool:=f.blocks.foldl (rBlock f.blocks) o
def rTurns (f:Fn):Nat→List Bool→List Bool
 | 0,o=>o
 | k+1,o=>if rRound f o=o then o else rTurns f k (rRound f o)
def Inc (a b:List Bool):Prop:=a.length=b.length ∧ ∀ i:Nat,a[i]? = some true→b[i]? = some true
theorem Inc.refl (a:List Bool):Inc a a:=⟨rfl,fun _ h=>h⟩
theorem Inc.trans {a b c:List Bool} (h:Inc a b) (k:Inc b c):Inc a c:=⟨h.1.trans k.1,fun i hi=>k.2 i (h.2 i hi)⟩
def rootsB (b:Block):List Int:=(b.code.flatMap fun x=>if pure x.op then [] else x.args++x.outs)++(b.term.args++if branches b.term then [b.term.arg] else [])
def roots (f:Fn):List Int:=(f.blocks.getD 0 default).params++f.blocks.flatMap rootsB
end Ss

namespace Ss
/-! ### An instruction more -/
def moreX (ts:List Int) (b:Block):Ins:=b.params.foldl (fun (x:Ins) (p:Int)=>if 0≤p∧p<(ts.length:Int)∧ts.getD p.toNat 0=126 then ⟨124,0,[p,p],[(ts.length:Int)]⟩ else x) ⟨256,9,[],[(ts.length:Int)]⟩
def addB (b:Block) (x:Ins):Block:=⟨b.params,b.code++[x],b.term⟩
def more (f:Fn) (j:Nat):Fn:=⟨f.sig,f.types++[126],f.blocks.set j (addB (f.blocks.getD j default) (moreX f.types (f.blocks.getD j default)))⟩
theorem putCode_len' {i:Int} : ∀ {l:List Ins} {k:Nat} {ds d:List Def},putCode i k ds l=some d→d.length=ds.length:=fun h=>(Yl h).1
theorem qh : ∀ {l:List Block} {i:Nat} {ds d:List Def},putBlocks i ds l=some d → ∀ (j:Nat) (b:Block),l[j]? = some b → ∀ v∈b.params,dAt d v=⟨true,((i+j:Nat):Int), -1⟩
 | [],i,ds,d,h=>by simp
 | b::l,i,ds,d,h=>by
  simp only [putBlocks] at h;obtain ⟨d2,h1,h2⟩:=Option.bind_eq_some_iff.1 h;obtain ⟨d1,h3,h4⟩:=Option.bind_eq_some_iff.1 h1;obtain ⟨p1,q1⟩:=KL h3;obtain ⟨p2,_⟩:=JG h4;obtain ⟨p3,_⟩:=JL h2;intro j y hj v hv
  cases j with
  | zero =>
   simp only [List.getElem?_cons_zero,Option.some.injEq] at hj;subst hj;have n2:v∉zV b.code:=fun hm=>by
    have:=p2.new v hm;rw [p1.made v hv] at this; cases this
   have e2:dAt d2 v=dAt d1 v:=p2.keep v (p1.pos v hv) n2;have n3:v∉allL l:=fun hm=>by
    have:=p3.new v hm;rw [e2,p1.made v hv] at this; cases this
   rw [p3.keep v (p1.pos v hv) n3,e2,q1 v hv]; simp
  | succ j =>
   have:=qh h2 j y (by simpa using hj) v hv;rw [this]; congr 2; omega
theorem Zj {α:Type} {p q:α→α→Bool} : ∀ {l m:List α},(∀ x∈l, ∀ y,p x y=true→q x y=true)→Go.Vw.eqF p l m=true→Go.Vw.eqF q l m=true
 | [],[],_,_=>rfl
 | [],_::_,_,h=>by simp [Go.Vw.eqF] at h
 | _::_,[],_,h=>by simp [Go.Vw.eqF] at h
 | a::l,b::m,hp,h=>by
  simp only [Go.Vw.eqF,Bool.and_eq_true] at h ⊢;exact ⟨hp a (by simp) b h.1,Zj (fun x hx=>hp x (by simp [hx])) h.2⟩
end Ss

namespace Ss
theorem total_one {e:Env} {op n out:Int} (h:total op=true) : ∃ t,(form e op n out).outs=[t]:=by
 have h1:op≠258:=fun e=>by subst e; revert h; decide
 have h2:op≠16:=fun e=>by subst e; revert h; decide
 have h3:op≠35:=fun e=>by subst e; revert h; decide
 have h4:op≠36:=fun e=>by subst e; revert h; decide
 have h5:op≠256:=fun e=>by subst e; revert h; decide
 have h6:op≠27:=fun e=>by subst e; revert h; decide
 have e0:form e op n out=formNum e op:=by simp [form,h1,h2,h3,h4,h5,h6]
 rw [e0];unfold total at h;unfold formNum numSig
 cases hf:find op with
 | none=>rw [hf] at h; simp at h
 | some g=>exact ⟨_,rfl⟩
theorem pure_one {e:Env} {op n out:Int} (h:pure op=true) : ∃ t,(form e op n out).outs=[t]:=by
 simp only [pure,Bool.or_eq_true,decide_eq_true_eq] at h;rcases h with (rfl | rfl) | h
 ·by_cases ho:out=127<;>simp [form,ho]
 ·simp [form]
 ·exact total_one h
theorem jcj {ts:List Int} {ds:List Def} {near:List Int} {block pos:Int} {l types:List Int} (h:asks ts ds near block pos l types=true) {v:Int} (hv:v∈l):InR ds.length v:=by
 obtain ⟨t,ht⟩:=jcb h v hv;simp only [askOk,Bool.and_eq_true,decide_eq_true_eq] at ht;exact ⟨ht.1.1.1.1,ht.1.1.1.2⟩
theorem check_dok {e:Env} {f:Fn} (h:check e f=true):DOk f:=by
 obtain ⟨hh,ds,hds,hsh,hB⟩:=zq h;obtain ⟨hlen,hin⟩:=defs_in hds;obtain ⟨hnd,hmade,hat⟩:=Je hds;have hpar:=qh hds;have hr:Go.Vw.G.right (succs f.blocks)=true:=by
  simp only [shapeOk,Bool.and_eq_true] at hsh;exact hsh.1.1.1.1
 have hto:=right_to hr;have hblk : ∀ b∈f.blocks, ∃ j:Nat,f.blocks[j]? = some b∧checkCode e f ds (Go.Vw.G.nearI (succs f.blocks)) (j:Int) 0 b.code=true∧termOk f ds (Go.Vw.G.nearI (succs f.blocks)) (j:Int) b=true:=fun b hb=>by
  obtain ⟨j,hj⟩:=List.mem_iff_getElem?.1 hb;have:=qO hB hj;rw [Nat.zero_add] at this;exact ⟨j,hj,this⟩
 have hins : ∀ b∈f.blocks, ∀ x∈b.code, ∃ j k:Nat,f.blocks[j]? = some b∧b.code[k]? = some x∧insOk e f ds (Go.Vw.G.nearI (succs f.blocks)) (j:Int) (k:Int) x=true:=fun b hb x hx=>by
  obtain ⟨j,hj,hc,_⟩:=hblk b hb;obtain ⟨k,hk⟩:=List.mem_iff_getElem?.1 hx;have:=zH hc hk;rw [Nat.zero_add] at this;exact ⟨j,k,hj,hk,this⟩
 have hterm : ∀ b∈f.blocks, ∃ (j:Int) (le mo:Nat) (rs:List Int),termTail f ds (Go.Vw.G.nearI (succs f.blocks)) j b.code.length b.term le mo rs=true:=fun b hb=>by
  obtain ⟨j,hj,_,ht⟩:=hblk b hb;unfold termOk at ht;split at ht
  ·exact ⟨_,_,_,_,ht⟩
  ·cases ht
 have hone : ∀ b∈f.blocks, ∀ x∈b.code,pure x.op=true → ∃ o,x.outs=[o]:=fun b hb x hx hp=>by
  obtain ⟨j,k,_,_,hi⟩:=hins b hb x hx;simp only [insOk,Bool.and_eq_true,decide_eq_true_eq] at hi;obtain ⟨t,ht⟩:=pure_one (e:=e) (n:=x.n) (out:=insOut f.types x) hp;have h1:=hi.1.2;rw [ht] at h1;have h2:=congrArg List.length h1;simp only [typesOf,List.length_map,List.length_singleton] at h2;exact List.length_eq_one_iff.1 h2
 refine ⟨fun hb => ?_,fun b hb x hx v hv=>(hin b hb).2 x hx v hv,hone,fun b hb x hx v hv => ?_,fun b hb v hv=>(hin b hb).1 v hv,fun b hb v hv => ?_,fun b hb hk => ?_,fun b hb x hx v hv => ?_,fun b hb x hx => ?_,fun b hb c hc x hx y hy hp hq he => ?_,fun b hb c hc p hp y hy hm => ?_⟩
 ·simp only [shapeOk,Bool.and_eq_true] at hsh;have:=hsh.2;rw [hb] at this
  cases this
 ·obtain ⟨j,k,_,_,hi⟩:=hins b hb x hx;have:=jcj (insOk_asks hi) hv
  rwa [hlen] at this
 ·obtain ⟨j,le,mo,rs,ht⟩:=hterm b hb;simp only [termTail,Bool.and_eq_true] at ht;have:=jcj ht.1.2 hv
  rwa [hlen] at this
 ·obtain ⟨j,le,mo,rs,ht⟩:=hterm b hb;simp only [termTail,Bool.and_eq_true] at ht;have h1:=ht.1.1.1.1;rw [if_pos hk] at h1;have:=jcj h1 (v:=b.term.arg) (by simp)
  rwa [hlen] at this
 ·obtain ⟨j,le,mo,rs,ht⟩:=hterm b hb;simp only [termTail,Bool.and_eq_true,List.all_eq_true] at ht;have h1:=ht.2 x hx;simp only [edgeOk,Bool.and_eq_true] at h1;have:=jcj h1.2 hv
  rwa [hlen] at this
 ·obtain ⟨j,le,mo,rs,ht⟩:=hterm b hb;simp only [termTail,Bool.and_eq_true,List.all_eq_true] at ht;have h1:=ht.2 x hx;simp only [edgeOk,Bool.and_eq_true] at h1;have h2:=eqF_len h1.2;simp only [typesOf,List.length_map] at h2;exact ⟨(hto b hb x hx).1,(hto b hb x hx).2,h2⟩
 ·obtain ⟨o,ho⟩:=hone b hb x hx hp;obtain ⟨j,k,hj,hk,_⟩:=hins b hb x hx;obtain ⟨j',k',hj',hk',_⟩:=hins c hc y hy;have a1:=hat j b hj k x hk o (by simp [ho]);have a2:=hat j' c hj' k' y hk' o (by simp [←he,ho]);rw [a1] at a2;simp only [Def.mk.injEq,true_and] at a2;have e1:j=j':=by omega
  have e2:k=k':=by omega
  subst e1;subst e2;rw [hj] at hj'
  cases hj'
  rw [hk] at hk'
  cases hk'
  rfl
 ·obtain ⟨j,hj⟩:=List.mem_iff_getElem?.1 hb;obtain ⟨j',k',hj',hk',_⟩:=hins c hc y hy;have a1:=hpar j b hj p hp;have a2:=hat j' c hj' k' y hk' p hm;rw [a1] at a2;simp only [Def.mk.injEq,true_and] at a2;omega
end Ss

namespace Ss
def dNeed (f:Fn):List Bool:=dfs (askTab f) (f.types.length+1) (List.replicate f.types.length false) (roots f)
def dKeep (need:List Bool) (x:Ins):Bool := !pure x.op||on need (x.outs.getD 0 0)
def dEdge (need:List Bool) (bs:List Block) (e:Edge):Edge:=⟨e.to,(((bs.getD e.to.toNat default).params.zip e.args).filter fun q=>on need q.1).map Prod.snd⟩
def dBlock (need:List Bool) (bs:List Block) (b:Block):Block:=⟨b.params.filter (on need),b.code.filter (dKeep need),⟨b.term.kind,b.term.arg,b.term.to.map (dEdge need bs),b.term.args⟩⟩
def dceF (f:Fn):Fn:=⟨f.sig,f.types,f.blocks.map (dBlock (dNeed f) f.blocks)⟩
def dceOut (e:Env) (f:Fn):Fn × Int:=if check e f then (dceF f,0) else (⟨⟨[],[]⟩,[],[]⟩,6)
end Ss

namespace Go.Vw
open Go.Proofs Go.RowKit
set_option maxRecDepth 10000
set_option maxHeartbeats 2000000
def idxG {α ρ:Type} (p:α→ρ→Bool) (nx:α→ρ→α):α→List ρ→Nat→Int × α
 | a,[],_=>(-1,a)
 | a,r::rs,k=>if p a r then ((k:Int),nx a r) else idxG p nx (nx a r) rs (k+1)
def delG {α ρ:Type} (p:α→ρ→Bool) (nx:α→ρ→α):α→List ρ→List ρ × α
 | a,[]=>([],a)
 | a,r::rs=>if p a r then delG p nx (nx a r) rs else (r::(delG p nx (nx a r) rs).1,(delG p nx (nx a r) rs).2)
theorem zn {m:Nat} : ∀ {rows:List (List V)},(∀ r∈rows,r.length=m)→rows.flatten.length=rows.length*m
 | [],_=>by simp
 | r::rs,h=>by rw [List.flatten_cons,List.length_append,h r (by simp),zn fun x hx=>h x (by simp [hx]),List.length_cons,Nat.succ_mul]; omega
theorem flat_take {m:Nat} : ∀ {rows:List (List V)} (k:Nat),(∀ r∈rows,r.length=m)→rows.flatten.take (k*m)=(rows.take k).flatten
 | [],k,_=>by simp
 | r::rs,0,h=>by simp
 | r::rs,k+1,h=>by
  have hr:=h r (by simp);rw [List.flatten_cons,List.take_succ_cons,List.flatten_cons, ←flat_take k fun x hx=>h x (by simp [hx]),Nat.succ_mul,List.take_append,hr];rw [show k*m+m-m=k*m by omega,List.take_of_length_le (by rw [hr]; omega)]
theorem flat_drop {m:Nat} {rows:List (List V)} (k:Nat) (h : ∀ r∈rows,r.length=m):rows.flatten.drop (k*m)=(rows.drop k).flatten:=by
 have e:=List.take_append_drop (k*m) rows.flatten;have e2:rows.flatten=(rows.take k).flatten++(rows.drop k).flatten:=by rw [←List.flatten_append,List.take_append_drop]
 rw [flat_take k h] at e;exact List.append_cancel_left (e.trans e2)
theorem WK {m:Nat} {rows:List (List V)} {k:Nat} (h : ∀ r∈rows,r.length=m) (hk:k<rows.length):(rows.flatten.drop (k*m)).take m=rows[k]:=by
 rw [flat_drop k h,List.drop_eq_getElem_cons hk,List.flatten_cons,List.take_append_of_le_length (by rw [h _ (List.getElem_mem hk)]; omega),List.take_of_length_le (by rw [h _ (List.getElem_mem hk)]; omega)]
section
variable {α:Type} (I:α→Store→Prop) (p:α→List V→Bool) (nx:α→List V→α) {oc N:Nat} {rows:List (List V)} {fid:FuncId} {caps:List V}
end
end Go.Vw

namespace Go.Vw
open Go.Proofs Go.RowKit
set_option maxRecDepth 10000
inductive Rows {α:Type} (T:Store) (tys:List Ty) (enc:α→V):List α→List (List V)→List Nat→Prop
 | nil:Rows T tys enc [] [] []
 | cons {x:α} {r:List V} {ii:List Nat} {xs:List α} {rs:List (List V)} {ids:List Nat} (h:OwL T tys r (enc x).cells ii) (t:Rows T tys enc xs rs ids):Rows T tys enc (x::xs) (r::rs) (ii++ids)
section
variable {α:Type} {T T':Store} {tys:List Ty} {enc:α→V}
theorem jbL (hs : ∀ x,(enc x).cells.length=tys.length) : ∀ {xs:List α} {cells:List V} {ids:List Nat},OwL T (reps xs.length tys) cells (jo enc xs) ids → ∃ rs,cells=rs.flatten∧rs.length=xs.length∧Rows T tys enc xs rs ids
 | [],cells,ids,h=>by
  rw [List.length_nil,reps_zero] at h
  cases h with
  | nil=>exact ⟨[],rfl,rfl, .nil⟩
 | x::xs,cells,ids,h=>by
  rw [List.length_cons,Ju] at h;obtain ⟨r1,r2,x1,x2,i1,i2,rfl,hx,rfl,k1,k2⟩:=h.split;have e:jo enc (x::xs)=(enc x).cells++jo enc xs:=by simp [jo]
  rw [e] at hx;obtain ⟨rfl,rfl⟩:=List.append_inj hx (by rw [hs,k1.len.2]);obtain ⟨rs,rfl,hl,hr⟩:=jbL hs k2;exact ⟨r1::rs,rfl,by simp [hl], .cons k1 hr⟩
theorem Rows.owl {xs:List α} {rs:List (List V)} {ids:List Nat} (h:Rows T tys enc xs rs ids):OwL T (reps xs.length tys) rs.flatten (jo enc xs) ids:=by
 induction h with
 | nil=>exact .nil
 | @cons x r ii xs rs ids h t ih =>
  have e:jo enc (x::xs)=(enc x).cells++jo enc xs:=by simp [jo]
  rw [List.length_cons,Ju,List.flatten_cons,e];exact h.append ih
theorem Rows.mono {xs:List α} {rs:List (List V)} {ids:List Nat} (h:Rows T tys enc xs rs ids):(∀ o∈ids,T'.get o=T.get o)→Rows T' tys enc xs rs ids:=by
 induction h with
 | nil=>exact fun _ => .nil
 | cons h t ih=>exact fun hk => .cons (h.mono fun o ho=>hk o (by simp [ho])) (ih fun o ho=>hk o (by simp [ho]))
theorem Rows.len {xs:List α} {rs:List (List V)} {ids:List Nat} (h:Rows T tys enc xs rs ids):rs.length=xs.length ∧ ∀ r∈rs,r.length=tys.length:=by
 induction h with
 | nil=>simp
 | cons h t ih=>exact ⟨by simp [ih.1],fun r hr=>by rcases List.mem_cons.1 hr with rfl | hr; exact h.len.1; exact ih.2 r hr⟩
theorem Rows.del {κ:Type} (p:κ→List V→Bool) (nx:κ→List V→κ) (q:κ→α→Bool) (ny:κ→α→κ) {xs:List α} {rs:List (List V)} {ids:List Nat} (h:Rows T tys enc xs rs ids) :
  (∀ x r ii,x∈xs→OwL T tys r (enc x).cells ii→(∀ o∈ii,o∈ids) → ∀ a,p a r=q a x∧nx a r=ny a x) → ∀ a, ∃ ids',Rows T tys enc (delG q ny a xs).1 (delG p nx a rs).1 ids'∧ids'.Sublist ids∧(delG p nx a rs).2=(delG q ny a xs).2:=by
 induction h with
 | nil=>exact fun _ a=>⟨[], .nil,List.Sublist.refl _,rfl⟩
 | @cons x r ii xs rs ids h t ih =>
  intro hk a;obtain ⟨h1,h2⟩:=hk x r ii (by simp) h (fun o ho=>by simp [ho]) a;obtain ⟨ids',k1,k2,k3⟩:=ih (fun y s jj hy ho hs=>hk y s jj (by simp [hy]) ho fun o h=>by simp [hs o h]) (ny a x);simp only [delG,h1,h2]
  by_cases hq:q a x=true
  ·rw [if_pos hq,if_pos hq];exact ⟨ids',k1,k2.trans (List.sublist_append_right _ _),k3⟩
  ·rw [if_neg hq,if_neg hq];exact ⟨ii++ids', .cons h k1,(List.Sublist.refl ii).append k2,k3⟩
end
theorem Rows.at {α:Type} {T:Store} {tys:List Ty} {enc:α→V} {xs:List α} {rs:List (List V)} {ids:List Nat} (h:Rows T tys enc xs rs ids) : ∀ {k:Nat} {x:α},xs[k]? = some x → ∃ (r1:List (List V)) (r:List V) (r2:List (List V)) (i1 ii i2:List Nat),rs=r1++r::r2∧r1.length=k∧ids=i1++(ii++i2)∧OwL T tys r (enc x).cells ii ∧
  ∀ (T':Store) (r':List V) (x':α) (ii':List Nat),(∀ o∈i1++i2,T'.get o=T.get o)→OwL T' tys r' (enc x').cells ii'→Rows T' tys enc (xs.set k x') (r1++r'::r2) (i1++(ii'++i2)):=by
 induction h with
 | nil=>intro k x hx; simp at hx
 | @cons y r ii xs rs ids h t ih =>
  intro k x hx
  cases k with
  | zero =>
   simp only [List.getElem?_cons_zero,Option.some.injEq] at hx;subst hx;exact ⟨[],r,rs,[],ii,ids,rfl,rfl,rfl,h,fun T' r' x' ii' hk ho=>Rows.cons (ids:=ids) ho (t.mono fun o hm=>hk o (by simpa using hm))⟩
  | succ k =>
   obtain ⟨r1,s,r2,i1,jj,i2,e1,e2,e3,e4,e5⟩:=ih (k:=k) (x:=x) (by simpa using hx);subst e1; subst e3;refine ⟨r::r1,s,r2,ii++i1,jj,i2,rfl,by simp [e2],by simp,e4,fun T' r' x' ii' hk ho => ?_⟩;have:=Rows.cons (x:=y) (h.mono fun o hm=>hk o (by simp [hm])) (e5 T' r' x' ii' (fun o hm=>hk o (by
    rcases List.mem_append.1 hm with hm | hm<;>simp [hm])) ho)
   simpa using this
theorem Zh {m:Nat} {r1:List (List V)} {r:List V} {r2:List (List V)} {k q:Nat} {w:V} (h1 : ∀ s∈r1,s.length=m) (hk:r1.length=k) (hr:r[q]? = some w):(r1++r::r2).flatten[k*m+q]? = some w:=by
 have hq:q<r.length:=(List.getElem?_eq_some_iff.1 hr).1;have hl:=zn h1;rw [hk] at hl;rw [List.flatten_append,List.flatten_cons, ←hl,List.getElem?_append_right (by omega),Nat.add_sub_cancel_left,List.getElem?_append_left hq];exact hr
theorem Zg {m:Nat} {r1:List (List V)} {r:List V} {r2:List (List V)} {k q:Nat} {w:V} (h1 : ∀ s∈r1,s.length=m) (hk:r1.length=k) (hq:q<r.length):(r1++r::r2).flatten.set (k*m+q) w=(r1++r.set q w::r2).flatten:=by
 have hl:=zn h1;rw [hk] at hl;rw [List.flatten_append,List.flatten_cons, ←hl,List.set_append_right _ _ (by omega),Nat.add_sub_cancel_left,List.set_append_left _ _ hq,List.flatten_append,List.flatten_cons]
theorem ins_row {T:Store} {x:Ss.Ins} {r:List V} {ii:List Nat} (h:OwL T insD r (jq x).cells ii) : ∃ oa ou,r=[vint x.op,vu x.n, .slice oa 0 x.args.length, .slice ou 0 x.outs.length]∧ii=[oa,ou]∧T.get oa=some (1,x.args.map vint)∧T.get ou=some (1,x.outs.map vint):=by
 rw [qW] at h;generalize hA:vl vint x.args=A at h;generalize hB:vl vint x.outs=B at h
 cases h with
 | c h1 h=>cases h with
  | c h2 h=>cases h with
   | @s _ _ _ _ ca ys i j oa ho hs d h=>cases h with
    | @s _ _ _ _ cb zs i2 j2 ou ho2 hs2 d2 h=>cases h with
     | nil =>
      have e1:ys=x.args.map vint:=by
       have:V.list (x.args.map vint)=V.list ys:=hA;exact (V.list.inj this).symm
      have e2:zs=x.outs.map vint:=by
       have:V.list (x.outs.map vint)=V.list zs:=hB;exact (V.list.inj this).symm
      subst e1; subst e2;have c1:=Jo (n:=(x.args.map vint).length*1) (by rw [←jaZ]; exact d);have c2:=Jo (n:=(x.outs.map vint).length*1) (by rw [←jaZ]; exact d2);rw [zw,qH] at c1 c2;refine ⟨oa,ou,by simp, ?_, ?_, ?_⟩
      ·rw [c1.2,c2.2]; rfl
      ·rw [ho,c1.1]; rfl
      ·rw [ho2,c2.1]; rfl
theorem block_row {T:Store} {b:Ss.Block} {r:List V} {ii:List Nat} (h:OwL T blkD r (jd b).cells ii) : ∃ (op oc oe:Nat) (rs:List (List V)) (ce:List V) (ip ic ie:List Nat),r=[.slice op 0 b.params.length, .slice oc 0 b.code.length,vint b.term.kind,vint b.term.arg, .slice oe 0 b.term.to.length,vl vint b.term.args]∧ii=op::oc::(ic++oe::ie) ∧
  T.get op=some (1,b.params.map vint)∧T.get oc=some (4,rs.flatten)∧Rows T insD jq b.code rs ic∧T.get oe=some (2,ce)∧OwL T (reps b.term.to.length KS) ce (jo jk b.term.to) ie:=by
 rw [jO] at h;generalize hA:vl vint b.params=A at h;generalize hB:vl jq b.code=B at h;generalize hC:vl jk b.term.to=C at h
 cases h with
 | @s _ _ _ _ ca ys i j op ho hs d h=>cases h with
  | @s _ _ _ _ cb zs i2 j2 oc ho2 hs2 d2 h=>cases h with
   | c h1 h=>cases h with
    | c h2 h=>cases h with
     | @s _ _ _ _ cc us i3 j3 oe ho3 hs3 d3 h=>cases h with
      | c h3 h=>cases h with
       | nil =>
        have e1:ys=b.params.map vint:=by
         have:V.list (b.params.map vint)=V.list ys:=hA;exact (V.list.inj this).symm
        have e2:zs=b.code.map jq:=by
         have:V.list (b.code.map jq)=V.list zs:=hB;exact (V.list.inj this).symm
        have e3:us=b.term.to.map jk:=by
         have:V.list (b.term.to.map jk)=V.list us:=hC;exact (V.list.inj this).symm
        subst e1; subst e2; subst e3;have c1:=Jo (n:=(b.params.map vint).length*1) (by rw [←jaZ]; exact d);rw [zw,qH] at c1;rw [List.length_map,zw] at d2 d3;obtain ⟨rs,rfl,hl,hr⟩:=jbL (fun x=>by rw [qW]; rfl) d2;refine ⟨op,oc,oe,rs,cc,[],i2,i3,by simp, ?_, ?_,ho2,hr,ho3,d3⟩
        ·rw [c1.2]; simp
        ·rw [ho,c1.1]; rfl
theorem block_mk {T:Store} {b:Ss.Block} {op oc oe:Nat} {rs:List (List V)} {ce:List V} {ic ie:List Nat} (h1:T.get op=some (1,b.params.map vint)) (h2:T.get oc=some (4,rs.flatten)) (h3:Rows T insD jq b.code rs ic) (h4:T.get oe=some (2,ce)) (h5:OwL T (reps b.term.to.length KS) ce (jo jk b.term.to) ie) :
  OwL T blkD [.slice op 0 b.params.length, .slice oc 0 b.code.length,vint b.term.kind,vint b.term.arg, .slice oe 0 b.term.to.length,vl vint b.term.args] (jd b).cells (op::oc::(ic++oe::ie)):=by
 rw [jO];have hP:OwL T (.s [.c]::[.s insD, .c, .c, .s KS, .c]) (.slice op 0 b.params.length::[.slice oc 0 b.code.length,vint b.term.kind,vint b.term.arg, .slice oe 0 b.term.to.length,vl vint b.term.args]) (vl vint b.params::[vl jq b.code,vint b.term.kind,vint b.term.arg,vl jk b.term.to,vl vint b.term.args]) (op::oc::(ic++oe::ie)):=by
  refine OwL.slice (s:=1) (enc:=vint) (fun _=>rfl) (fun _=>rfl) b.params (by rw [qH]; exact h1) ?_;have h6:=h3.owl;have t1:OwL T [.s KS, .c] [.slice oe 0 b.term.to.length,vl vint b.term.args] [vl jk b.term.to,vl vint b.term.args] (oe::ie):=by
   have:=OwL.s (S:=T) (o:=oe) (tys:=KS) (cells:=ce) (ys:=b.term.to.map jk) (i:=ie) (j:=[]) h4 (fun y hy=>(by
    obtain ⟨e,_,rfl⟩:=List.mem_map.1 hy;exact ⟨by rw [za]; rfl,qN e⟩)) (by rw [List.length_map,zw]; exact h5) (.c (x:=vl vint b.term.args) rfl .nil)
   rw [List.length_map,List.append_nil] at this;exact this
  have:=OwL.s (S:=T) (o:=oc) (tys:=insD) (cells:=rs.flatten) (ys:=b.code.map jq) (i:=ic) (j:=oe::ie) h2 (fun y hy=>(by
   obtain ⟨e,_,rfl⟩:=List.mem_map.1 hy;exact ⟨by rw [qW]; rfl,qZ e⟩)) (by rw [List.length_map,zw]; exact h6) (.c (x:=vint b.term.kind) rfl (.c (x:=vint b.term.arg) rfl t1))
  rw [List.length_map] at this;exact this
 exact hP
end Go.Vw

namespace Go.Vw
open Go.Proofs Go.RowKit
set_option maxRecDepth 10000
set_option maxHeartbeats 4000000
theorem succs_fits {f:Ss.Fn} (hf:f.Fits):Fits (Ss.succs f.blocks):=by
 refine ⟨by rw [Ss.succs,List.length_map]; have:=hf.2.2.1; omega,fun l hl => ?_⟩;obtain ⟨b,hb,rfl⟩:=List.mem_map.1 hl;have:=(hf.2.2.2 b hb).2.2.2.2.1.1;rw [Ss.rowOf,List.length_map]; omega
def vToInt:V→Int
 | .int _ n=>n
 | _=>0
def insOf (S:Store):List V→Ss.Ins
 | [.int _ op, .int _ n, .slice oa _ _,_]=>⟨op,n,((S.get oa).getD (0,[])).2.map vToInt,[]⟩
 | _=>default
structure RunInv (S:Store) (p4 pg pr pm pf ot ob:Nat) (hd:List V) (ts near:List Int) (bs:List Ss.Block) (M:Ss.Far) (T:Store) (rs:List (List V)) (ids:List Nat):Prop where
 old:Agree S T
 c4:T.get p4=some (4,[V.nils,V.nils,V.nils,V.nils])
 cg:T.get pg=some (4,hd)
 cr:T.get pr=some (1,[vl vint near])
 cm:T.get pm=some (0,encFar M)
 cf:T.get pf=some (1,[.map pm])
 ct:T.get ot=some (1,ts.map vint)
 cb:T.get ob=some (6,rs.flatten)
 own:Rows T blkD jd bs rs ids
 nd:(p4::pg::pr::pf::pm::ot::ob::ids).Nodup
 lt : ∀ o∈p4::pg::pr::pf::pm::ot::ob::ids,S.nx≤o
 fits : ∀ b∈bs, ∀ x∈b.code,x.Fits∧(x.op=257→x.args≠[]∧x.n≤8589934592)
 len : ∀ b∈bs,b.code.length<2^62
end Go.Vw

namespace Ss
def NewX (ts ps:List Int) (x:Ins):Prop:=x=⟨256,9,[],[(ts.length:Int)]⟩ ∨ ∃ p∈ps,0≤p∧p<ts.length∧ts.getD p.toNat 0=126∧x=⟨124,0,[p,p],[(ts.length:Int)]⟩
theorem NewX.op {ts ps:List Int} {x:Ins} (h:NewX ts ps x):x.op≠258∧x.outs=[(ts.length:Int)]∧x.args.length≤2:=by
 rcases h with rfl | ⟨p,_,_,_,_,rfl⟩<;>simp
theorem KZ {e:Env} {f:Fn} {ds:List Def} {near:List Int} : ∀ {l:List Block} {i:Nat},(∀ (j:Nat) (b:Block),l[j]? = some b→checkCode e f ds near ((i+j:Nat):Int) 0 b.code=true∧termOk f ds near ((i+j:Nat):Int) b=true)→checkBlocks e f ds near i l=true
 | [],i,_=>rfl
 | b::l,i,h=>by
  simp only [checkBlocks,Bool.and_eq_true];refine ⟨h 0 b rfl,KZ fun j y hy => ?_⟩;have:=h (j+1) y (by simpa using hy);rw [show i+1+j=i+(j+1) by omega]; exact this
end Ss

namespace Go.Vw
open Go.Proofs Go.RowKit
set_option maxRecDepth 10000
set_option maxHeartbeats 2000000
end Go.Vw
