import Derived.Test.YtkfllaokjaldnaaGreatC25
import Derived.Test.YtkfllaokjaldnaaGreatC20
import Derived.Test.YtkfllaokjaldnaaGreatC12
import Derived.Test.YtkfllaokjaldnaaGreatC24
import Derived.Test.YtkfllaokjaldnaaGreatC23
import Derived.Test.YtkfllaokjaldnaaGreatC15
/-
  Part of the proof (texts SShp, BDel, GNearTh2, BPlain, BRows, DRowV, DInv, BClo, BChk, BRun).
-/
set_option linter.unusedVariables false
set_option linter.unusedSimpArgs false
namespace Go.Vw
open Go.Proofs Go.RowKit
theorem OwL.cell {T:Store} {us:List Ty} {cs zs:List V} {ii:List Nat} {u v:V} (h:OwL T us cs zs ii) (hu:u.closed1=true) (hv:v.closed1=true) : ∀ {q:Nat},cs[q]? = some u → ∃ zs',OwL T us (cs.set q v) zs' ii:=by
 induction h with
 | nil=>intro q hq; simp at hq
 | c hx tt ihh =>
  intro q hq
  cases q with
  | zero=>exact ⟨_, .c hv tt⟩
  | succ q =>
   obtain ⟨zs',h2⟩:=ihh (q:=q) (by simpa using hq);exact ⟨_, .c hx h2⟩
 | s ho2 hs2 d2 t2 _ ihh =>
  intro q hq
  cases q with
  | zero =>
   simp only [List.getElem?_cons_zero,Option.some.injEq] at hq;rw [←hq] at hu; simp [V.closed1] at hu
  | succ q =>
   obtain ⟨zs',h2⟩:=ihh (q:=q) (by simpa using hq);exact ⟨_, .s ho2 hs2 d2 h2⟩
def At (T:Store) (o p:Nat) (w:V):Prop := ∃ s cs,T.get o=some (s,cs)∧cs[p]? = some w
inductive Lim:V→Prop
 | c {x:V} (h : ∀ ys,x ≠ .list ys):Lim x
 | l {ys:List V} (h:ys.length≤140737488355328) (k : ∀ y∈ys, ∀ z∈y.cells,Lim z):Lim (.list ys)
def LimO (T:Store) (ids:List Nat):Prop := ∀ o∈ids, ∀ w cs,T.get o=some (w,cs)→cs.length≤140737488355328*w
theorem OwL.lim {T:Store} {us:List Ty} {cs zs:List V} {ii:List Nat} (h:OwL T us cs zs ii):(∀ z∈zs,Lim z)→LimO T ii:=by
 induction h with
 | nil=>intro _ o ho; simp at ho
 | c _ _ ih=>exact fun hz=>ih fun z hz'=>hz z (by simp [hz'])
 | @s tys ts rs xs cells ys i j o ho hs d t ihd iht =>
  intro hz;have h1:Lim (.list ys):=hz _ (by simp)
  cases h1 with
  | c h=>exact absurd rfl (h ys)
  | l hl hk =>
   intro o' ho' w cs hg;rcases List.mem_cons.1 ho' with rfl | h2
   ·rw [ho] at hg
    cases hg
    rw [d.len.1,zL];exact Nat.mul_le_mul_right _ hl
   ·rcases List.mem_append.1 h2 with h2 | h2
    ·refine ihd (fun z hz' => ?_) o' h2 w cs hg;obtain ⟨y,hy,hzy⟩:=List.mem_flatMap.1 hz';exact hk y hy z hzy
    ·exact iht (fun z hz'=>hz z (by simp [hz'])) o' h2 w cs hg
structure Shp (S T0:Store) (ob n:Nat) (ids:List Nat) (T1:Store):Prop where
 nx:T1.nx=T0.nx
 wf:T1.Wf
 old : ∀ o,o<S.nx→T1.get o=S.get o
 own : ∃ cells xs,T1.get ob=some (6,cells)∧OwL T1 (reps n blkD) cells xs ids
 lim:LimO T1 ids
theorem insD_inv {T:Store} {r x:List V} {ii:List Nat} (h:OwL T insD r x ii) : ∃ (u v:V) (oa na ou nu:Nat) (ca:List V),r=[u,v, .slice oa 0 na, .slice ou 0 nu]∧u.closed1=true∧oa∈ii∧T.get oa=some (1,ca)∧ca.length=na ∧ ∀ c∈ca,c.closed1=true:=by
 cases h with
 | c h1 h=>cases h with
  | c h2 h=>cases h with
   | @s _ _ _ _ ca ys i j oa ho hs d h=>cases h with
    | s ho2 hs2 d2 h=>cases h with
     | nil =>
      have hl:ca.length=ys.length:=by rw [d.len.1,zL]; simp
      have e:=zt (n:=ys.length*1) (by rw [←WC]; exact d);exact ⟨_,_,oa,_,_,_,ca,rfl,h1,by simp,ho,hl,by rw [e.1]; exact d.closed⟩
theorem edgeD_inv {T:Store} {r x:List V} {ii:List Nat} (h:OwL T KS r x ii) : ∃ (u:V) (oa na:Nat),r=[u, .slice oa 0 na]∧u.closed1=true:=by
 cases h with
 | c h1 h=>cases h with
  | s ho hs d h=>cases h with
   | nil=>exact ⟨_,_,_,rfl,h1⟩
theorem blkD_inv {T:Store} {r x:List V} {ii:List Nat} (h:OwL T blkD r x ii) : ∃ (op np oc nc oe ne:Nat) (u a z:V) (cc ce xi xe:List V) (ci ei:List Nat),r=[.slice op 0 np, .slice oc 0 nc,u,a, .slice oe 0 ne,z]∧u.closed1=true∧oc∈ii∧T.get oc=some (4,cc)∧OwL T (reps nc insD) cc xi ci∧(∀ o∈ci,o∈ii) ∧
  oe∈ii∧T.get oe=some (2,ce)∧OwL T (reps ne KS) ce xe ei:=by
 cases h with
 | s ho hs d h=>cases h with
  | s ho2 hs2 d2 h=>cases h with
   | c h1 h=>cases h with
    | c h2 h=>cases h with
     | s ho3 hs3 d3 h=>cases h with
      | c h3 h=>cases h with
       | nil=>exact ⟨_,_,_,_,_,_,_,_,_,_,_,_,_,_,_,rfl,h1,by simp,ho2,d2,fun o ho=>by simp [ho],by simp,ho3,d3⟩
theorem Wi {c1 r c2:List V} {i m p:Nat} {w:V} (hc:c1.length=i*m) (hr:r[p]? = some w):(c1++(r++c2))[i*m+p]? = some w:=by
 have hp:p<r.length:=(List.getElem?_eq_some_iff.1 hr).1;rw [←hc,List.getElem?_append_right (by omega),Nat.add_sub_cancel_left,List.getElem?_append_left hp];exact hr
theorem Shp.block {S T0 T1:Store} {ob n k:Nat} {ids:List Nat} (h:Shp S T0 ob n ids T1) (hk:k<n) : ∃ (cells:List V) (oc nc oe ne:Nat) (u:V) (cc ce:List V),T1.get ob=some (6,cells)∧cells[k*6+1]? = some (.slice oc 0 nc)∧cells[k*6+2]? = some u∧u.closed1=true∧cells[k*6+4]? = some (.slice oe 0 ne) ∧
  oc∈ids∧T1.get oc=some (4,cc)∧oe∈ids∧T1.get oe=some (2,ce)∧nc≤140737488355328∧ne≤140737488355328∧(∀ j<nc, ∃ (u:V) (oa na:Nat) (ca:List V),cc[j*4]? = some u∧u.closed1=true∧cc[j*4+2]? = some (.slice oa 0 na)∧oa∈ids∧T1.get oa=some (1,ca)∧ca.length=na∧na≤140737488355328 ∧ ∀ c∈ca,c.closed1=true) ∧ ∀ q<ne, ∃ u:V,ce[q*2]? = some u∧u.closed1=true:=by
 obtain ⟨cells,xs,h4,h5⟩:=h.own;obtain ⟨c1,r,c2,x1,x,x2,i1,ii,i2,rfl,hl,rfl,rfl,k1,k2,k3⟩:=h5.elem hk;obtain ⟨op,np,oc,nc,oe,ne,u,a,z,cc,ce,xi,xe,ci,ei,rfl,hu,hoc,hcc,hci,hcs,hoe,hce,hei⟩:=blkD_inv k2;refine ⟨_,oc,nc,oe,ne,u,cc,ce,h4,Wi (m:=6) (p:=1) hl rfl,Wi (m:=6) (p:=2) hl rfl,hu,Wi (m:=6) (p:=4) hl rfl,by simp [hoc],hcc,by simp [hoe],hce, ?_, ?_,fun j hj => ?_,fun q hq => ?_⟩
 ·have h8:=h.lim oc (by simp [hoc]) _ _ hcc;have h9:cc.length=nc*4:=by rw [hci.len.1,zL]; rfl
  omega
 ·have h8:=h.lim oe (by simp [hoe]) _ _ hce;have h9:ce.length=ne*2:=by rw [hei.len.1,zL]; rfl
  omega
 ·obtain ⟨d1,s,d2,y1,y,y2,j1,jj,j2,rfl,hl2,rfl,rfl,m1,m2,m3⟩:=hci.elem hj;obtain ⟨u',v',oa,na,ou,nu,ca,rfl,hu',hoa,hca,hcl,hcc'⟩:=insD_inv m2;exact ⟨u',oa,na,ca,by have:=Wi (m:=4) (p:=0) (c2:=d2) hl2 (r:=[u',v', .slice oa 0 na, .slice ou 0 nu]) rfl; simpa using this,hu',Wi (m:=4) (p:=2) hl2 rfl,by have:=hcs oa (by simp [hoa]); simp [this],hca,hcl,by have:=h.lim oa (by have:=hcs oa (by simp [hoa]); simp [this]) _ _ hca; omega,hcc'⟩
 ·obtain ⟨d1,s,d2,y1,y,y2,j1,jj,j2,rfl,hl2,rfl,rfl,m1,m2,m3⟩:=hei.elem hq;obtain ⟨u',oa,na,rfl,hu'⟩:=edgeD_inv m2;exact ⟨u',by have:=Wi (m:=2) (p:=0) (c2:=d2) hl2 (r:=[u', .slice oa 0 na]) rfl; simpa using this,hu'⟩
theorem At.same {T:Store} {o p s:Nat} {cs:List V} {w w':V} (h:At T o p w) (hg:T.get o=some (s,cs)) (hw:cs[p]? = some w'):w'=w:=by
 obtain ⟨s1,cs1,h1,h2⟩:=h;rw [hg] at h1
 cases h1
 rw [hw] at h2;exact Option.some.inj h2
end Go.Vw

namespace Go.Vw
open Go.Proofs Go.RowKit
set_option maxRecDepth 10000
set_option maxHeartbeats 2000000
def idxG {α ρ:Type} (p:α→ρ→Bool) (nx:α→ρ→α):α→List ρ→Nat→Int × α
 | a,[],_=>(-1,a)
 | a,r::rs,k=>if p a r then ((k:Int),nx a r) else idxG p nx (nx a r) rs (k+1)
def delG {α ρ:Type} (p:α→ρ→Bool) (nx:α→ρ→α):α→List ρ→List ρ × α
 | a,[]=>([],a)
 | a,r::rs=>if p a r then delG p nx (nx a r) rs else (r::(delG p nx (nx a r) rs).1,(delG p nx (nx a r) rs).2)
theorem qX {m:Nat} : ∀ {rows:List (List V)},(∀ r∈rows,r.length=m)→rows.flatten.length=rows.length*m
 | [],_=>by simp
 | r::rs,h=>by rw [List.flatten_cons,List.length_append,h r (by simp),qX fun x hx=>h x (by simp [hx]),List.length_cons,Nat.succ_mul]; omega
theorem jay {m:Nat} : ∀ {rows:List (List V)} (k:Nat),(∀ r∈rows,r.length=m)→rows.flatten.take (k*m)=(rows.take k).flatten
 | [],k,_=>by simp
 | r::rs,0,h=>by simp
 | r::rs,k+1,h=>by
  have hr:=h r (by simp);rw [List.flatten_cons,List.take_succ_cons,List.flatten_cons, ←jay k fun x hx=>h x (by simp [hx]),Nat.succ_mul,List.take_append,hr];rw [show k*m+m-m=k*m by omega,List.take_of_length_le (by rw [hr]; omega)]
theorem flat_drop {m:Nat} {rows:List (List V)} (k:Nat) (h : ∀ r∈rows,r.length=m):rows.flatten.drop (k*m)=(rows.drop k).flatten:=by
 have e:=List.take_append_drop (k*m) rows.flatten;have e2:rows.flatten=(rows.take k).flatten++(rows.drop k).flatten:=by rw [←List.flatten_append,List.take_append_drop]
 rw [jay k h] at e;exact List.append_cancel_left (e.trans e2)
theorem WQ {m:Nat} {rows:List (List V)} {k:Nat} (h : ∀ r∈rows,r.length=m) (hk:k<rows.length):(rows.flatten.drop (k*m)).take m=rows[k]:=by
 rw [flat_drop k h,List.drop_eq_getElem_cons hk,List.flatten_cons,List.take_append_of_le_length (by rw [h _ (List.getElem_mem hk)]; omega),List.take_of_length_le (by rw [h _ (List.getElem_mem hk)]; omega)]
section
variable {α:Type} (I:α→Store→Prop) (p:α→List V→Bool) (nx:α→List V→α) {oc N:Nat} {rows:List (List V)} {fid:FuncId} {caps:List V}
end
end Go.Vw

/-
 What the nearest ones tell.
-/
namespace Go.Vw.G
open Go.Vw
structure NearOk (g:List (List Nat)) (near:List Int):Prop where
 len:near.length=g.length
 zero:nd near 0 = -1
 out : ∀ x,x<g.length→x∉order g→nd near x = -1
 near : ∀ x∈order g,x≠0 → ∃ p:Nat,nd near x=p∧p∈order g∧p≠x∧Dom g (order g) p x ∧ ∀ d,Dom g (order g) d x→d≠x→Dom g (order g) d p
section
variable {g:List (List Nat)}
theorem rNear_ok (hg:Ok g):NearOk g (rNear g):=by
 obtain ⟨F,K,nearF,h1,h2⟩:=chk_ends hg;rw [near_eq hg h2];have h0:0<nearF.length:=by rw [h2.len]; exact hg.pos
 have hset:=nd_set h0 (-1);refine ⟨by simpa using h2.len,by rw [hset,if_pos rfl],fun x hx hxl => ?_,fun x hx hx0 => ?_⟩
 ·rw [hset]; split
  ·rfl
  ·exact h2.out x hx hxl
 ·rw [hset,if_neg hx0]; exact h2.near x hx hx0
theorem dom1_out {near:List Int} {a x:Nat} (hx:x<near.length) (h:nd near x = -1) : ∀ n,dom1 near a (n+1) x=decide (a=x):=by
 intro n;have hok:okIx near (x:Int):=⟨by omega,by omega⟩
 rw [dom1,if_pos hok]
 by_cases e:a=x
 ·subst e; simp
 ·have e' : ¬ (a:Int)=(x:Int):=by omega
  rw [if_neg e'];have:near.getD x 0 = -1:=h;simp only [Int.toNat_natCast,this];have hno : ¬ okIx near (-1):=fun h=>by have:=h.1; omega
  cases n with
  | zero=>simp [dom1,e]
  | succ n=>rw [dom1,if_neg hno]; simp [e]
theorem dom1_iff (hg:Ok g) {near:List Int} (hN:NearOk g near) (a:Nat) : ∀ (n b:Nat),b∈order g→rk g (order g) b<n→(dom1 near a n b=true↔Dom g (order g) a b)
 | 0,b,_,h=>by omega
 | n+1,b,hb,h=>by
  have ho:=order_ok hg;have hbl:=ho.lt b hb
  by_cases hb0:b=0
  ·subst hb0;rw [dom1_out (by rw [hN.len]; exact hbl) hN.zero];simp only [decide_eq_true_eq];constructor
   ·intro e; subst e; exact Dom.self 0
   ·intro hd
    by_cases e:a=0
    ·exact e
    ·exact absurd (Way.start 0 (Ne.symm e)) (hd 0)
  ·obtain ⟨p,q1,q2,q3,q4,q5⟩:=hN.near b hb hb0;have hok:okIx near (b:Int):=⟨by omega,by rw [hN.len]; omega⟩
   rw [dom1,if_pos hok]
   by_cases e:a=b
   ·subst e;simp only [if_true,true_iff];exact Dom.self a
   ·have e' : ¬ (a:Int)=(b:Int):=by omega
    have hnd:near.getD b 0=(p:Int):=q1;rw [if_neg e'];simp only [Int.toNat_natCast,hnd];have hr:=q4.rk ho q2 hb q3;rw [dom1_iff hg hN a n p q2 (by omega)];exact ⟨fun hd=>hd.trans q4,fun hd=>q5 a hd e⟩
theorem zx (hg:Ok g) {near:List Int} (hN:NearOk g near) {a b:Nat} (ha:a<g.length) (hb:b<g.length):dominates near a b=true↔(a∈order g∧b∈order g∧Dom g (order g) a b)∨a=b:=by
 have ho:=order_ok hg;have hoka:okIx near (a:Int):=⟨by omega,by rw [hN.len]; omega⟩
 rw [dominates,if_pos hoka];have hm:=hg.max
 by_cases hbl:b∈order g
 ·have hr:rk g (order g) b<257:=by
   have h1:=rk_lt ho hbl;obtain ⟨t,k1,k2,k3⟩:=order_ends hg;have:(order g).length≤g.length:=by simp [order,k1]; exact k2
   omega
  rw [dom1_iff hg hN a 257 b hbl hr];constructor
  ·exact fun h => .inl ⟨h.mem ho hbl,hbl,h⟩
  ·rintro (h | h)
   ·exact h.2.2
   ·subst h; exact Dom.self a
 ·rw [dom1_out (n:=256) (by rw [hN.len]; exact hb) (hN.out b hb hbl)];simp only [decide_eq_true_eq];constructor
  ·exact .inr
  ·rintro (h | h)
   ·exact absurd h.2.1 hbl
   ·exact h
theorem ways (hg:Ok g) {near:List Int} (hN:NearOk g near) {a b:Nat} (ha:a<g.length) (hb:b<g.length) :
  dominates near a b=(((without g none).getD a false&&(without g none).getD b false && !((without g (some a)).getD b false))||decide (a=b)):=by
 have h1:=zx hg hN ha hb;have w1:=without_none hg a;have w2:=without_none hg b;have w3:=YO hg (b:=b) ha;unfold Met at w1 w2 w3;rw [Bool.eq_iff_iff,h1];simp only [Bool.or_eq_true,Bool.and_eq_true,Bool.not_eq_true',decide_eq_true_eq,w1,w2];constructor
 ·rintro (⟨k1,k2,k3⟩ | h)
  ·refine .inl ⟨⟨k1,k2⟩, ?_⟩
   cases hx:(without g (some a)).getD b false with
   | false=>rfl
   | true=>obtain ⟨_,k,hw⟩:=w3.1 hx; exact absurd hw (k3 k)
  ·exact .inr h
 ·rintro (⟨⟨k1,k2⟩,k3⟩ | h)
  ·by_cases e:b=a
   ·exact .inr e.symm
   ·refine .inl ⟨k1,k2,fun k hw => ?_⟩;have:=w3.2 ⟨e,k,hw⟩;rw [k3] at this; cases this
  ·exact .inr h
def atTo (n:Nat) (l:List Nat):Nat→List Nat
 | 0=>List.replicate n 0
 | k+1=>(atTo n l k).set (l.getD k 0) (k+1)
end
end Go.Vw.G

namespace Ss
open Go.Vw.G
def chain (near:List Int):Nat→Int→List Int
 | 0,_=>[]
 | n+1,b=>if okIx near b then b::chain near n (near.getD b.toNat 0) else []
def covers (y x:Ins):Bool:=decide (y.op=257)&&decide (x.op=257)&&decide (y.args.getD 0 0=x.args.getD 0 0)&&decide (x.n≤y.n)
abbrev Kept:=List (Ins × Int)
def rcov (near:List Int) (n:Int) (all:Kept) (x:Ins):Bool:=all.any fun p=>covers p.1 x&&dominates near p.2 n
def rcode (near:List Int) (n:Int):Kept→List Ins→List Ins × Kept
 | all,[]=>([],all)
 | all,x::r=>if rcov near n all x then rcode near n all r else (x::(rcode near n (if x.op=257 then all++[(x,n)] else all) r).1,(rcode near n (if x.op=257 then all++[(x,n)] else all) r).2)
def rstep (near:List Int) (st:List Block × Kept) (n:Nat):List Block × Kept :=
 (st.1.set n ⟨(st.1.getD n default).params,(rcode near n st.2 (st.1.getD n default).code).1,(st.1.getD n default).term⟩,(rcode near n st.2 (st.1.getD n default).code).2)
def bce (near:List Int) (order:List Nat) (f:Fn):Fn:=⟨f.sig,f.types,(order.foldl (rstep near) (f.blocks,[])).1⟩
/-! ### The same by a map of places -/
abbrev Far:=List ((Int × Int) × Int)
def farGet (k:Int × Int):Far→Int
 | []=>0
 | (k',w)::r=>if k=k' then w else farGet k r
def farPut (k:Int × Int) (w:Int):Far→Far
 | []=>[(k,w)]
 | (k',w')::r=>if k=k' then (k,w)::r else (k',w')::farPut k w r
def pcov (near:List Int) (n:Int) (M:Far) (x:Ins):Bool:=decide (x.op=257)&&(chain near 257 n).any fun up=>decide (x.n<farGet (x.args.getD 0 0,up) M)
def pnext (near:List Int) (n:Int) (M:Far) (x:Ins):Far:=if x.op=257∧pcov near n M x=false then farPut (x.args.getD 0 0,n) (x.n+1) M else M
def pcode (near:List Int) (n:Int):Far→List Ins→List Ins × Far
 | M,[]=>([],M)
 | M,x::r=>if pcov near n M x then pcode near n (pnext near n M x) r else (x::(pcode near n (pnext near n M x) r).1,(pcode near n (pnext near n M x) r).2)
def pstep (near:List Int) (st:List Block × Far) (n:Nat):List Block × Far :=
 (st.1.set n ⟨(st.1.getD n default).params,(pcode near n st.2 (st.1.getD n default).code).1,(st.1.getD n default).term⟩,(pcode near n st.2 (st.1.getD n default).code).2)
def pbce (near:List Int) (order:List Nat) (f:Fn):Fn:=⟨f.sig,f.types,(order.foldl (pstep near) (f.blocks,[])).1⟩
def Tells (all:Kept) (M:Far):Prop := ∀ (v b N:Int),0≤N→(N<farGet (v,b) M ↔ ∃ p∈all,p.2=b∧p.1.op=257∧p.1.args.getD 0 0=v∧N≤p.1.n)
theorem code_sub (near:List Int) (n:Int) : ∀ (code:List Ins) (all:Kept), ∀ x∈(rcode near n all code).1,x∈code
 | [],_,x,h=>by simp [rcode] at h
 | y::r,all,x,h=>by
  rw [rcode] at h;split at h
  ·exact List.mem_cons_of_mem _ (code_sub near n r all x h)
  ·rcases List.mem_cons.1 h with rfl | h
   ·simp
   ·exact List.mem_cons_of_mem _ (code_sub near n r _ x h)
end Ss

namespace Go.Vw
open Go.Proofs Go.RowKit
set_option maxRecDepth 10000
inductive Rows {α:Type} (T:Store) (tys:List Ty) (enc:α→V):List α→List (List V)→List Nat→Prop
 | nil:Rows T tys enc [] [] []
 | cons {x:α} {r:List V} {ii:List Nat} {xs:List α} {rs:List (List V)} {ids:List Nat} (h:OwL T tys r (enc x).cells ii) (t:Rows T tys enc xs rs ids):Rows T tys enc (x::xs) (r::rs) (ii++ids)
section
variable {α:Type} {T T':Store} {tys:List Ty} {enc:α→V}
theorem ZR (hs : ∀ x,(enc x).cells.length=tys.length) : ∀ {xs:List α} {cells:List V} {ids:List Nat},OwL T (reps xs.length tys) cells (jh enc xs) ids → ∃ rs,cells=rs.flatten∧rs.length=xs.length∧Rows T tys enc xs rs ids
 | [],cells,ids,h=>by
  rw [List.length_nil,reps_zero] at h
  cases h with
  | nil=>exact ⟨[],rfl,rfl, .nil⟩
 | x::xs,cells,ids,h=>by
  rw [List.length_cons,zK] at h;obtain ⟨r1,r2,x1,x2,i1,i2,rfl,hx,rfl,k1,k2⟩:=h.split;have e:jh enc (x::xs)=(enc x).cells++jh enc xs:=by simp [jh]
  rw [e] at hx;obtain ⟨rfl,rfl⟩:=List.append_inj hx (by rw [hs,k1.len.2]);obtain ⟨rs,rfl,hl,hr⟩:=ZR hs k2;exact ⟨r1::rs,rfl,by simp [hl], .cons k1 hr⟩
theorem Rows.owl {xs:List α} {rs:List (List V)} {ids:List Nat} (h:Rows T tys enc xs rs ids):OwL T (reps xs.length tys) rs.flatten (jh enc xs) ids:=by
 induction h with
 | nil=>exact .nil
 | @cons x r ii xs rs ids h t ih =>
  have e:jh enc (x::xs)=(enc x).cells++jh enc xs:=by simp [jh]
  rw [List.length_cons,zK,List.flatten_cons,e];exact h.append ih
theorem Rows.mono {xs:List α} {rs:List (List V)} {ids:List Nat} (h:Rows T tys enc xs rs ids):(∀ o∈ids,T'.get o=T.get o)→Rows T' tys enc xs rs ids:=by
 induction h with
 | nil=>exact fun _ => .nil
 | cons h t ih=>exact fun hk => .cons (h.mono fun o ho=>hk o (by simp [ho])) (ih fun o ho=>hk o (by simp [ho]))
theorem Rows.len {xs:List α} {rs:List (List V)} {ids:List Nat} (h:Rows T tys enc xs rs ids):rs.length=xs.length ∧ ∀ r∈rs,r.length=tys.length:=by
 induction h with
 | nil=>simp
 | cons h t ih=>exact ⟨by simp [ih.1],fun r hr=>by rcases List.mem_cons.1 hr with rfl | hr; exact h.len.1; exact ih.2 r hr⟩
theorem Rows.del {κ:Type} (p:κ→List V→Bool) (nx:κ→List V→κ) (q:κ→α→Bool) (ny:κ→α→κ) {xs:List α} {rs:List (List V)} {ids:List Nat} (h:Rows T tys enc xs rs ids) :
  (∀ x r ii,x∈xs→OwL T tys r (enc x).cells ii→(∀ o∈ii,o∈ids) → ∀ a,p a r=q a x∧nx a r=ny a x) → ∀ a, ∃ ids',Rows T tys enc (delG q ny a xs).1 (delG p nx a rs).1 ids'∧ids'.Sublist ids∧(delG p nx a rs).2=(delG q ny a xs).2:=by
 induction h with
 | nil=>exact fun _ a=>⟨[], .nil,List.Sublist.refl _,rfl⟩
 | @cons x r ii xs rs ids h t ih =>
  intro hk a;obtain ⟨h1,h2⟩:=hk x r ii (by simp) h (fun o ho=>by simp [ho]) a;obtain ⟨ids',k1,k2,k3⟩:=ih (fun y s jj hy ho hs=>hk y s jj (by simp [hy]) ho fun o h=>by simp [hs o h]) (ny a x);simp only [delG,h1,h2]
  by_cases hq:q a x=true
  ·rw [if_pos hq,if_pos hq];exact ⟨ids',k1,k2.trans (List.sublist_append_right _ _),k3⟩
  ·rw [if_neg hq,if_neg hq];exact ⟨ii++ids', .cons h k1,(List.Sublist.refl ii).append k2,k3⟩
end
theorem Rows.at {α:Type} {T:Store} {tys:List Ty} {enc:α→V} {xs:List α} {rs:List (List V)} {ids:List Nat} (h:Rows T tys enc xs rs ids) : ∀ {k:Nat} {x:α},xs[k]? = some x → ∃ (r1:List (List V)) (r:List V) (r2:List (List V)) (i1 ii i2:List Nat),rs=r1++r::r2∧r1.length=k∧ids=i1++(ii++i2)∧OwL T tys r (enc x).cells ii ∧
  ∀ (T':Store) (r':List V) (x':α) (ii':List Nat),(∀ o∈i1++i2,T'.get o=T.get o)→OwL T' tys r' (enc x').cells ii'→Rows T' tys enc (xs.set k x') (r1++r'::r2) (i1++(ii'++i2)):=by
 induction h with
 | nil=>intro k x hx; simp at hx
 | @cons y r ii xs rs ids h t ih =>
  intro k x hx
  cases k with
  | zero =>
   simp only [List.getElem?_cons_zero,Option.some.injEq] at hx;subst hx;exact ⟨[],r,rs,[],ii,ids,rfl,rfl,rfl,h,fun T' r' x' ii' hk ho=>Rows.cons (ids:=ids) ho (t.mono fun o hm=>hk o (by simpa using hm))⟩
  | succ k =>
   obtain ⟨r1,s,r2,i1,jj,i2,e1,e2,e3,e4,e5⟩:=ih (k:=k) (x:=x) (by simpa using hx);subst e1; subst e3;refine ⟨r::r1,s,r2,ii++i1,jj,i2,rfl,by simp [e2],by simp,e4,fun T' r' x' ii' hk ho => ?_⟩;have:=Rows.cons (x:=y) (h.mono fun o hm=>hk o (by simp [hm])) (e5 T' r' x' ii' (fun o hm=>hk o (by
    rcases List.mem_append.1 hm with hm | hm<;>simp [hm])) ho)
   simpa using this
theorem Jo {m:Nat} {r1:List (List V)} {r:List V} {r2:List (List V)} {k q:Nat} {w:V} (h1 : ∀ s∈r1,s.length=m) (hk:r1.length=k) (hr:r[q]? = some w):(r1++r::r2).flatten[k*m+q]? = some w:=by
 have hq:q<r.length:=(List.getElem?_eq_some_iff.1 hr).1;have hl:=qX h1;rw [hk] at hl;rw [List.flatten_append,List.flatten_cons, ←hl,List.getElem?_append_right (by omega),Nat.add_sub_cancel_left,List.getElem?_append_left hq];exact hr
theorem Kb {m:Nat} {r1:List (List V)} {r:List V} {r2:List (List V)} {k q:Nat} {w:V} (h1 : ∀ s∈r1,s.length=m) (hk:r1.length=k) (hq:q<r.length):(r1++r::r2).flatten.set (k*m+q) w=(r1++r.set q w::r2).flatten:=by
 have hl:=qX h1;rw [hk] at hl;rw [List.flatten_append,List.flatten_cons, ←hl,List.set_append_right _ _ (by omega),Nat.add_sub_cancel_left,List.set_append_left _ _ hq,List.flatten_append,List.flatten_cons]
theorem ins_row {T:Store} {x:Ss.Ins} {r:List V} {ii:List Nat} (h:OwL T insD r (jm x).cells ii) : ∃ oa ou,r=[vint x.op,vu x.n, .slice oa 0 x.args.length, .slice ou 0 x.outs.length]∧ii=[oa,ou]∧T.get oa=some (1,x.args.map vint)∧T.get ou=some (1,x.outs.map vint):=by
 rw [jV] at h;generalize hA:vl vint x.args=A at h;generalize hB:vl vint x.outs=B at h
 cases h with
 | c h1 h=>cases h with
  | c h2 h=>cases h with
   | @s _ _ _ _ ca ys i j oa ho hs d h=>cases h with
    | @s _ _ _ _ cb zs i2 j2 ou ho2 hs2 d2 h=>cases h with
     | nil =>
      have e1:ys=x.args.map vint:=by
       have:V.list (x.args.map vint)=V.list ys:=hA;exact (V.list.inj this).symm
      have e2:zs=x.outs.map vint:=by
       have:V.list (x.outs.map vint)=V.list zs:=hB;exact (V.list.inj this).symm
      subst e1; subst e2;have c1:=zt (n:=(x.args.map vint).length*1) (by rw [←WC]; exact d);have c2:=zt (n:=(x.outs.map vint).length*1) (by rw [←WC]; exact d2);rw [qT,qI] at c1 c2;refine ⟨oa,ou,by simp, ?_, ?_, ?_⟩
      ·rw [c1.2,c2.2]; rfl
      ·rw [ho,c1.1]; rfl
      ·rw [ho2,c2.1]; rfl
theorem block_row {T:Store} {b:Ss.Block} {r:List V} {ii:List Nat} (h:OwL T blkD r (jd b).cells ii) : ∃ (op oc oe:Nat) (rs:List (List V)) (ce:List V) (ip ic ie:List Nat),r=[.slice op 0 b.params.length, .slice oc 0 b.code.length,vint b.term.kind,vint b.term.arg, .slice oe 0 b.term.to.length,vl vint b.term.args]∧ii=op::oc::(ic++oe::ie) ∧
  T.get op=some (1,b.params.map vint)∧T.get oc=some (4,rs.flatten)∧Rows T insD jm b.code rs ic∧T.get oe=some (2,ce)∧OwL T (reps b.term.to.length KS) ce (jh jk b.term.to) ie:=by
 rw [jK] at h;generalize hA:vl vint b.params=A at h;generalize hB:vl jm b.code=B at h;generalize hC:vl jk b.term.to=C at h
 cases h with
 | @s _ _ _ _ ca ys i j op ho hs d h=>cases h with
  | @s _ _ _ _ cb zs i2 j2 oc ho2 hs2 d2 h=>cases h with
   | c h1 h=>cases h with
    | c h2 h=>cases h with
     | @s _ _ _ _ cc us i3 j3 oe ho3 hs3 d3 h=>cases h with
      | c h3 h=>cases h with
       | nil =>
        have e1:ys=b.params.map vint:=by
         have:V.list (b.params.map vint)=V.list ys:=hA;exact (V.list.inj this).symm
        have e2:zs=b.code.map jm:=by
         have:V.list (b.code.map jm)=V.list zs:=hB;exact (V.list.inj this).symm
        have e3:us=b.term.to.map jk:=by
         have:V.list (b.term.to.map jk)=V.list us:=hC;exact (V.list.inj this).symm
        subst e1; subst e2; subst e3;have c1:=zt (n:=(b.params.map vint).length*1) (by rw [←WC]; exact d);rw [qT,qI] at c1;rw [List.length_map,qT] at d2 d3;obtain ⟨rs,rfl,hl,hr⟩:=ZR (fun x=>by rw [jV]; rfl) d2;refine ⟨op,oc,oe,rs,cc,[],i2,i3,by simp, ?_, ?_,ho2,hr,ho3,d3⟩
        ·rw [c1.2]; simp
        ·rw [ho,c1.1]; rfl
theorem jcw {T:Store} {b:Ss.Block} {op oc oe:Nat} {rs:List (List V)} {ce:List V} {ic ie:List Nat} (h1:T.get op=some (1,b.params.map vint)) (h2:T.get oc=some (4,rs.flatten)) (h3:Rows T insD jm b.code rs ic) (h4:T.get oe=some (2,ce)) (h5:OwL T (reps b.term.to.length KS) ce (jh jk b.term.to) ie) :
  OwL T blkD [.slice op 0 b.params.length, .slice oc 0 b.code.length,vint b.term.kind,vint b.term.arg, .slice oe 0 b.term.to.length,vl vint b.term.args] (jd b).cells (op::oc::(ic++oe::ie)):=by
 rw [jK];have hP:OwL T (.s [.c]::[.s insD, .c, .c, .s KS, .c]) (.slice op 0 b.params.length::[.slice oc 0 b.code.length,vint b.term.kind,vint b.term.arg, .slice oe 0 b.term.to.length,vl vint b.term.args]) (vl vint b.params::[vl jm b.code,vint b.term.kind,vint b.term.arg,vl jk b.term.to,vl vint b.term.args]) (op::oc::(ic++oe::ie)):=by
  refine OwL.slice (s:=1) (enc:=vint) (fun _=>rfl) (fun _=>rfl) b.params (by rw [qI]; exact h1) ?_;have h6:=h3.owl;have t1:OwL T [.s KS, .c] [.slice oe 0 b.term.to.length,vl vint b.term.args] [vl jk b.term.to,vl vint b.term.args] (oe::ie):=by
   have:=OwL.s (S:=T) (o:=oe) (tys:=KS) (cells:=ce) (ys:=b.term.to.map jk) (i:=ie) (j:=[]) h4 (fun y hy=>(by
    obtain ⟨e,_,rfl⟩:=List.mem_map.1 hy;exact ⟨by rw [qP]; rfl,qF e⟩)) (by rw [List.length_map,qT]; exact h5) (.c (x:=vl vint b.term.args) rfl .nil)
   rw [List.length_map,List.append_nil] at this;exact this
  have:=OwL.s (S:=T) (o:=oc) (tys:=insD) (cells:=rs.flatten) (ys:=b.code.map jm) (i:=ic) (j:=oe::ie) h2 (fun y hy=>(by
   obtain ⟨e,_,rfl⟩:=List.mem_map.1 hy;exact ⟨by rw [jV]; rfl,qC e⟩)) (by rw [List.length_map,qT]; exact h6) (.c (x:=vint b.term.kind) rfl (.c (x:=vint b.term.arg) rfl t1))
  rw [List.length_map] at this;exact this
 exact hP
end Go.Vw

namespace Go.Vw
open Go.Proofs Go.RowKit
set_option maxRecDepth 10000
/-! A table of lists, each one's own. -/
abbrev rowD:List Ty:=[.s [.c]]
theorem row_row {T:Store} {l:List Int} {r:List V} {ii:List Nat} (h:OwL T rowD r (vl vint l).cells ii) : ∃ o,r=[.slice o 0 l.length]∧ii=[o]∧T.get o=some (1,l.map vint):=by
 rw [WY] at h;generalize hA:vl vint l=A at h
 cases h with
 | @s _ _ _ _ ca ys i j op ho hs d h=>cases h with
  | nil =>
   have e1:ys=l.map vint:=by
    have:V.list (l.map vint)=V.list ys:=hA;exact (V.list.inj this).symm
   subst e1;have c1:=zt (n:=(l.map vint).length*1) (by rw [←WC]; exact d);rw [qT,qI] at c1;refine ⟨op,by simp, ?_, ?_⟩
   ·rw [c1.2]; rfl
   ·rw [ho,c1.1]; rfl
theorem row_mk {T:Store} {l:List Int} {o:Nat} (h:T.get o=some (1,l.map vint)):OwL T rowD [.slice o 0 l.length] (vl vint l).cells [o]:=by
 rw [WY];exact OwL.slice (enc:=vint) (fun _=>rfl) (fun _=>rfl) l (by rw [qI]; exact h) .nil
def Tab (T:Store) (N oa:Nat) (t:List (List Int)):Prop := ∃ (rs:List (List V)) (ids:List Nat),T.get oa=some (1,rs.flatten)∧Rows T rowD (vl vint) t rs ids∧ids.Nodup ∧ ∀ o∈ids,N≤o
theorem Tab.mono {T T':Store} {N oa:Nat} {t:List (List Int)} (h:Tab T N oa t) (h0:T'.get oa=T.get oa) (h1 : ∀ o,N≤o→(T.get o).isSome=true→T'.get o=T.get o):Tab T' N oa t:=by
 obtain ⟨rs,ids,g,hr,hn,hi⟩:=h;exact ⟨rs,ids,h0.trans g,hr.mono fun o ho=>h1 o (hi o ho) (hr.owl.alive o ho),hn,hi⟩
theorem rows1_flat {T:Store} {t:List (List Int)} {rs:List (List V)} {ids:List Nat} (h:Rows T rowD (vl vint) t rs ids):rs.flatten.length=t.length:=by
 have h1:=h.len;rw [qX (m:=1) fun r hr=>h1.2 r hr,h1.1]; omega
theorem Tab.at {T:Store} {N oa:Nat} {t:List (List Int)} (h:Tab T N oa t) {v:Nat} (hv:v<t.length) : ∃ (cells:List V) (o:Nat),T.get oa=some (1,cells)∧cells.length=t.length∧cells[v]? = some (.slice o 0 t[v].length)∧T.get o=some (1,t[v].map vint)∧N≤o ∧
  ∀ (T':Store) (o':Nat) (l':List Int),N≤o'→(T.get o'=none∨o'=o)→(∀ x,N≤x→x≠o→(T.get x).isSome=true→T'.get x=T.get x)→T'.get o'=some (1,l'.map vint)→T'.get oa=some (1,cells.set v (.slice o' 0 l'.length))→Tab T' N oa (t.set v l'):=by
 obtain ⟨rs,ids,g,hr,hn,hi⟩:=h;obtain ⟨r1,r,r2,i1,ii,i2,rfl,hl,rfl,hrow,hput⟩:=hr.at (List.getElem?_eq_getElem hv);obtain ⟨o,rfl,rfl,ho⟩:=row_row hrow;have hlen:=hr.len;have h1 : ∀ s∈r1,s.length=1:=fun s hs=>hlen.2 s (by simp [hs])
 have hg:=Jo (m:=1) (r1:=r1) (r:=[.slice o 0 t[v].length]) (r2:=r2) (q:=0) (w := .slice o 0 t[v].length) h1 hl rfl;have alive:=hr.owl.alive;refine ⟨_,o,g,rows1_flat hr,by simpa using hg,ho,hi o (by simp),fun T' o' l' hN ho' hk hg' hga => ?_⟩;have hs:=Kb (m:=1) (r1:=r1) (r:=[.slice o 0 t[v].length]) (r2:=r2) (q:=0) (w := .slice o' 0 l'.length) h1 hl (by simp);simp only [Nat.mul_one,Nat.add_zero,List.set_cons_zero] at hs;rw [hs] at hga;have hno : ∀ x∈i1++i2,x≠o:=by
  rintro x hx rfl;have hc:=List.nodup_iff_count.1 hn x;have hc1:1≤(i1++i2).count x:=List.count_pos_iff.2 hx;simp only [List.count_append,List.count_cons,beq_self_eq_true,if_true,List.count_nil] at hc hc1;omega
 refine ⟨_,i1++([o']++i2),hga,hput T' [.slice o' 0 l'.length] l' [o'] (fun x hx => ?_) (row_mk hg'), ?_,fun x hx => ?_⟩
 ·have hxm:x∈i1++([o]++i2):=by
   rcases List.mem_append.1 hx with h | h<;>simp [h]
  exact hk x (hi x hxm) (hno x hx) (alive x hxm)
 ·rcases ho' with ho' | rfl
  ·have hnm : ∀ x∈i1++i2,x≠o':=by
    rintro x hx rfl;have:=alive x (by rcases List.mem_append.1 hx with h | h<;>simp [h]);rw [ho'] at this; cases this
   refine List.nodup_iff_count.2 fun x => ?_
   have hc:=List.nodup_iff_count.1 hn x;simp only [List.count_append,List.count_cons,List.count_nil] at hc ⊢
   by_cases e:o'=x
   ·have hz:(i1++i2).count x=0:=List.count_eq_zero.2 fun hm=>hnm x hm e.symm
    simp only [List.count_append] at hz;have:(if (o'==x)=true then 1 else 0)≤1:=by split<;>omega
    omega
   ·have:(o'==x)=false:=by simpa using e
    rw [this];have h0:(if (o==x)=true then 1 else 0)≥0:=Nat.zero_le _;simp only [Bool.false_eq_true,if_false];omega
  ·exact hn
 ·simp only [List.mem_append,List.mem_singleton] at hx;rcases hx with h | h | h
  ·exact hi x (by simp [h])
  ·omega
  ·exact hi x (by simp [h])
end Go.Vw

namespace Go.Vw
open Go.Proofs Go.RowKit
set_option maxRecDepth 10000
/-! Blocks of one's own, of which one is turned at a time. -/
structure BInv (S H:Store) (hs:List Nat) (ob:Nat) (bs:List Ss.Block) (T:Store) (rs:List (List V)) (ids:List Nat):Prop where
 old:Agree S T
 hd : ∀ o∈hs,T.get o=H.get o
 al : ∀ o∈hs,(H.get o).isSome=true
 cb:T.get ob=some (6,rs.flatten)
 own:Rows T blkD jd bs rs ids
 nd:(hs++ob::ids).Nodup
 lt : ∀ o∈hs++ob::ids,S.nx≤o
theorem some_lt {T:Store} (hw:T.Wf) {o:Nat} (h:(T.get o).isSome=true):o<T.nx:=by
 cases hg:T.get o with
 | none=>rw [hg] at h; cases h
 | some c=>exact jA hw hg
theorem BInv.all_lt {S H:Store} {hs:List Nat} {ob:Nat} {bs:List Ss.Block} {T:Store} {rs:List (List V)} {ids:List Nat} (h:BInv S H hs ob bs T rs ids) (hw:T.Wf) : ∀ o∈hs++ob::ids,o<T.nx:=fun o ho=>by
 refine some_lt hw ?_;rcases List.mem_append.1 ho with ho | ho
 ·rw [h.hd o ho]; exact h.al o ho
 ·rcases List.mem_cons.1 ho with rfl | ho
  ·rw [h.cb]; rfl
  ·exact h.own.owl.alive o ho
theorem BInv.at {S H:Store} {hs:List Nat} {ob:Nat} {bs:List Ss.Block} {T:Store} {rs:List (List V)} {ids:List Nat} (h:BInv S H hs ob bs T rs ids) (hw:T.Wf) {i:Nat} (hi:i<bs.length) :
  ∃ (r1:List (List V)) (r2:List (List V)) (i1 i2:List Nat) (op oc oe:Nat) (rc:List (List V)) (ce:List V) (ip ic ie:List Nat),rs=r1++[.slice op 0 bs[i].params.length, .slice oc 0 bs[i].code.length,vint bs[i].term.kind,vint bs[i].term.arg, .slice oe 0 bs[i].term.to.length,vl vint bs[i].term.args]::r2∧(∀ s∈r1,s.length=6)∧r1.length=i ∧
   T.get op=some (1,bs[i].params.map vint)∧T.get oc=some (4,rc.flatten)∧Rows T insD jm bs[i].code rc ic∧T.get oe=some (2,ce)∧OwL T (reps bs[i].term.to.length KS) ce (jh jk bs[i].term.to) ie ∧
   ids=i1++((op::oc::(ic++oe::ie))++i2)∧(hs++ob::(op::oc::(ic++oe::ie))).Nodup ∧
   ∀ (T':Store) (r':List V) (b':Ss.Block) (ii':List Nat),T.nx≤T'.nx→(∀ o,o<T.nx→o≠ob→o∉op::oc::(ic++oe::ie)→T'.get o=T.get o)→T'.get ob=some (6,(r1++r'::r2).flatten)→OwL T' blkD r' (jd b').cells ii'→ii'.Nodup→(∀ o∈ii',o∈op::oc::(ic++oe::ie)∨T.nx≤o) →
    BInv S H hs ob (bs.set i b') T' (r1++r'::r2) (i1++(ii'++i2)):=by
 have hlt:=h.all_lt hw;obtain ⟨old,hd,al,cb,own,nd,lt⟩:=h;obtain ⟨r1,r,r2,i1,ii,i2,rfl,hl,rfl,hb,hput⟩:=own.at (List.getElem?_eq_getElem hi);have hr6:=own.len.2;obtain ⟨op,oc,oe,rc,ce,ip,ic,ie,rfl,rfl,hop,hoc,hrc,hoe,hie⟩:=block_row hb;have sub:List.Sublist (op::oc::(ic++oe::ie)) (i1++((op::oc::(ic++oe::ie))++i2)):=(List.sublist_append_left _ _).trans (List.sublist_append_right _ _);refine ⟨r1,r2,i1,i2,op,oc,oe,rc,ce,ip,ic,ie,rfl,fun s hs=>hr6 s (by simp [hs]),hl,hop,hoc,hrc,hoe,hie,rfl,List.Sublist.nodup ((List.Sublist.refl hs).append (sub.cons_cons ob)) nd, ?_⟩;intro T' r' b' ii' hnx hk hcb how hnd hin;generalize op::oc::(ic++oe::ie)=ii at *
 have cnt : ∀ o,(hs++ob::(i1++(ii++i2))).count o≤1:=fun o=>List.nodup_iff_count.1 nd o
 simp only [List.count_append,List.count_cons] at cnt;have pos : ∀ {o:Nat} {l:List Nat},o∈l→1≤l.count o:=fun h=>List.count_pos_iff.2 h
 have nob : ∀ o,o∈hs∨o∈i1∨o∈ii∨o∈i2→o≠ob:=by
  rintro o ho rfl;have c:=cnt o;simp only [beq_self_eq_true,if_true] at c;rcases ho with ho | ho | ho | ho<;>(have:=pos ho; omega)
 have nii : ∀ o,o∈hs∨o∈i1∨o∈i2→o∉ii:=by
  intro o ho hm;have c:=cnt o;have:=pos hm;rcases ho with ho | ho | ho<;>(have:=pos ho; omega)
 have keep : ∀ o,o∈hs∨o∈i1∨o∈i2→T'.get o=T.get o:=fun o ho=>by
  refine hk o (hlt o ?_) (nob o ?_) (nii o ho)
  ·rcases ho with ho | ho | ho<;>simp [ho]
  ·rcases ho with ho | ho | ho<;>simp [ho]
 refine ⟨⟨Nat.le_trans old.1 hnx,fun o ho => ?_⟩,fun o ho=>(keep o (.inl ho)).trans (hd o ho),al,hcb,hput T' r' b' ii' (fun o ho=>keep o ?_) how, ?_,fun o ho => ?_⟩
 ·rw [hk o (Nat.lt_of_lt_of_le ho old.1) ?_ ?_]
  ·exact old.2 o ho
  ·rintro rfl;have:=lt o (by simp); omega
  ·intro hm;have:=lt o (by simp [hm]); omega
 ·rcases List.mem_append.1 ho with ho | ho
  ·exact .inr (.inl ho)
  ·exact .inr (.inr ho)
 ·refine List.nodup_iff_count.2 fun o => ?_
  simp only [List.count_append,List.count_cons];have c:=cnt o
  by_cases hm:o∈ii'
  ·have h1:=List.nodup_iff_count.1 hnd o;rcases hin o hm with hm2 | hge
   ·have:=pos hm2; omega
   ·have z1:hs.count o=0:=List.count_eq_zero.2 fun h=>by have:=hlt o (by simp [h]); omega
    have z2:i1.count o=0:=List.count_eq_zero.2 fun h=>by have:=hlt o (by simp [h]); omega
    have z3:i2.count o=0:=List.count_eq_zero.2 fun h=>by have:=hlt o (by simp [h]); omega
    have z4:(if (ob==o)=true then 1 else 0)=0:=by
     have:=hlt ob (by simp);rw [if_neg];simp only [beq_iff_eq]; omega
    omega
  ·have:ii'.count o=0:=List.count_eq_zero.2 hm;omega
 ·simp only [List.mem_append,List.mem_cons] at ho;rcases ho with ho | ho | ho | ho | ho
  ·exact lt o (by simp [ho])
  ·exact lt o (by simp [ho])
  ·exact lt o (by simp [ho])
  ·rcases hin o ho with h | h
   ·exact lt o (by simp [h])
   ·have:=old.1; omega
  ·exact lt o (by simp [ho])
end Go.Vw

namespace Ss
open Go.Vw.G
def UpEnds (near:List Int):Nat→Int→Prop
 | 0,b=>b<0
 | k+1,b=>b<0∨(okIx near b∧UpEnds near k (near.getD b.toNat 0))
end Ss
namespace Go.Vw
open Go.Proofs Go.RowKit
set_option maxRecDepth 10000
set_option maxHeartbeats 2000000
def encFar (M:Ss.Far):List V:=M.map fun e => .tuple [.agg [.int .i64 e.1.1, .int .i64 e.1.2], .int .u64 e.2]
end Go.Vw

namespace Ss
open Go.Vw Go.Vw.G
theorem eqF_len {α:Type} {p:α→α→Bool} : ∀ {l m:List α},eqF p l m=true→l.length=m.length
 | [],[],_=>rfl
 | [],_::_,h=>by simp [eqF] at h
 | _::_,[],h=>by simp [eqF] at h
 | x::l,y::m,h=>by
  have:eqF p l m=true:=by
   simp only [eqF,Bool.and_eq_true] at h
   first | exact h.2 | exact h.2.2
  simp [eqF_len this]
theorem ends_of {g:List (List Nat)} (hg:Ok g) {near:List Int} (hN:NearOk g near) : ∀ (k:Nat) (b:Nat),b∈order g→rk g (order g) b<k→UpEnds near k b
 | 0,b,_,h=>by omega
 | k+1,b,hb,h=>by
  have ho:=order_ok hg;have hbl:=ho.lt b hb;have hok:okIx near (b:Int):=⟨by omega,by rw [hN.len]; omega⟩
  refine .inr ⟨hok, ?_⟩;rw [Int.toNat_natCast]
  by_cases hb0:b=0
  ·subst hb0;have:near.getD 0 0 = -1:=hN.zero;rw [this]
   cases k with
   | zero=>show (-1:Int)<0; omega
   | succ k=>exact .inl (by omega)
  ·obtain ⟨p,q1,q2,q3,q4,q5⟩:=hN.near b hb hb0;have hnd:near.getD b 0=(p:Int):=q1;rw [hnd];have hr:=q4.rk ho q2 hb q3;exact ends_of hg hN k p q2 (by omega)
structure Graphic (f:Fn):Prop where
 ok:Ok (nats (succs f.blocks))
 right:G.right (succs f.blocks)=true
 ord:G.ordI (succs f.blocks)=order (nats (succs f.blocks))
 near:G.nearI (succs f.blocks)=rNear (nats (succs f.blocks))
 len:(order (nats (succs f.blocks))).length=f.blocks.length
 lt : ∀ n∈order (nats (succs f.blocks)),n<f.blocks.length
 nlen:(rNear (nats (succs f.blocks))).length=f.blocks.length
 ends : ∀ n∈order (nats (succs f.blocks)),UpEnds (rNear (nats (succs f.blocks))) 256 n
 blocks:f.blocks.length≤256
theorem nats_succs_len (bs:List Block):(nats (succs bs)).length=bs.length:=by rw [nats_length,succs,List.length_map]
theorem graphic {e:Env} {f:Fn} (h:check e f=true):Graphic f:=by
 obtain ⟨h1,ds,hds,hsh,hB⟩:=check_spec h;have hr:G.right (succs f.blocks)=true:=by
  unfold shapeOk at hsh;simp only [Bool.and_eq_true] at hsh;exact hsh.1.1.1.1
 have hol:(G.ordI (succs f.blocks)).length=f.blocks.length:=by
  unfold shapeOk at hsh;simp only [Bool.and_eq_true,decide_eq_true_eq] at hsh;exact hsh.1.1.1.2
 have hok:=right_ok hr;have e1:G.ordI (succs f.blocks)=order (nats (succs f.blocks)):=by simp [G.ordI,hr]
 have e2:G.nearI (succs f.blocks)=rNear (nats (succs f.blocks)):=by simp [G.nearI,hr]
 have hN:=rNear_ok hok;have ho:=order_ok hok;have hl:=nats_succs_len f.blocks;rw [e1] at hol;have hmx:=hok.max;rw [hl] at hmx;exact ⟨hok,hr,e1,e2,hol,fun n hn=>by rw [←hl]; exact ho.lt n hn,by rw [hN.len,hl],fun n hn=>ends_of hok hN 256 n hn (by have:=rk_lt ho hn; omega),hmx⟩
theorem check_small {e:Env} {f:Fn} (h:check e f=true):f.small=true:=by
 have:=(check_spec h).1;unfold checkHead at this;simp only [Bool.and_eq_true] at this;exact this.1.1.1.1.2
end Ss

namespace Go.Vw
open Go.Proofs Go.RowKit
set_option maxRecDepth 10000
set_option maxHeartbeats 4000000
theorem jbf {f:Ss.Fn} (hf:f.Fits):Fits (Ss.succs f.blocks):=by
 refine ⟨by rw [Ss.succs,List.length_map]; have:=hf.2.2.1; omega,fun l hl => ?_⟩;obtain ⟨b,hb,rfl⟩:=List.mem_map.1 hl;have:=(hf.2.2.2 b hb).2.2.2.2.1.1;rw [Ss.rowOf,List.length_map]; omega
def vToInt:V→Int
 | .int _ n=>n
 | _=>0
def insOf (S:Store):List V→Ss.Ins
 | [.int _ op, .int _ n, .slice oa _ _,_]=>⟨op,n,((S.get oa).getD (0,[])).2.map vToInt,[]⟩
 | _=>default
structure RunInv (S:Store) (p4 pg pr pm pf ot ob:Nat) (hd:List V) (ts near:List Int) (bs:List Ss.Block) (M:Ss.Far) (T:Store) (rs:List (List V)) (ids:List Nat):Prop where
 old:Agree S T
 c4:T.get p4=some (4,[V.nils,V.nils,V.nils,V.nils])
 cg:T.get pg=some (4,hd)
 cr:T.get pr=some (1,[vl vint near])
 cm:T.get pm=some (0,encFar M)
 cf:T.get pf=some (1,[.map pm])
 ct:T.get ot=some (1,ts.map vint)
 cb:T.get ob=some (6,rs.flatten)
 own:Rows T blkD jd bs rs ids
 nd:(p4::pg::pr::pf::pm::ot::ob::ids).Nodup
 lt : ∀ o∈p4::pg::pr::pf::pm::ot::ob::ids,S.nx≤o
 fits : ∀ b∈bs, ∀ x∈b.code,x.Fits∧(x.op=257→x.args≠[]∧x.n≤8589934592)
 len : ∀ b∈bs,b.code.length<2^62
end Go.Vw
