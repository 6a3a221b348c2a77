import Derived.Test.YtenhhokhkkfgbaaGreatC15
import Derived.Test.YtenhhokhkkfgbaaGreatC27
import Derived.Test.YtenhhokhkkfgbaaGreatC21
import Derived.Test.YtenhhokhkkfgbaaGreatC12
/-
  Part of the proof (texts VThaw, SShp, BDel, GNearTh2, BPlain).
-/
set_option linter.unusedVariables false
set_option linter.unusedSimpArgs false
/-
 Pure calls on what is owned: it stays owned. What is owned may be written to.
-/
namespace Go.Vw
open Go.RowKit
theorem OwL.write {S:Store} {ts:List Ty} {rs xs:List V} {ids:List Nat} (h:OwL S ts rs xs ids) {o s j:Nat} {cells:List V} {u v:V} (hg:S.get o=some (s,cells)) (hj:cells[j]? = some u) (hu:u.closed1=true) (hv:v.closed1=true) :
  ids.Nodup → ∃ xs',OwL (S.upd o (s,cells.set j v)) ts rs xs' ids:=by
 induction h with
 | nil=>exact fun _=>⟨[], .nil⟩
 | c h _ ih =>
  intro hn
  obtain ⟨xs',h'⟩:=ih hn
  exact ⟨_, .c h h'⟩
 | @s tys ts rs xs cells' ys i j' o' h' hs d t ih1 ih2 =>
  intro hn
  obtain ⟨hno,hnij⟩:=List.nodup_cons.1 hn
  obtain ⟨hni,hnj,_⟩:=List.nodup_append.1 hnij
  obtain ⟨x2,t'⟩:=ih2 hnj
  by_cases e:o'=o
  ·subst e
   rw [hg] at h'
   cases h'
   -- the object itself: its cells are owned in the store of before
   have hoi:o'∉i:=fun hm=>hno (by simp [hm])
   have d0:OwL (S.upd o' (tys.length,cells.set j v)) (reps ys.length tys) cells (ys.flatMap V.cells) i:=d.mono fun q hq=>jI fun e=>hoi (e▸hq)
   have gen : ∀ {us:List Ty} {cs zs:List V} {ii:List Nat} {T:Store} {q:Nat},OwL T us cs zs ii→cs[q]? = some u → ∃ zs',OwL T us (cs.set q v) zs' ii:=by
    intro us cs zs ii T q hh
    induction hh generalizing q with
    | nil=>intro hq; simp at hq
    | c hx tt ihh =>
     intro hq
     cases q with
     | zero=>exact ⟨_, .c hv tt⟩
     | succ q =>
      obtain ⟨zs',h2⟩:=ihh (q:=q) (by simpa using hq)
      exact ⟨_, .c hx h2⟩
    | s ho2 hs2 d2 t2 _ ihh =>
     intro hq
     cases q with
     | zero =>
      simp only [List.getElem?_cons_zero,Option.some.injEq] at hq
      rw [←hq] at hu; simp [V.closed1] at hu
     | succ q =>
      obtain ⟨zs',h2⟩:=ihh (q:=q) (by simpa using hq)
      exact ⟨_, .s ho2 hs2 d2 h2⟩
   obtain ⟨zs',d1⟩:=gen d0 hj
   have hzl:zs'.length=ys.length*tys.length:=by rw [d1.len.2,qR]
   obtain ⟨u1,u2,u3⟩:=JW tys.length ys.length zs' hzl d1.closed
   have hw:=OwL.s (S:=S.upd o' (tys.length,cells.set j v)) (o:=o') (tys:=tys) (cells:=cells.set j v) (ys:=Jw tys.length ys.length zs') zp u3 (by rw [u1,u2]; exact d1) t'
   rw [u1] at hw
   exact ⟨_,hw⟩
  ·obtain ⟨x1,d'⟩:=ih1 hni
   have hzl:x1.length=ys.length*tys.length:=by rw [d'.len.2,qR]
   obtain ⟨u1,u2,u3⟩:=JW tys.length ys.length x1 hzl d'.closed
   have hw:=OwL.s (S:=S.upd o (s,cells.set j v)) (o:=o') (tys:=tys) (cells:=cells') (ys:=Jw tys.length ys.length x1) (by rw [jI e]; exact h') u3 (by rw [u1,u2]; exact d') t'
   rw [u1] at hw
   exact ⟨_,hw⟩
theorem OwL.elem {S:Store} {tys:List Ty} {cells xs:List V} {ids:List Nat} {n i:Nat} (h:OwL S (reps n tys) cells xs ids) (hi:i<n) : ∃ (c1 r c2 x1 x x2:List V) (i1 ii i2:List Nat),cells=c1++(r++c2)∧c1.length=i*tys.length∧xs=x1++(x++x2)∧ids=i1++(ii++i2)∧OwL S (reps i tys) c1 x1 i1∧OwL S tys r x ii∧OwL S (reps (n-i-1) tys) c2 x2 i2:=by
 have e1:reps n tys=reps i tys++(tys++reps (n-i-1) tys):=by
  rw [←zN, ←jbm]; congr 1; omega
 rw [e1] at h
 obtain ⟨r1,r2,x1,x2,i1,i2,rfl,rfl,rfl,k1,k2⟩:=h.split
 obtain ⟨r3,r4,x3,x4,i3,i4,rfl,rfl,rfl,k3,k4⟩:=k2.split
 exact ⟨r1,r3,r4,x1,x3,x4,i1,i3,i4,rfl,by rw [k1.len.1,qR],rfl,rfl,k1,k3,k4⟩
end Go.Vw

namespace Go.Vw
open Go.Proofs Go.RowKit
theorem OwL.cell {T:Store} {us:List Ty} {cs zs:List V} {ii:List Nat} {u v:V} (h:OwL T us cs zs ii) (hu:u.closed1=true) (hv:v.closed1=true) : ∀ {q:Nat},cs[q]? = some u → ∃ zs',OwL T us (cs.set q v) zs' ii:=by
 induction h with
 | nil=>intro q hq; simp at hq
 | c hx tt ihh =>
  intro q hq
  cases q with
  | zero=>exact ⟨_, .c hv tt⟩
  | succ q =>
   obtain ⟨zs',h2⟩:=ihh (q:=q) (by simpa using hq)
   exact ⟨_, .c hx h2⟩
 | s ho2 hs2 d2 t2 _ ihh =>
  intro q hq
  cases q with
  | zero =>
   simp only [List.getElem?_cons_zero,Option.some.injEq] at hq
   rw [←hq] at hu; simp [V.closed1] at hu
  | succ q =>
   obtain ⟨zs',h2⟩:=ihh (q:=q) (by simpa using hq)
   exact ⟨_, .s ho2 hs2 d2 h2⟩
def At (T:Store) (o p:Nat) (w:V):Prop := ∃ s cs,T.get o=some (s,cs)∧cs[p]? = some w
theorem At.write {T:Store} {o p o' s q a b c:Nat} {cs:List V} {u v:V} (h:At T o p (.slice a b c)) (hg:T.get o'=some (s,cs)) (hq:cs[q]? = some u) (hu:u.closed1=true):At (T.upd o' (s,cs.set q v)) o p (.slice a b c):=by
 obtain ⟨s1,cs1,h1,h2⟩:=h
 by_cases e:o=o'
 ·subst e
  rw [hg] at h1
  cases h1
  refine ⟨s,cs.set q v,zp, ?_⟩
  have hne:q≠p:=fun e=>by
   subst e
   rw [hq] at h2
   cases h2
   simp [V.closed1] at hu
  rw [List.getElem?_set_ne hne]; exact h2
 ·exact ⟨s1,cs1,by rw [jI e]; exact h1,h2⟩
inductive Lim:V→Prop
 | c {x:V} (h : ∀ ys,x ≠ .list ys):Lim x
 | l {ys:List V} (h:ys.length≤140737488355328) (k : ∀ y∈ys, ∀ z∈y.cells,Lim z):Lim (.list ys)
def LimO (T:Store) (ids:List Nat):Prop := ∀ o∈ids, ∀ w cs,T.get o=some (w,cs)→cs.length≤140737488355328*w
theorem OwL.lim {T:Store} {us:List Ty} {cs zs:List V} {ii:List Nat} (h:OwL T us cs zs ii):(∀ z∈zs,Lim z)→LimO T ii:=by
 induction h with
 | nil=>intro _ o ho; simp at ho
 | c _ _ ih=>exact fun hz=>ih fun z hz'=>hz z (by simp [hz'])
 | @s tys ts rs xs cells ys i j o ho hs d t ihd iht =>
  intro hz
  have h1:Lim (.list ys):=hz _ (by simp)
  cases h1 with
  | c h=>exact absurd rfl (h ys)
  | l hl hk =>
   intro o' ho' w cs hg
   rcases List.mem_cons.1 ho' with rfl | h2
   ·rw [ho] at hg
    cases hg
    rw [d.len.1,qR]
    exact Nat.mul_le_mul_right _ hl
   ·rcases List.mem_append.1 h2 with h2 | h2
    ·refine ihd (fun z hz' => ?_) o' h2 w cs hg
     obtain ⟨y,hy,hzy⟩:=List.mem_flatMap.1 hz'
     exact hk y hy z hzy
    ·exact iht (fun z hz'=>hz z (by simp [hz'])) o' h2 w cs hg
theorem WA {l:List Int} (h:l.length≤140737488355328):Lim (vl vint l):=by
 refine .l (by simpa using h) fun y hy z hz => ?_
 obtain ⟨i,_,rfl⟩:=List.mem_map.1 hy
 simp only [vint,V.cells,List.mem_singleton] at hz
 subst hz
 exact .c fun _ e=>by cases e
theorem lim_block {b:Ss.Block} (h:b.Fits) : ∀ z∈(jc b).cells,Lim z:=by
 obtain ⟨hp,⟨hc,hc2⟩,_,_,⟨ht,ht2⟩,hr⟩:=h
 intro z hz
 simp only [jc,V.cells,List.mem_cons,List.not_mem_nil,or_false] at hz
 rcases hz with rfl | rfl | rfl | rfl | rfl | rfl
 ·exact WA hp.1
 ·refine .l (by simpa using hc) fun y hy z hz => ?_
  obtain ⟨x,hx,rfl⟩:=List.mem_map.1 hy
  obtain ⟨_,_,ha,ho⟩:=hc2 x hx
  simp only [jl,V.cells,List.mem_cons,List.not_mem_nil,or_false] at hz
  rcases hz with rfl | rfl | rfl | rfl
  ·exact .c fun _ e=>by cases e
  ·exact .c fun _ e=>by cases e
  ·exact WA ha.1
  ·exact WA ho.1
 ·exact .c fun _ e=>by cases e
 ·exact .c fun _ e=>by cases e
 ·refine .l (by simpa using ht) fun y hy z hz => ?_
  obtain ⟨x,hx,rfl⟩:=List.mem_map.1 hy
  obtain ⟨_,ha⟩:=ht2 x hx
  simp only [jh,V.cells,List.mem_cons,List.not_mem_nil,or_false] at hz
  rcases hz with rfl | rfl
  ·exact .c fun _ e=>by cases e
  ·exact WA ha.1
 ·exact WA hr.1
structure Shp (S T0:Store) (ob n:Nat) (ids:List Nat) (T1:Store):Prop where
 nx:T1.nx=T0.nx
 wf:T1.Wf
 old : ∀ o,o<S.nx→T1.get o=S.get o
 own : ∃ cells xs,T1.get ob=some (6,cells)∧OwL T1 (reps n blkD) cells xs ids
 lim:LimO T1 ids
theorem Shp.write {S T0 T1:Store} {ob n o s q:Nat} {ids:List Nat} {cs:List V} {u v:V} (h:Shp S T0 ob n ids T1) (hnd:(ob::ids).Nodup) (hid : ∀ o∈ob::ids,S.nx≤o∧o<T0.nx) (ho:o∈ob::ids) (hg:T1.get o=some (s,cs)) (hq:cs[q]? = some u) (hu:u.closed1=true) (hv:v.closed1=true) :
  Shp S T0 ob n ids (T1.upd o (s,cs.set q v)):=by
 obtain ⟨h1,h2,h3,⟨cells,xs,h4,h5⟩,h7⟩:=h
 have hon:=hid o ho
 have hcw:V.idsL (fun o=>decide (o<T1.nx)) (cs.set q v)=true:=by
  have:=h2.ids o _ hg
  simp only [qM,List.all_eq_true] at this ⊢
  intro x hx
  rcases List.mem_or_eq_of_mem_set hx with hx | rfl
  ·exact this x hx
  ·exact Wn hv _
 refine ⟨h1,Zf h2 (by omega) hcw,fun o' ho' => ?_, ?_,fun o' ho' w c hgo => ?_⟩
 ·rw [jI (by omega)]; exact h3 o' ho'
 ·have hn2:=List.nodup_cons.1 hnd
  by_cases e:o=ob
  ·subst e
   rw [hg] at h4
   cases h4
   obtain ⟨xs',h6⟩:=h5.cell hu hv hq
   exact ⟨cs.set q v,xs',zp,h6.mono fun o' ho'=>jI fun e=>hn2.1 (e▸ho')⟩
  ·obtain ⟨xs',h6⟩:=h5.write hg hq hu hv hn2.2
   exact ⟨cells,xs',by rw [jI (fun e'=>e e'.symm)]; exact h4,h6⟩
 ·by_cases e:o'=o
  ·subst e
   rw [zp] at hgo
   cases hgo
   rw [List.length_set]
   exact h7 o' ho' _ _ hg
  ·rw [jI e] at hgo
   exact h7 o' ho' w c hgo
theorem insD_inv {T:Store} {r x:List V} {ii:List Nat} (h:OwL T insD r x ii) : ∃ (u v:V) (oa na ou nu:Nat) (ca:List V),r=[u,v, .slice oa 0 na, .slice ou 0 nu]∧u.closed1=true∧oa∈ii∧T.get oa=some (1,ca)∧ca.length=na ∧ ∀ c∈ca,c.closed1=true:=by
 cases h with
 | c h1 h=>cases h with
  | c h2 h=>cases h with
   | @s _ _ _ _ ca ys i j oa ho hs d h=>cases h with
    | s ho2 hs2 d2 h=>cases h with
     | nil =>
      have hl:ca.length=ys.length:=by rw [d.len.1,qR]; simp
      have e:=zm (n:=ys.length*1) (by rw [←KT]; exact d)
      exact ⟨_,_,oa,_,_,_,ca,rfl,h1,by simp,ho,hl,by rw [e.1]; exact d.closed⟩
theorem edgeD_inv {T:Store} {r x:List V} {ii:List Nat} (h:OwL T Km r x ii) : ∃ (u:V) (oa na:Nat),r=[u, .slice oa 0 na]∧u.closed1=true:=by
 cases h with
 | c h1 h=>cases h with
  | s ho hs d h=>cases h with
   | nil=>exact ⟨_,_,_,rfl,h1⟩
theorem blkD_inv {T:Store} {r x:List V} {ii:List Nat} (h:OwL T blkD r x ii) : ∃ (op np oc nc oe ne:Nat) (u a z:V) (cc ce xi xe:List V) (ci ei:List Nat),r=[.slice op 0 np, .slice oc 0 nc,u,a, .slice oe 0 ne,z]∧u.closed1=true∧oc∈ii∧T.get oc=some (4,cc)∧OwL T (reps nc insD) cc xi ci∧(∀ o∈ci,o∈ii) ∧
  oe∈ii∧T.get oe=some (2,ce)∧OwL T (reps ne Km) ce xe ei:=by
 cases h with
 | s ho hs d h=>cases h with
  | s ho2 hs2 d2 h=>cases h with
   | c h1 h=>cases h with
    | c h2 h=>cases h with
     | s ho3 hs3 d3 h=>cases h with
      | c h3 h=>cases h with
       | nil=>exact ⟨_,_,_,_,_,_,_,_,_,_,_,_,_,_,_,rfl,h1,by simp,ho2,d2,fun o ho=>by simp [ho],by simp,ho3,d3⟩
theorem zF {c1 r c2:List V} {i m p:Nat} {w:V} (hc:c1.length=i*m) (hr:r[p]? = some w):(c1++(r++c2))[i*m+p]? = some w:=by
 have hp:p<r.length:=(List.getElem?_eq_some_iff.1 hr).1
 rw [←hc,List.getElem?_append_right (by omega),Nat.add_sub_cancel_left,List.getElem?_append_left hp]
 exact hr
theorem Shp.block {S T0 T1:Store} {ob n k:Nat} {ids:List Nat} (h:Shp S T0 ob n ids T1) (hk:k<n) : ∃ (cells:List V) (oc nc oe ne:Nat) (u:V) (cc ce:List V),T1.get ob=some (6,cells)∧cells[k*6+1]? = some (.slice oc 0 nc)∧cells[k*6+2]? = some u∧u.closed1=true∧cells[k*6+4]? = some (.slice oe 0 ne) ∧
  oc∈ids∧T1.get oc=some (4,cc)∧oe∈ids∧T1.get oe=some (2,ce)∧nc≤140737488355328∧ne≤140737488355328∧(∀ j<nc, ∃ (u:V) (oa na:Nat) (ca:List V),cc[j*4]? = some u∧u.closed1=true∧cc[j*4+2]? = some (.slice oa 0 na)∧oa∈ids∧T1.get oa=some (1,ca)∧ca.length=na∧na≤140737488355328 ∧ ∀ c∈ca,c.closed1=true) ∧ ∀ q<ne, ∃ u:V,ce[q*2]? = some u∧u.closed1=true:=by
 obtain ⟨cells,xs,h4,h5⟩:=h.own
 obtain ⟨c1,r,c2,x1,x,x2,i1,ii,i2,rfl,hl,rfl,rfl,k1,k2,k3⟩:=h5.elem hk
 obtain ⟨op,np,oc,nc,oe,ne,u,a,z,cc,ce,xi,xe,ci,ei,rfl,hu,hoc,hcc,hci,hcs,hoe,hce,hei⟩:=blkD_inv k2
 refine ⟨_,oc,nc,oe,ne,u,cc,ce,h4,zF (m:=6) (p:=1) hl rfl,zF (m:=6) (p:=2) hl rfl,hu,zF (m:=6) (p:=4) hl rfl,by simp [hoc],hcc,by simp [hoe],hce, ?_, ?_,fun j hj => ?_,fun q hq => ?_⟩
 ·have h8:=h.lim oc (by simp [hoc]) _ _ hcc
  have h9:cc.length=nc*4:=by rw [hci.len.1,qR]; rfl
  omega
 ·have h8:=h.lim oe (by simp [hoe]) _ _ hce
  have h9:ce.length=ne*2:=by rw [hei.len.1,qR]; rfl
  omega
 ·obtain ⟨d1,s,d2,y1,y,y2,j1,jj,j2,rfl,hl2,rfl,rfl,m1,m2,m3⟩:=hci.elem hj
  obtain ⟨u',v',oa,na,ou,nu,ca,rfl,hu',hoa,hca,hcl,hcc'⟩:=insD_inv m2
  exact ⟨u',oa,na,ca,by have:=zF (m:=4) (p:=0) (c2:=d2) hl2 (r:=[u',v', .slice oa 0 na, .slice ou 0 nu]) rfl; simpa using this,hu',zF (m:=4) (p:=2) hl2 rfl,by have:=hcs oa (by simp [hoa]); simp [this],hca,hcl,by have:=h.lim oa (by have:=hcs oa (by simp [hoa]); simp [this]) _ _ hca; omega,hcc'⟩
 ·obtain ⟨d1,s,d2,y1,y,y2,j1,jj,j2,rfl,hl2,rfl,rfl,m1,m2,m3⟩:=hei.elem hq
  obtain ⟨u',oa,na,rfl,hu'⟩:=edgeD_inv m2
  exact ⟨u',by have:=zF (m:=2) (p:=0) (c2:=d2) hl2 (r:=[u', .slice oa 0 na]) rfl; simpa using this,hu'⟩
theorem At.same {T:Store} {o p s:Nat} {cs:List V} {w w':V} (h:At T o p w) (hg:T.get o=some (s,cs)) (hw:cs[p]? = some w'):w'=w:=by
 obtain ⟨s1,cs1,h1,h2⟩:=h
 rw [hg] at h1
 cases h1
 rw [hw] at h2
 exact Option.some.inj h2
theorem Wo {B:Store} {o:Nat} {c:Nat × List V} {l:List (Option (Nat × List V))} (ho:o<B.nx):(St B [] l).upd o c=St (B.upd o c) [] l:=by
 refine Store.ext' (funext fun o' => ?_) rfl
 have e:(B.upd o c).nx=B.nx:=rfl
 rw [qB,zi,zi,e,qB]
 by_cases h:o'=o
 ·subst h; simp [ho,uGet]
 ·by_cases h2:o'<B.nx
  ·simp [h,h2,uGet]
  ·simp [h,h2,uGet]
end Go.Vw

namespace Go.Vw
open Go.Proofs Go.RowKit
set_option maxRecDepth 10000
set_option maxHeartbeats 2000000
def idxG {α ρ:Type} (p:α→ρ→Bool) (nx:α→ρ→α):α→List ρ→Nat→Int × α
 | a,[],_=>(-1,a)
 | a,r::rs,k=>if p a r then ((k:Int),nx a r) else idxG p nx (nx a r) rs (k+1)
def delG {α ρ:Type} (p:α→ρ→Bool) (nx:α→ρ→α):α→List ρ→List ρ × α
 | a,[]=>([],a)
 | a,r::rs=>if p a r then delG p nx (nx a r) rs else (r::(delG p nx (nx a r) rs).1,(delG p nx (nx a r) rs).2)
theorem jby {α ρ:Type} (p:α→ρ→Bool) (nx:α→ρ→α) : ∀ (rs:List ρ) (a:α) (k:Nat),((idxG p nx a rs k).1 = -1∧delG p nx a rs=(rs,(idxG p nx a rs k).2)) ∨ ∃ i:Nat,i<rs.length∧(idxG p nx a rs k).1=(k+i:Nat)∧delG p nx a rs=(rs.take i++(delG p nx (idxG p nx a rs k).2 (rs.drop (i+1))).1,(delG p nx (idxG p nx a rs k).2 (rs.drop (i+1))).2)
 | [],a,k => .inl ⟨rfl,rfl⟩
 | r::rs,a,k=>by
  by_cases h:p a r=true
  ·refine .inr ⟨0,by simp, ?_, ?_⟩
   ·simp [idxG,h]
   ·simp [delG,idxG,h]
  ·have e1:idxG p nx a (r::rs) k=idxG p nx (nx a r) rs (k+1):=by simp [idxG,h]
   have e2:delG p nx a (r::rs)=(r::(delG p nx (nx a r) rs).1,(delG p nx (nx a r) rs).2):=by simp [delG,h]
   rcases jby p nx rs (nx a r) (k+1) with ⟨h1,h2⟩ | ⟨i,hi,h1,h2⟩
   ·exact .inl ⟨by rw [e1,h1],by rw [e2,h2,e1]⟩
   ·refine .inr ⟨i+1,by simp; omega,by rw [e1,h1]; congr 1; omega, ?_⟩
    rw [e2,e1,h2]
    simp
theorem zG {m:Nat} : ∀ {rows:List (List V)},(∀ r∈rows,r.length=m)→rows.flatten.length=rows.length*m
 | [],_=>by simp
 | r::rs,h=>by rw [List.flatten_cons,List.length_append,h r (by simp),zG fun x hx=>h x (by simp [hx]),List.length_cons,Nat.succ_mul]; omega
theorem ZS {m:Nat} : ∀ {rows:List (List V)} (k:Nat),(∀ r∈rows,r.length=m)→rows.flatten.take (k*m)=(rows.take k).flatten
 | [],k,_=>by simp
 | r::rs,0,h=>by simp
 | r::rs,k+1,h=>by
  have hr:=h r (by simp)
  rw [List.flatten_cons,List.take_succ_cons,List.flatten_cons, ←ZS k fun x hx=>h x (by simp [hx]),Nat.succ_mul,List.take_append,hr]
  rw [show k*m+m-m=k*m by omega,List.take_of_length_le (by rw [hr]; omega)]
theorem flat_drop {m:Nat} {rows:List (List V)} (k:Nat) (h : ∀ r∈rows,r.length=m):rows.flatten.drop (k*m)=(rows.drop k).flatten:=by
 have e:=List.take_append_drop (k*m) rows.flatten
 have e2:rows.flatten=(rows.take k).flatten++(rows.drop k).flatten:=by rw [←List.flatten_append,List.take_append_drop]
 rw [ZS k h] at e
 exact List.append_cancel_left (e.trans e2)
theorem flat_row {m:Nat} {rows:List (List V)} {k:Nat} (h : ∀ r∈rows,r.length=m) (hk:k<rows.length):(rows.flatten.drop (k*m)).take m=rows[k]:=by
 rw [flat_drop k h,List.drop_eq_getElem_cons hk,List.flatten_cons,List.take_append_of_le_length (by rw [h _ (List.getElem_mem hk)]; omega),List.take_of_length_le (by rw [h _ (List.getElem_mem hk)]; omega)]
theorem splice_len (cs:List V) (q:Nat) (xs:List V) (h:q+xs.length≤cs.length):(qb cs q xs).length=cs.length:=by
 simp only [qb,List.length_append,List.length_take,List.length_drop]; omega
theorem Zj (cs:List V) (q:Nat) (xs:List V) (h:q+xs.length≤cs.length):(qb cs q xs).take (q+xs.length)=cs.take q++xs:=by
 rw [qb,List.take_append_of_le_length (by simp; omega),List.take_of_length_le (by simp; omega)]
theorem Yp (cs:List V) (q:Nat) (xs:List V) (h:q≤cs.length):(qb cs q xs).take q=cs.take q:=by
 rw [qb,List.append_assoc,List.take_append_of_le_length (by simp; omega),List.take_take,Nat.min_self]
theorem Zk (cs:List V) (q r:Nat) (xs:List V) (h:q+xs.length≤cs.length) (hr:q+xs.length≤r):(qb cs q xs).drop r=cs.drop r:=by
 have h1:(cs.take q).length=q:=by rw [List.length_take]; omega
 rw [qb,List.drop_append,List.drop_eq_nil_of_le (by simp; omega),List.nil_append,List.drop_drop,List.length_append,h1]
 congr 1; omega
section
variable {α:Type} (I:α→Store→Prop) (p:α→List V→Bool) (nx:α→List V→α) {oc N:Nat} {rows:List (List V)} {fid:FuncId} {caps:List V}
theorem IndexDel_v (hc:jO Tryz.prog fid=true) (hr4 : ∀ r∈rows,r.length=4) (hlim:rows.length<2^62) (hN:oc<N)
  (hloc : ∀ a S S',(∀ o,o<N→o≠oc→S'.get o=S.get o)→I a S→I a S')
  (hdel : ∀ a S r,r∈rows→I a S→N≤S.nx→VCalls Tryz.prog fid (.agg r::caps) S fun v T=>v = .bool (p a r)∧I (nx a r) T∧S.nx≤T.nx ∧ ∀ o,o<S.nx→(N≤o∨o=oc)→T.get o=S.get o)
  {a:α} {S:Store} (hI:I a S) (hS:N≤S.nx) (hg:S.get oc=some (4,rows.flatten)) :
  VCalls Tryz.prog 72 [.slice oc 0 rows.length, .func fid caps] S fun v T=>v=vint (idxG p nx a rows 0).1∧I (idxG p nx a rows 0).2 T∧N≤T.nx∧T.get oc=some (4,rows.flatten):=by
 have b0:=fun u l => @jk S u l oc (by omega)
 have hfl:=zG hr4
 refine jb (c:=jg Tryz.f72) Tryz.func72 rfl rfl (by simp [Tryz.ntmps72]) ?_
 rw [Tryz.ntmps72]
 intro hwf
 repeat (first|refine QG ?_|refine QY ?_ (r:=by conv=>lhs;simp[-List.map_set,QV,b0,hg]))
 repeat refine QS ?_
 refine je [0,1,7,8] rfl (fun c σ S' => ∃ (b:α) (k:Nat),I b S'∧N≤S'.nx∧S'.get oc=some (4,rows.flatten)∧k≤rows.length∧c=rows.length-k∧idxG p nx b (rows.drop k) k=idxG p nx a rows 0∧σ=[(0, .slice oc 0 rows.length),(1, .func fid caps),(7,vnat rows.length),(8,vnat k)]) rows.length ?_ ?_
 ·exact ⟨a,0,by rw [jQ hwf]; exact hI,by rw [jQ hwf]; exact hS,by rw [jQ hwf]; exact hg,by omega,rfl,rfl,by simp [Fr.only]⟩
 ·rintro c σ T ⟨b,k,hIb,hT,hgT,hk,rfl,hd,rfl⟩
  refine KP fun hwT=>zY hwT ?_
  have bT:=fun u l => @jk T u l oc (by omega)
  by_cases hkt:k<rows.length
  ·have hst:idxG p nx b (rows.drop k) k=if p b rows[k] then ((k:Int),nx b rows[k]) else idxG p nx (nx b rows[k]) (rows.drop (k+1)) (k+1):=by rw [List.drop_eq_getElem_cons hkt,idxG]
   have hw:=jm hkt (by omega)
   have hrow:=flat_row hr4 hkt
   have hle:k*4+4≤rows.length*4:=by omega
   repeat (first|refine QG ?_|refine QY ?_ (r:=by conv=>lhs;simp[-List.map_set,QV,hkt,bT,hgT]))
   repeat refine QS ?_
   refine QP ?_ (r:=by conv=>lhs;simp[-List.map_set,QV,hkt,bT,hgT,hfl,hle,hrow])
   refine qF rfl hc rfl (hdel b _ _ (List.getElem_mem hkt) (by rw [jQ hwT]; exact hIb) (by rw [jQ hwT]; exact hT)) ?_
   rintro X T2 ⟨rfl,hI2,hT2,hg2⟩
   rw [jQ hwT] at hT2 hg2
   have hg3:=(hg2 oc (by omega) (.inr rfl)).trans hgT
   cases hp:p b rows[k] with
   | true =>
    rw [hp] at hst
    simp only [if_true] at hst
    rw [hst] at hd
    refine QM (by conv=>lhs;simp[-List.map_set,QV]) ?_
    refine QN ?_
    repeat (first|refine QG ?_|refine QY ?_)
    refine qE ⟨?_, ?_,by omega,hg3⟩
    ·rw [←hd]; rfl
    ·rw [←hd]; exact hI2
   | false =>
    rw [hp] at hst
    simp only [Bool.false_eq_true,if_false] at hst
    refine QM (by conv=>lhs;simp[-List.map_set,QV]) ?_
    refine QN ?_
    repeat (first|refine QG ?_|refine QY ?_ (r:=by conv=>lhs;simp[-List.map_set,QV,hw]))
    show jt _ _ _ _ _ _ _
    exact again ⟨Nat.sub_lt_sub_left hkt (Nat.lt_succ_self k),nx b rows[k],k+1,hI2,by omega,hg3,hkt,rfl,by rw [←hd,hst],by simp [Fr.only,Fr.look]⟩
  ·have e:rows.drop k=[]:=by rw [List.drop_eq_nil_iff]; omega
   rw [e] at hd
   simp only [idxG] at hd
   repeat (first|refine QG ?_|refine QY ?_ (r:=by conv=>lhs;simp[-List.map_set,QV,hkt]))
   refine qE ⟨?_, ?_,by rw [jQ hwT]; exact hT,by rw [jQ hwT]; exact hgT⟩
   ·rw [←hd]; rfl
   ·rw [←hd,jQ hwT]; exact hIb
theorem Delete_v (hc:jO Tryz.prog fid=true) (hr4 : ∀ r∈rows,r.length=4) (hlim:rows.length<2^62) (hN:oc<N)
  (hloc : ∀ a S S',(∀ o,o<N→o≠oc→S'.get o=S.get o)→I a S→I a S')
  (hdel : ∀ a S r,r∈rows→I a S→N≤S.nx→VCalls Tryz.prog fid (.agg r::caps) S fun v T=>v = .bool (p a r)∧I (nx a r) T∧S.nx≤T.nx ∧ ∀ o,o<S.nx→(N≤o∨o=oc)→T.get o=S.get o)
  {a:α} {S:Store} (hI:I a S) (hS:N≤S.nx) (hg:S.get oc=some (4,rows.flatten)) :
  VCalls Tryz.prog 27 [.slice oc 0 rows.length, .func fid caps] S fun v T=>v = .slice oc 0 (delG p nx a rows).1.length∧I (delG p nx a rows).2 T∧N≤T.nx∧T.get oc=some (4,(delG p nx a rows).1.flatten):=by
 have ci:=IndexDel_v I p nx hc hr4 hlim hN hloc hdel hI hS hg
 have hfl:=zG hr4
 refine jb (c:=jg Tryz.f27) Tryz.func27 rfl rfl (by simp [Tryz.ntmps27]) ?_
 rw [Tryz.ntmps27]
 intro hwf
 rw [←jQ hwf] at ci
 repeat (first|refine QG ?_|refine QY ?_)
 repeat refine QS ?_
 refine QP ?_
 refine jF rfl ci ?_
 rintro X T ⟨rfl,hI2,hT2,hg2⟩
 rcases jby p nx rows a 0 with ⟨h1,h2⟩ | ⟨i,hi,h1,h2⟩
 ·refine QM (by conv=>lhs;simp[-List.map_set,QV,h1]) ?_
  refine QN ?_
  repeat (first|refine QG ?_|refine QY ?_)
  refine qE ⟨?_, ?_,hT2, ?_⟩
  ·rw [h2]; rfl
  ·rw [h2]; exact hI2
  ·rw [h2]; exact hg2
 rw [Nat.zero_add] at h1
 have hw:=jm hi (by omega)
 generalize hst:idxG p nx a rows 0=st at *
 obtain ⟨z,b0⟩:=st
 simp only at h1 h2 hI2
 subst h1
 have hi1 : ¬ ((i:Int) = -1):=by omega
 refine QM (by conv=>lhs;simp[-List.map_set,QV]) ?_
 refine QN ?_
 repeat (first|refine QG ?_|refine QY ?_ (r:=by conv=>lhs;simp[-List.map_set,QV,hi1,hw]))
 repeat refine QS ?_
 refine je [0,1,5,6] rfl (fun c σ S' => ∃ (b:α) (K:List (List V)) (j:Nat) (cells:List V),I b S'∧N≤S'.nx∧S'.get oc=some (4,cells)∧cells.length=rows.length*4∧cells.take (K.length*4)=K.flatten∧cells.drop (j*4)=(rows.drop j).flatten∧K.length<j∧j≤rows.length∧c=rows.length-j∧(K++(delG p nx b (rows.drop j)).1,(delG p nx b (rows.drop j)).2)=delG p nx a rows∧σ=[(0, .slice oc 0 rows.length),(1, .func fid caps),(5,vnat K.length),(6,vnat j)]) (rows.length-(i+1)) ?_ ?_
 ·refine ⟨b0,rows.take i,i+1,rows.flatten,hI2,hT2,hg2,hfl, ?_,flat_drop _ hr4,by simp; omega,by omega,rfl,h2.symm, ?_⟩
  ·rw [List.length_take,Nat.min_eq_left (by omega)]; exact ZS i hr4
  ·simp [Fr.only,Fr.look,Nat.min_eq_left (Nat.le_of_lt hi)]
 ·rintro c σ T3 ⟨b,K,j,cells,hI3,hT3,hg3,hcl,hck,hcd,hKj,hj,rfl,hd,rfl⟩
  refine KP fun hwT=>zY hwT ?_
  have bT:=fun u l => @jk T3 u l oc (by omega)
  by_cases hjt:j<rows.length
  ·have hw2:=jm hjt (by omega)
   have hKw:=jm (k:=K.length) (n:=rows.length) (by omega) (by omega)
   have hr:=List.drop_eq_getElem_cons hjt
   obtain ⟨x0,x1,x2,x3,hx⟩ : ∃ x0 x1 x2 x3,rows[j]=[x0,x1,x2,x3]:=by
    have:=hr4 _ (List.getElem_mem hjt)
    match rows[j],this with
    | [x0,x1,x2,x3],_=>exact ⟨x0,x1,x2,x3,rfl⟩
   have hrow:(cells.drop (j*4)).take 4=[x0,x1,x2,x3]:=by rw [hcd,hr,List.flatten_cons,hx]; rfl
   have hle:j*4+4≤rows.length*4:=by omega
   repeat (first|refine QG ?_|refine QY ?_ (r:=by conv=>lhs;simp[-List.map_set,QV,hjt,bT,hg3,hcl,hle,hrow]))
   have hI3':I b (St T3 [] [some (4,[x0,x1,x2,x3])]):=hloc b T3 _ (fun o ho _=>by rw [jk (by omega)]; rfl) hI3
   have hmem:[x0,x1,x2,x3]∈rows:=hx▸List.getElem_mem hjt
   have hst:delG p nx b (rows.drop j)=if p b [x0,x1,x2,x3] then delG p nx (nx b [x0,x1,x2,x3]) (rows.drop (j+1)) else ([x0,x1,x2,x3]::(delG p nx (nx b [x0,x1,x2,x3]) (rows.drop (j+1))).1,(delG p nx (nx b [x0,x1,x2,x3]) (rows.drop (j+1))).2):=by rw [hr,delG,hx]
   have hcd2:cells.drop ((j+1)*4)=(rows.drop (j+1)).flatten:=by
    rw [show (j+1)*4=j*4+4 by omega, ←List.drop_drop,hcd,hr,List.flatten_cons,hx]; rfl
   repeat refine QS ?_
   refine QP ?_
   refine qF rfl hc rfl (hdel b _ _ hmem hI3' (by rw [jx,lid]; omega)) ?_
   rintro X T4 ⟨rfl,hI4,hT4,hg4⟩
   rw [jx] at hT4 hg4
   have hg5:=(hg4 oc (by simp only [lid]; omega) (.inr rfl)).trans ((bT [] _).trans hg3)
   have hg6:=(hg4 (lid T3.nx 0) (by simp [lid]) (.inl (by simp only [lid]; omega))).trans (jv)
   simp only [List.getElem?_cons_zero,Option.join_some] at hg6
   have hle4:T3.nx+1≤T4.nx:=by simpa [lid] using hT4
   have b1:=fun u l => @jk T4 u l oc (by omega)
   have b2:=fun u l => @jk T4 u l (lid T3.nx 0) (by simp only [lid]; omega)
   generalize lid T3.nx 0=q4 at *
   cases hp:p b [x0,x1,x2,x3] with
   | true =>
    rw [hp] at hst
    simp only [if_true] at hst
    refine QM (by conv=>lhs;simp[-List.map_set,QV]) ?_
    refine QN ?_
    repeat (first|refine QG ?_|refine QY ?_ (r:=by conv=>lhs;simp[-List.map_set,QV,hw2]))
    show jt _ _ _ _ _ _ _
    exact again ⟨Nat.sub_lt_sub_left hjt (Nat.lt_succ_self j),nx b [x0,x1,x2,x3],K,j+1,cells,hI4,by omega,hg5,hcl,hck,hcd2,by omega,hjt,rfl,by rw [←hd,hst],by simp [Fr.only,Fr.look]⟩
   | false =>
    rw [hp] at hst
    simp only [Bool.false_eq_true,if_false] at hst
    refine QM (by conv=>lhs;simp[-List.map_set,QV]) ?_
    refine QN ?_
    refine KP fun hw4=>zY hw4 ?_
    have hle5:K.length*4+4≤rows.length*4:=by omega
    have hlt5:K.length<rows.length:=by omega
    repeat (first|refine QG ?_|refine QY ?_ (r:=by conv=>lhs;simp[-List.map_set,QV,b1,b2,hg5,hg6,hcl,hle5,hlt5,hw2,hKw]))
    have hsl:K.length*4+[x0,x1,x2,x3].length≤cells.length:=by simp only [List.length_cons,List.length_nil]; omega
    have hne:(St T4 [] []).upd oc (4,List.take (K.length*4) cells++x0::x1::x2::x3::List.drop (K.length*4+4) cells)=T4.upd oc (4,qb cells (K.length*4) [x0,x1,x2,x3]):=by rw [jQ hw4]; simp [qb]
    show jt _ _ _ _ _ _ _
    refine again ⟨Nat.sub_lt_sub_left hjt (Nat.lt_succ_self j),nx b [x0,x1,x2,x3],K++[[x0,x1,x2,x3]],j+1,qb cells (K.length*4) [x0,x1,x2,x3],hloc _ T4 _ (fun o _ ho => ?_) hI4, ?_, ?_,by rw [splice_len _ _ _ hsl]; exact hcl, ?_, ?_,by simp; omega,hjt,rfl,by rw [←hd,hst]; simp,by simp [Fr.only,Fr.look]⟩
    ·rw [hne,jI ho]
    ·rw [hne]; show N≤T4.nx; omega
    ·rw [hne,zp]
    ·have:=Zj cells (K.length*4) [x0,x1,x2,x3] hsl
     rw [hck] at this
     rw [List.length_append,List.length_singleton,Nat.succ_mul,List.flatten_append]
     simpa using this
    ·rw [Zk _ _ _ _ hsl (by simp only [List.length_cons,List.length_nil]; omega)]; exact hcd2
  ·have hje:j=rows.length:=by omega
   subst hje
   have e:rows.drop rows.length=[]:=by simp
   rw [e] at hd
   simp only [delG,List.append_nil] at hd
   have hKl:K.length≤rows.length:=by omega
   have hcl2:K.length*4+(rows.length-K.length)*4≤rows.length*4:=by omega
   have hclr:JE 4 [V.int .i64 0, .int .u64 0, .nils, .nils] (St T3 [] []) (.slice oc (K.length*4) (rows.length-K.length))=some ((St T3 [] []).upd oc (4,qb cells (K.length*4) (rep0 [V.int .i64 0, .int .u64 0, .nils, .nils] (rows.length-K.length)))):=by
    have hle:K.length*4+(rows.length-K.length)*4≤cells.length:=by rw [hcl]; exact hcl2
    simp only [JE,bT,uGet,hg3,hle,if_true]
   generalize hcz:qb cells (K.length*4) (rep0 [V.int .i64 0, .int .u64 0, .nils, .nils] (rows.length-K.length))=cz at hclr
   have hct:cz.take (K.length*4)=K.flatten:=by rw [←hcz,Yp _ _ _ (by omega),hck]
   repeat (first|refine QG ?_|refine QY ?_ (r:=by conv=>lhs;simp[-List.map_set,QV,hjt,bT,hg3]))
   repeat refine QS ?_
   refine QP ?_ (r:=by conv=>lhs;simp[-List.map_set,QV,bT,hg3,hKl,hclr])
   refine QN ?_
   have hgu:((St T3 [] []).upd oc (4,cz)).get oc=some (4,cz):=zp
   apply jE
   ·exact Reach.trim 0 rfl hgu (K.length*4)
   simp only [hct]
   have hT5:((St T3 [] []).upd oc (4,cz)).upd oc (4,K.flatten)=T3.upd oc (4,K.flatten):=by
    rw [jQ hwT]
    refine Store.ext' (funext fun o => ?_) rfl
    simp only [qB]
    split<;>rfl
   rw [hT5]
   refine KP fun hw5=>zY hw5 ?_
   have b5:=fun u l => @jk (T3.upd oc (4,K.flatten)) u l oc (by show oc<T3.nx; omega)
   have hg5:(T3.upd oc (4,K.flatten)).get oc=some (4,K.flatten):=zp
   repeat (first|refine QG ?_|refine QY ?_ (r:=by conv=>lhs;simp[-List.map_set,QV,b5,hg5,hKl]))
   rw [jQ hw5]
   refine qE ⟨?_, ?_,hT3, ?_⟩
   ·rw [←hd]; rfl
   ·rw [←hd]; exact hloc _ T3 _ (fun o _ ho=>jI ho) hI3
   ·rw [←hd]; exact hg5
end
end Go.Vw

/-
 What the nearest ones tell.
-/
namespace Go.Vw.G
open Go.Vw
structure NearOk (g:List (List Nat)) (near:List Int):Prop where
 len:near.length=g.length
 zero:nd near 0 = -1
 out : ∀ x,x<g.length→x∉order g→nd near x = -1
 near : ∀ x∈order g,x≠0 → ∃ p:Nat,nd near x=p∧p∈order g∧p≠x∧Dom g (order g) p x ∧ ∀ d,Dom g (order g) d x→d≠x→Dom g (order g) d p
section
variable {g:List (List Nat)}
theorem dom1_out {near:List Int} {a x:Nat} (hx:x<near.length) (h:nd near x = -1) : ∀ n,dom1 near a (n+1) x=decide (a=x):=by
 intro n
 have hok:okIx near (x:Int):=⟨by omega,by omega⟩
 rw [dom1,if_pos hok]
 by_cases e:a=x
 ·subst e; simp
 ·have e' : ¬ (a:Int)=(x:Int):=by omega
  rw [if_neg e']
  have:near.getD x 0 = -1:=h
  simp only [Int.toNat_natCast,this]
  have hno : ¬ okIx near (-1):=fun h=>by have:=h.1; omega
  cases n with
  | zero=>simp [dom1,e]
  | succ n=>rw [dom1,if_neg hno]; simp [e]
theorem dom1_iff (hg:Ok g) {near:List Int} (hN:NearOk g near) (a:Nat) : ∀ (n b:Nat),b∈order g→rk g (order g) b<n→(dom1 near a n b=true↔Dom g (order g) a b)
 | 0,b,_,h=>by omega
 | n+1,b,hb,h=>by
  have ho:=order_ok hg
  have hbl:=ho.lt b hb
  by_cases hb0:b=0
  ·subst hb0
   rw [dom1_out (by rw [hN.len]; exact hbl) hN.zero]
   simp only [decide_eq_true_eq]
   constructor
   ·intro e; subst e; exact Dom.self 0
   ·intro hd
    by_cases e:a=0
    ·exact e
    ·exact absurd (Way.start 0 (Ne.symm e)) (hd 0)
  ·obtain ⟨p,q1,q2,q3,q4,q5⟩:=hN.near b hb hb0
   have hok:okIx near (b:Int):=⟨by omega,by rw [hN.len]; omega⟩
   rw [dom1,if_pos hok]
   by_cases e:a=b
   ·subst e
    simp only [if_true,true_iff]
    exact Dom.self a
   ·have e' : ¬ (a:Int)=(b:Int):=by omega
    have hnd:near.getD b 0=(p:Int):=q1
    rw [if_neg e']
    simp only [Int.toNat_natCast,hnd]
    have hr:=q4.rk ho q2 hb q3
    rw [dom1_iff hg hN a n p q2 (by omega)]
    exact ⟨fun hd=>hd.trans q4,fun hd=>q5 a hd e⟩
theorem jbE (hg:Ok g) {near:List Int} (hN:NearOk g near) {a b:Nat} (ha:a<g.length) (hb:b<g.length):dominates near a b=true↔(a∈order g∧b∈order g∧Dom g (order g) a b)∨a=b:=by
 have ho:=order_ok hg
 have hoka:okIx near (a:Int):=⟨by omega,by rw [hN.len]; omega⟩
 rw [dominates,if_pos hoka]
 have hm:=hg.max
 by_cases hbl:b∈order g
 ·have hr:rk g (order g) b<257:=by
   have h1:=rk_lt ho hbl
   obtain ⟨t,k1,k2,k3⟩:=order_ends hg
   have:(order g).length≤g.length:=by simp [order,k1]; exact k2
   omega
  rw [dom1_iff hg hN a 257 b hbl hr]
  constructor
  ·exact fun h => .inl ⟨h.mem ho hbl,hbl,h⟩
  ·rintro (h | h)
   ·exact h.2.2
   ·subst h; exact Dom.self a
 ·rw [dom1_out (n:=256) (by rw [hN.len]; exact hb) (hN.out b hb hbl)]
  simp only [decide_eq_true_eq]
  constructor
  ·exact .inr
  ·rintro (h | h)
   ·exact absurd h.2.1 hbl
   ·exact h
theorem ways (hg:Ok g) {near:List Int} (hN:NearOk g near) {a b:Nat} (ha:a<g.length) (hb:b<g.length) :
  dominates near a b=(((without g none).getD a false&&(without g none).getD b false && !((without g (some a)).getD b false))||decide (a=b)):=by
 have h1:=jbE hg hN ha hb
 have w1:=without_none hg a
 have w2:=without_none hg b
 have w3:=Yo hg (b:=b) ha
 unfold Met at w1 w2 w3
 rw [Bool.eq_iff_iff,h1]
 simp only [Bool.or_eq_true,Bool.and_eq_true,Bool.not_eq_true',decide_eq_true_eq,w1,w2]
 constructor
 ·rintro (⟨k1,k2,k3⟩ | h)
  ·refine .inl ⟨⟨k1,k2⟩, ?_⟩
   cases hx:(without g (some a)).getD b false with
   | false=>rfl
   | true=>obtain ⟨_,k,hw⟩:=w3.1 hx; exact absurd hw (k3 k)
  ·exact .inr h
 ·rintro (⟨⟨k1,k2⟩,k3⟩ | h)
  ·by_cases e:b=a
   ·exact .inr e.symm
   ·refine .inl ⟨k1,k2,fun k hw => ?_⟩
    have:=w3.2 ⟨e,k,hw⟩
    rw [k3] at this; cases this
  ·exact .inr h
def atTo (n:Nat) (l:List Nat):Nat→List Nat
 | 0=>List.replicate n 0
 | k+1=>(atTo n l k).set (l.getD k 0) (k+1)
end
end Go.Vw.G

namespace Ss
open Go.Vw.G
def chain (near:List Int):Nat→Int→List Int
 | 0,_=>[]
 | n+1,b=>if okIx near b then b::chain near n (near.getD b.toNat 0) else []
def covers (y x:Ins):Bool:=decide (y.op=257)&&decide (x.op=257)&&decide (y.args.getD 0 0=x.args.getD 0 0)&&decide (x.n≤y.n)
abbrev Kept:=List (Ins × Int)
def rcov (near:List Int) (n:Int) (all:Kept) (x:Ins):Bool:=all.any fun p=>covers p.1 x&&dominates near p.2 n
def rcode (near:List Int) (n:Int):Kept→List Ins→List Ins × Kept
 | all,[]=>([],all)
 | all,x::r=>if rcov near n all x then rcode near n all r else (x::(rcode near n (if x.op=257 then all++[(x,n)] else all) r).1,(rcode near n (if x.op=257 then all++[(x,n)] else all) r).2)
def rstep (near:List Int) (st:List Block × Kept) (n:Nat):List Block × Kept :=
 (st.1.set n ⟨(st.1.getD n default).params,(rcode near n st.2 (st.1.getD n default).code).1,(st.1.getD n default).term⟩,(rcode near n st.2 (st.1.getD n default).code).2)
def bce (near:List Int) (order:List Nat) (f:Fn):Fn:=⟨f.sig,f.types,(order.foldl (rstep near) (f.blocks,[])).1⟩
/-! ### The same by a map of places -/
abbrev Far:=List ((Int × Int) × Int)
def farGet (k:Int × Int):Far→Int
 | []=>0
 | (k',w)::r=>if k=k' then w else farGet k r
def farPut (k:Int × Int) (w:Int):Far→Far
 | []=>[(k,w)]
 | (k',w')::r=>if k=k' then (k,w)::r else (k',w')::farPut k w r
def pcov (near:List Int) (n:Int) (M:Far) (x:Ins):Bool:=decide (x.op=257)&&(chain near 257 n).any fun up=>decide (x.n<farGet (x.args.getD 0 0,up) M)
def pnext (near:List Int) (n:Int) (M:Far) (x:Ins):Far:=if x.op=257∧pcov near n M x=false then farPut (x.args.getD 0 0,n) (x.n+1) M else M
def pcode (near:List Int) (n:Int):Far→List Ins→List Ins × Far
 | M,[]=>([],M)
 | M,x::r=>if pcov near n M x then pcode near n (pnext near n M x) r else (x::(pcode near n (pnext near n M x) r).1,(pcode near n (pnext near n M x) r).2)
def pstep (near:List Int) (st:List Block × Far) (n:Nat):List Block × Far :=
 (st.1.set n ⟨(st.1.getD n default).params,(pcode near n st.2 (st.1.getD n default).code).1,(st.1.getD n default).term⟩,(pcode near n st.2 (st.1.getD n default).code).2)
def pbce (near:List Int) (order:List Nat) (f:Fn):Fn:=⟨f.sig,f.types,(order.foldl (pstep near) (f.blocks,[])).1⟩
def Tells (all:Kept) (M:Far):Prop := ∀ (v b N:Int),0≤N→(N<farGet (v,b) M ↔ ∃ p∈all,p.2=b∧p.1.op=257∧p.1.args.getD 0 0=v∧N≤p.1.n)
theorem code_sub (near:List Int) (n:Int) : ∀ (code:List Ins) (all:Kept), ∀ x∈(rcode near n all code).1,x∈code
 | [],_,x,h=>by simp [rcode] at h
 | y::r,all,x,h=>by
  rw [rcode] at h
  split at h
  ·exact List.mem_cons_of_mem _ (code_sub near n r all x h)
  ·rcases List.mem_cons.1 h with rfl | h
   ·simp
   ·exact List.mem_cons_of_mem _ (code_sub near n r _ x h)
end Ss
