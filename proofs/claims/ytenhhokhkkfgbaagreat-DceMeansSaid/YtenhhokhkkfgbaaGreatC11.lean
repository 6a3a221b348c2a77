import Derived.Test.YtenhhokhkkfgbaaGreatC10
/- Part of the proof. -/
set_option linter.unusedVariables false
set_option linter.unusedSimpArgs false
/-
 Slices of slices, and what only we see in a cell.
-/
namespace Go.Vw
open Go.RowKit
theorem Holds.reseen {S:Store} {m:Imm} {β:Objs} {w:World} (hS:Holds S m β w) {o b base s n:Nat} {c:Nat × List V} {arr:Array Value} {T:TypeId} (hc:S.get o=some c) (hβ:β o = .lies b base s n) (hb:w.heap[b]? = some (.cells arr T (0,0)))
  (cs':List V) (hl:cs'.length=c.2.length) (h : ∀ (i:Nat) (x:V) (v:Value),cs'[i]? = some x->arr[base+i]? = some v->Rep m β x v):Holds (S.upd o (c.1,cs')) m β w:=by
 have hlt:=hS.lt hc;refine ⟨hS.imm,hS.apart,hS.inj,hS.fresh,fun o' ho' => ?_,fun o' ho' hn => ?_,fun o' c' hc' => ?_⟩
 ·rw [qo];have:S.nx<=o':=ho';rw [if_neg (by omega)]; exact hS.gone o' ho'
 ·rw [qo] at hn
  by_cases e:o'=o
  ·rw [if_pos e] at hn; cases hn
  ·rw [if_neg e] at hn; exact hS.dead o' ho' hn
 ·rw [qo] at hc'
  by_cases e:o'=o
  ·rw [if_pos e] at hc'
   cases hc'
   subst e;have hl0:=hS.live o' c hc;rw [hβ] at hl0 ⊢;obtain ⟨h0,arr',T',h1,h2,h3,h4⟩:=hl0;rw [hb] at h1
   cases h1
   refine ⟨h0,arr,T,hb,h2,by simp only; omega,fun i x hx => ?_⟩;have hi:i<c.2.length:=by rw [<-hl]; exact (ae.1 hx).1
   obtain ⟨v,e1,e2,e3⟩:=h4 i _ (ac hi);exact ⟨v,e1,h i x v hx e1,e3⟩
  ·rw [if_neg e] at hc'; exact hS.live o' c' hc'
theorem Reach.cell {N b0:Nat} {σ:Fr} {S S1:Store} {x x':V} {o i s:Nat} {cs:List V} (hg:Ghost x S x' S1) (hx:x.one=true) (hc:S.get o=some (s,cs)) (hi:cs[i]? = some x) (hc1:S1.get o=some (s,cs)) :
  Reach N b0 σ S σ (S1.upd o (s,cs.set i x')):=by
 intro m β w a hS hF;have hl:=hS.live o _ hc;have hlt:i<cs.length:=(ae.1 hi).1
 cases hβ:β o with
 | fresh=>rw [hβ] at hl; exact hl.elim
 | dead=>rw [hβ] at hl; exact hl.elim
 | void=>rw [hβ] at hl; simp only [Live] at hl; rw [hl] at hlt; simp at hlt
 | mp b' =>
  rw [hβ] at hl;obtain ⟨es,clock,h1,h2,h3⟩:=hl;have hi2:i<es.size:=by simp only at h2; omega
  obtain ⟨k,v,e1,_⟩:=h3 i x es[i] hi (Array.getElem?_eq_getElem hi2);rw [e1] at hx; simp [V.one] at hx
 | lies b base s' n =>
  rw [hβ] at hl;obtain ⟨h0,arr,T,h1,h2,h3,h4⟩:=hl;obtain ⟨v,e1,e2,e3⟩:=h4 i x hi;obtain ⟨m',β',k1,k2,k3⟩:=hg m β w v hS e2;have hb':β' o = .lies b base s' n:=by
   rcases k2.step o (by rw [hβ]; exact Loc.noConfusion) with h | h
   ·rw [h,hβ]
   ·have:=k1.live o _ hc1;rw [h] at this; exact this.elim
  refine ⟨m',β', ?_,hF.ext k2,k2.toB b0⟩;have:=k1.reseen hc1 hb' h1 (cs.set i x') (by simp) (fun j y u hy hu => ?_)
  ·exact this
  ·rw [List.getElem?_set] at hy;split at hy
   ·rename_i e; subst e;simp only [hlt,if_true,ay] at hy;subst hy;rw [e1] at hu; cases hu;exact k3
   ·obtain ⟨u',f1,f2,_⟩:=h4 j y hy;rw [f1] at hu; cases hu;exact k2.rep f2
structure RowsAt (S:Store) (b oo:Nat) (os:List Nat) (cells:List V) (rows:List (List V)):Prop where
 base:b<=oo
 lt:oo<S.nx
 out:oo∉os
 get:S.get oo=some (1,cells)
 len:cells.length=rows.length
 row : ∀ (k:Nat) row,rows[k]? = some row->(cells[k]? = some .nils/\row=[]) \/ ∃ id,cells[k]? = some (.slice id 0 row.length)/\S.get id=some (1,row)/\id≠oo/\b<=id/\id<S.nx/\id∉os
 inj : ∀ (j k:Nat) id l l',cells[j]? = some (.slice id 0 l)->cells[k]? = some (.slice id 0 l')->j=k
theorem RowsAt.start {S:Store} {b oo n:Nat} {os:List Nat} (h:S.get oo=some (1,List.replicate n .nils)) (hb:b<=oo) (hlt:oo<S.nx) (ho:oo∉os):RowsAt S b oo os (List.replicate n .nils) (List.replicate n []):=by
 refine ⟨hb,hlt,ho,h,by simp,fun k row hr => .inl ?_,fun j k id l l' hj _ => ?_⟩
 ·simp only [List.getElem?_replicate] at hr ⊢;split at hr
  ·rename_i hk; rw [if_pos hk]; cases hr; exact ⟨rfl,rfl⟩
  ·cases hr
 ·simp only [List.getElem?_replicate] at hj;split at hj<;>cases hj
theorem RowsAt.keep {S S':Store} {b oo:Nat} {os:List Nat} {cells:List V} {rows:List (List V)} (h:RowsAt S b oo os cells rows) (hn:S.nx<=S'.nx) (hk : ∀ o,b<=o->o<S.nx->o∉os->S'.get o=S.get o):RowsAt S' b oo os cells rows:=by
 refine ⟨h.base,aU h.lt hn,h.out,(hk oo h.base h.lt h.out).trans h.get,h.len,fun k row hr => ?_,h.inj⟩;rcases h.row k row hr with h1 | ⟨id,h1,h2,h3,h4,h5,h6⟩
 ·exact .inl h1
 ·exact .inr ⟨id,h1,(hk id h4 h5 h6).trans h2,h3,h4,aU h5 hn,h6⟩
section
variable {S:Store} {b oo:Nat} {os:List Nat} {cells:List V} {rows:List (List V)} {k:Nat} {row:List V} {x:V}
def jbx (S:Store) (oo:Nat) (cells:List V) (k:Nat) (x:V):Store:=((S.add (1,[x])).add (1,[x])).upd oo (1,cells.set k (.slice (S.nx+1) 0 1))
def jad (S:Store) (oo:Nat) (cells:List V) (k id:Nat) (row:List V) (x:V):Store:=(((S.add (1,[x])).del id).add (1,row++[x])).upd oo (1,cells.set k (.slice (S.nx+1) 0 (row.length+1)))
theorem rowNil_keep {o:Nat} (h:o<S.nx) (ho:o≠oo):(jbx S oo cells k x).get o=S.get o:=by
 simp only [jbx,qo,Yc];rw [if_neg ho,if_neg (by show ¬ o=S.nx+1; omega),if_neg (by omega)]
theorem rowApp_keep {o id:Nat} (h:o<S.nx) (ho:o≠oo) (hid:o≠id):(jad S oo cells k id row x).get o=S.get o:=by
 simp only [jad,qo,Yc,KC];rw [if_neg ho,if_neg (by show ¬ o=S.nx+1; omega),if_neg hid,if_neg (by omega)]
theorem RowsAt.nil (h:RowsAt S b oo os cells rows) (hr:rows[k]? = some []) (hos : ∀ o∈os,o<S.nx) (hc:cells[k]? = some .nils):RowsAt (jbx S oo cells k x) b oo os (cells.set k (.slice (S.nx+1) 0 1)) (rows.set k [x]):=by
 have hlt:=h.lt;have hb:=h.base;have hk:k<rows.length:=(ae.1 hr).1;have hkc:k<cells.length:=by rw [h.len]; exact hk
 refine ⟨h.base,by show oo<S.nx+1+1; omega,h.out,by simp [jbx,qo],by simp [h.len],fun j r hj => ?_,fun i j id l l' hi hj => ?_⟩
 ·rw [List.getElem?_set] at hj ⊢
  by_cases e:k=j
  ·subst e;rw [if_pos rfl,if_pos hk] at hj; cases hj;rw [if_pos rfl,if_pos hkc];refine .inr ⟨S.nx+1,rfl, ?_,by omega,by omega,by show S.nx+1<S.nx+1+1; omega,fun hm=>by have:=hos _ hm; omega⟩;simp only [jbx,qo,Yc];rw [if_neg (by omega),if_pos (by rfl)]
  ·rw [if_neg e] at hj ⊢;rcases h.row j r hj with h1 | ⟨id,h1,h2,h3,h4,h5,h6⟩
   ·exact .inl h1
   ·exact .inr ⟨id,h1,(rowNil_keep h5 h3).trans h2,h3,h4,by show id<S.nx+1+1; omega,h6⟩
 ·have old : ∀ (j id l:Nat),cells[j]? = some (V.slice id 0 l)->id<S.nx:=by
   intro j id l hj;have hjl:j<rows.length:=by rw [<-h.len]; exact (ae.1 hj).1
   rcases h.row j _ (ac hjl) with h1 | ⟨id',h1,h2,h3,h4,h5,h6⟩
   ·rw [hj] at h1; cases h1.1
   ·rw [hj] at h1; cases h1; exact h5
  rw [List.getElem?_set] at hi hj
  by_cases e1:k=i
  ·by_cases e2:k=j
   ·omega
   ·rw [if_pos e1,if_pos hkc] at hi; rw [if_neg e2] at hj
    cases hi
    have:=old _ _ _ hj; omega
  ·by_cases e2:k=j
   ·rw [if_pos e2,if_pos hkc] at hj; rw [if_neg e1] at hi
    cases hj
    have:=old _ _ _ hi; omega
   ·rw [if_neg e1] at hi; rw [if_neg e2] at hj;exact h.inj i j id l l' hi hj
theorem RowsAt.app (h:RowsAt S b oo os cells rows) (hr:rows[k]? = some row) (hos : ∀ o∈os,o<S.nx) {id:Nat} (hc:cells[k]? = some (.slice id 0 row.length)):RowsAt (jad S oo cells k id row x) b oo os (cells.set k (.slice (S.nx+1) 0 (row.length+1))) (rows.set k (row++[x])):=by
 have hlt:=h.lt;have hb:=h.base;have hk:k<rows.length:=(ae.1 hr).1;have hkc:k<cells.length:=by rw [h.len]; exact hk
 refine ⟨h.base,by show oo<S.nx+1+1; omega,h.out,by simp [jad,qo],by simp [h.len],fun j r hj => ?_,fun i j id' l l' hi hj => ?_⟩
 ·rw [List.getElem?_set] at hj ⊢
  by_cases e:k=j
  ·subst e;rw [if_pos rfl,if_pos hk] at hj; cases hj;rw [if_pos rfl,if_pos hkc];refine .inr ⟨S.nx+1,by simp, ?_,by omega,by omega,by show S.nx+1<S.nx+1+1; omega,fun hm=>by have:=hos _ hm; omega⟩;simp only [jad,qo,Yc];rw [if_neg (by omega),if_pos (by rfl)]
  ·rw [if_neg e] at hj ⊢;rcases h.row j r hj with h1 | ⟨id',h1,h2,h3,h4,h5,h6⟩
   ·exact .inl h1
   ·have hne:id'≠id:=by
     intro e2; subst e2;exact e (h.inj k j _ _ _ hc h1)
    exact .inr ⟨id',h1,(rowApp_keep h5 h3 hne).trans h2,h3,h4,by show id'<S.nx+1+1; omega,h6⟩
 ·have old : ∀ (j id l:Nat),cells[j]? = some (V.slice id 0 l)->id<S.nx:=by
   intro j id l hj;have hjl:j<rows.length:=by rw [<-h.len]; exact (ae.1 hj).1
   rcases h.row j _ (ac hjl) with h1 | ⟨id',h1,h2,h3,h4,h5,h6⟩
   ·rw [hj] at h1; cases h1.1
   ·rw [hj] at h1; cases h1; exact h5
  rw [List.getElem?_set] at hi hj
  by_cases e1:k=i
  ·by_cases e2:k=j
   ·omega
   ·rw [if_pos e1,if_pos hkc] at hi; rw [if_neg e2] at hj
    cases hi
    have:=old _ _ _ hj; omega
  ·by_cases e2:k=j
   ·rw [if_pos e2,if_pos hkc] at hj; rw [if_neg e1] at hi
    cases hj
    have:=old _ _ _ hi; omega
   ·rw [if_neg e1] at hi; rw [if_neg e2] at hj;exact h.inj i j id' l l' hi hj
end
def Store.dels (S:Store) (ids:List Nat):Store:=ids.foldl Store.del S
theorem KB (S:Store) : ∀ (ids:List Nat) (o:Nat),(S.dels ids).get o=if o∈ids then none else S.get o
 | [],o=>by simp [Store.dels]
 | id::ids,o=>by
  have:=KB (S.del id) ids o;simp only [Store.dels,List.foldl_cons] at this ⊢;rw [this,KC]
  by_cases h1:o∈ids
  ·simp [h1]
  ·by_cases h2:o=id
   ·simp [h2]
   ·simp [h1,h2]
theorem jaR (S:Store) : ∀ (ids:List Nat),(S.dels ids).nx=S.nx
 | []=>rfl
 | id::ids=>by
  have:=jaR (S.del id) ids;simpa only [Store.dels,List.foldl_cons,Store.del] using this
theorem jac {N b0:Nat} {σ:Fr} {b oo:Nat} {os:List Nat} : ∀ (rows:List (List V)) (done:List V) (cells:List V) (S:Store),(∀ row∈rows,row.all V.closed1=true)->S.get oo=some (1,done++cells)->cells.length=rows.length ->
   (∀ (k:Nat) row,rows[k]? = some row->(cells[k]? = some .nils/\row=[]) \/ ∃ id,cells[k]? = some (.slice id 0 row.length)/\S.get id=some (1,row)/\id≠oo/\b<=id/\id∉os) ->
   (∀ (j k:Nat) id l l',cells[j]? = some (.slice id 0 l)->cells[k]? = some (.slice id 0 l')->j=k) ->
   ∃ S',Reach N b0 σ S σ S'/\S'.get oo=some (1,done++rows.map V.list)/\S'.nx=S.nx/\(∀ o,o<b\/o∈os->o≠oo->S'.get o=S.get o)/\(∀ o,S.get o=none->S'.get o=none)
 | [],done,cells,S,_,hc,hl,_,_=>⟨S,Reach.refl _ _,by
   have:cells=[]:=by simpa using hl
   subst this; simpa using hc,rfl,fun _ _ _=>rfl,fun _ h=>h⟩
 | row::rows,done,[],S,_,_,hl,_,_=>by simp at hl
 | row::rows,done,c::cells,S,hcl,hc,hl,hr,hinj=>by
  have hcl1:row.all V.closed1=true:=hcl row List.mem_cons_self;have hi:(done++c::cells)[done.length]? = some c:=by simp
  have hset : ∀ y:V,(done++c::cells).set done.length y=(done++[y])++cells:=by
   intro y; rw [List.set_append_right _ _ (bf _)]; simp
  have next : ∀ S1:Store,S1.get oo=some (1,done++c::cells)->Ghost c S (.list row) S1->c.one=true->S1.nx=S.nx->(∀ (k:Nat) row',rows[k]? = some row' -> ∀ id l,cells[k]? = some (.slice id 0 l)->id≠oo->S1.get id=S.get id)->(∀ o,o<b\/o∈os->o≠oo->S1.get o=S.get o)->(∀ o,S.get o=none->S1.get o=none) ->
    ∃ S',Reach N b0 σ S σ S'/\S'.get oo=some (1,done++(row::rows).map V.list)/\S'.nx=S.nx/\(∀ o,o<b\/o∈os->o≠oo->S'.get o=S.get o)/\(∀ o,S.get o=none->S'.get o=none):=by
   intro S1 h1 hg hone hnx hkeep hold hnone;have hre:=Reach.cell (N:=N) (b0:=b0) (σ:=σ) hg hone hc hi h1;rw [hset] at hre;obtain ⟨S',k1,k2,k3,k4,k5⟩:=jac rows (done++[.list row]) cells (S1.upd oo (1,done++[.list row]++cells)) (fun r hm=>hcl r (List.mem_cons_of_mem _ hm)) (by rw [qo,if_pos rfl]) (by simpa using hl)
    (fun k row' hk=>by
     rcases hr (k+1) row' (by simpa using hk) with h2 | ⟨id,h2,h3,h4,h5,h6⟩
     ·exact .inl (by simpa using h2)
     ·refine .inr ⟨id,by simpa using h2, ?_,h4,h5,h6⟩;rw [qo,if_neg h4,hkeep k row' hk id _ (by simpa using h2) h4]; exact h3)
    (fun j k id l l' hj hk=>by have:=hinj (j+1) (k+1) id l l' (by simpa using hj) (by simpa using hk); omega)
   refine ⟨S',hre.trans k1,by simpa using k2,k3.trans hnx,fun o ho hne => ?_,fun o ho=>k5 o ?_⟩
   ·rw [k4 o ho hne,qo,if_neg hne,hold o ho hne]
   ·have hoo:o≠oo:=by intro e; subst e; rw [hc] at ho; cases ho
    rw [qo,if_neg hoo]; exact hnone o ho
  rcases hr 0 row rfl with ⟨h1,h2⟩ | ⟨id,h1,h2,h3,h4,h5⟩
  ·simp at h1; subst h1; subst h2;exact next S hc (Ghost.nils_list S) (by simp [V.one]) rfl (fun _ _ _ _ _ _ _=>rfl) (fun _ _ _=>rfl) (fun _ h=>h)
  ·have h1':c = .slice id 0 row.length:=by simpa using h1
   subst h1';have hg:Ghost (V.slice id 0 row.length) S (V.list row) (S.del id):=Ghost.freeze1 h2 hcl1 rfl;refine next (S.del id) (by rw [KC,if_neg (Ne.symm h3)]; exact hc) hg (by simp [V.one]) rfl (fun k row' hk id' l hid' _ => ?_) (fun o ho _ => ?_) (fun o ho => ?_)
   ·rw [KC];split
    ·rename_i e; subst e;have:=hinj 0 (k+1) id' row.length l (by simp) (by simpa using hid');omega
    ·rfl
   ·rw [KC];split
    ·rename_i e; subst e;rcases ho with h | h
     ·omega
     ·exact absurd h h5
    ·rfl
   ·rw [KC]; split
    ·rfl
    ·exact ho
theorem RowsAt.freeze {S:Store} {N b0 b oo:Nat} {σ:Fr} {os:List Nat} {cells:List V} {rows:List (List V)} (h:RowsAt S b oo os cells rows) (hcl : ∀ row∈rows,row.all V.closed1=true) :
  ∃ S',Reach N b0 σ S σ S'/\S'.get oo=some (1,rows.map V.list)/\S'.nx=S.nx/\(∀ o,o<b\/o∈os->o≠oo->S'.get o=S.get o)/\(∀ o,S.get o=none->S'.get o=none):=by
 have:=jac (N:=N) (b0:=b0) (σ:=σ) (b:=b) (os:=os) rows [] cells S hcl (by simpa using h.get) h.len (fun k row hk => ?_) h.inj
 ·simpa using this
 ·rcases h.row k row hk with h1 | ⟨id,h1,h2,h3,h4,h5,h6⟩
  ·exact .inl h1
  ·exact .inr ⟨id,h1,h2,h3,h4,h6⟩
theorem Reach.frzCell {N b0:Nat} {σ:Fr} {B:Store} {u:Upds} {l:List (Option (Nat × List V))} {k j i n s:Nat} {cs cells':List V} (hkj:k≠j) (hk:k<l.length) (hj:j<l.length) (hck:(l[k]?).join=some (s,cs)) (hi:cs[i]? = some (.slice (lid B.nx j) 0 n))
  (hcj:(l[j]?).join=some (1,cells')) (hcl:cells'.all V.closed1=true) (hn:cells'.length=n):Reach N b0 σ (St B u l) σ (St B u ((l.set j none).set k (some (s,cs.set i (.list cells'))))):=by
 have hg:Ghost (.slice (lid B.nx j) 0 n) (St B u l) (.list cells') (St B u (l.set j none)):=frz1 hj hcj hcl hn;have:=Reach.cell (N:=N) (b0:=b0) (σ:=σ) (o:=lid B.nx k) (i:=i) (s:=s) (cs:=cs) hg (by simp [V.one]) (by rw [jv]; exact hck) hi (by rw [jv,aR (Ne.symm hkj)]; exact hck);rw [JO (by simpa using hk)] at this;exact this
/-! ### Small steps of a store that is not told whole -/
section
variable {S Z T:Store} {o o':Nat} {c:Nat × List V}
theorem add_old (h:o<S.nx):(S.add c).get o=S.get o:=by rw [Yc,if_neg (by omega)]
theorem add_new:(S.add c).get S.nx=some c:=by rw [Yc,if_pos rfl]
theorem add_nx':(S.add c).nx=S.nx+1:=nr rfl
theorem del_nx:(S.del o).nx=S.nx:=nr rfl
theorem del_old (h:o'≠o):(S.del o).get o'=S.get o':=by rw [KC,if_neg h]
theorem qH (h:o'≠o):(S.upd o c).get o'=S.get o':=by rw [qo,if_neg h]
theorem zY:(S.upd o c).get o=some c:=by rw [qo,if_pos rfl]
theorem Store.Sub.upd (h:Z.Sub S) (hg:Z.get o=none):Z.Sub (S.upd o c):=by
 intro o' d hd;rw [qo,if_neg (fun e=>by subst e; rw [hg] at hd; cases hd)];exact h o' d hd
theorem Store.Shp.upd {d:Nat × List V} (h:Z.Shp S) (hg:S.get o=some d) (he:c.1=d.1):Z.Shp (S.upd o c):=by
 intro o' e hd;obtain ⟨f,h1,h2⟩:=h o' e hd;rw [qo];split
 ·rename_i e; subst e; rw [hg] at h1; cases h1; exact ⟨c,rfl,he.trans h2⟩
 ·exact ⟨f,h1,h2⟩
theorem Store.Sub.trans (h:Z.Sub S) (k:S.Sub T):Z.Sub T:=fun o c hc=>k o c (h o c hc)
end
theorem Yi {P:Program} {N b:Nat} {Q:Exit->Fr->Store->Prop} {σ:Fr} {S:Store} {c:Code} (h:S.Wf->VWp P N b c Q σ S):VWp P N b c Q σ S :=
 fun m β w a hS hF=>h hS.wf m β w a hS hF
theorem GhostB.cut {S T:Store} {x:V} (hwf:S.Wf) (hag:Agree S T) (hx:x.ids (fun o=>decide (o<S.nx))=true):GhostB S.nx x T x S:=by
 have hf : ∀ o,o<S.nx->(fun o=>if o<S.nx then o else T.nx+o) o=o:=fun o h=>by simp [h]
 have h:RenS (fun o=>if o<S.nx then o else T.nx+o) S.nx T S:=by
  refine ⟨fun o c hc => ?_,fun o o' hs hs' he => ?_,fun o ho => ?_,hf,bf _⟩
  ·have hlt:o<S.nx:=by
    rcases Nat.lt_or_ge o S.nx with h | h
    ·exact h
    ·rw [hwf.gone o h] at hc; cases hc
   refine ⟨hlt, ?_⟩;rw [if_pos hlt,hag.2 o hlt,hc];have:=hwf.ids o c hc;simp only [qr,aD] at this;rw [qi,(a7 fun x hm=>WD (fun o h=>hf o (by simpa using h)) x (this x hm)).trans (List.map_id _)]
  ·have h1 : ∀ o,(S.get o).isSome=true->o<S.nx:=by
    intro o hs;rcases Nat.lt_or_ge o S.nx with h | h
    ·exact h
    ·rw [hwf.gone o h] at hs; cases hs
   have e1:=hf o (h1 o hs);have e2:=hf o' (h1 o' hs');rw [<-e1, <-e2]; exact he
  ·rw [if_neg (by omega)];omega
 exact GhostB.ren h (WD (fun o ho=>hf o (by simpa using ho)) x hx).symm
theorem qy {S T T':Store} {r X:V} (hwf:S.Wf) (hg:GhostB S.nx r T X T') (hag:Agree S T') (hx:X.ids (fun o=>decide (o<S.nx))=true):Ja S.nx (fun r S'=>r=X/\S'=S) r T :=
 ⟨X,S,hg.trans (GhostB.cut hwf hag hx),rfl,rfl⟩
theorem zI {S:Store} {l:List (Option (Nat × List V))}:Agree S (St S [] l):=⟨by rw [jL,lid]; omega,fun o ho=>by rw [jh ho]; rfl⟩
/-! ### Elements of several cells -/
def ju {α:Type} (enc:α->V) (ls:List α):List V:=ls.flatMap fun a=>(enc a).cells
theorem JL {α:Type} (enc:α->V) (ls:List α) (a:α):ju enc (ls++[a])=ju enc ls++(enc a).cells:=by simp [ju]
theorem Kz {α:Type} {enc:α->V} {s:Nat} (hs : ∀ a,(enc a).cells.length=s) (ls:List α):(ju enc ls).length=ls.length*s:=by
 induction ls with
 | nil=>simp [ju]
 | cons a ls ih=>simp only [ju,List.flatMap_cons,List.length_append,hs,aC,Nat.add_mul,Nat.one_mul] at ih ⊢; omega
theorem WT {α:Type} {enc:α->V} {s:Nat} (hs : ∀ a,(enc a).cells.length=s) : ∀ (ls:List α) (i j:Nat) (a:α) (c:V),ls[i]? = some a->(enc a).cells[j]? = some c->(ju enc ls)[i*s+j]? = some c
 | [],i,j,a,c,h,_=>by simp at h
 | x::ls,0,j,a,c,h,hc=>by
  simp at h; subst h;have hj:j<(enc x).cells.length:=(ae.1 hc).1;simp only [ju,List.flatMap_cons,Nat.zero_mul,bd];rw [aV hj]; exact hc
 | x::ls,i+1,j,a,c,h,hc=>by
  have:=WT hs ls i j a c (by simpa using h) hc;simp only [ju,List.flatMap_cons] at this ⊢;rw [bi (by rw [hs,Nat.add_mul]; omega),hs];rw [show (i+1)*s+j-s=i*s+j by rw [Nat.add_mul]; omega];exact this
theorem KD {x:V} (h:x.closed=true) : ∀ c∈x.cells,c.closed1=true:=by
 intro c hc
 cases x<;>simp only [V.cells,aW] at hc<;>first | (subst hc; simpa [V.closed] using h) | skip
 rename_i xs;have : ∀ x∈xs,x.closed1=true:=by simpa [V.closed] using h
 exact this c hc
theorem Zc {α:Type} {enc:α->V} (hc : ∀ a,(enc a).closed=true) (ls:List α):(ju enc ls).all V.closed1=true:=by
 simp only [aD,ju,bj];rintro c ⟨a,_,ha⟩;exact KD (hc a) c ha
theorem frzS {α:Type} {enc:α->V} {s:Nat} (hs : ∀ a,(enc a).cells.length=s) (hc : ∀ a,(enc a).closed=true) {S:Store} {o:Nat} (ls:List α) (hg:S.get o=some (s,ju enc ls)):Ghost (.slice o 0 ls.length) S (vl enc ls) (S.del o):=by
 refine Ghost.freeze hg (Zc hc ls) (ls.map enc) (by simp) fun i x hx => ?_
 simp only [a8,av] at hx;obtain ⟨a,ha,rfl⟩:=hx;refine ⟨hs a,hc a,fun j c hj => ?_⟩;rw [bd];exact WT hs ls i j a c ha hj
theorem frzSt {α:Type} {enc:α->V} {s:Nat} (hs : ∀ a,(enc a).cells.length=s) (hc : ∀ a,(enc a).closed=true) {B:Store} {u:Upds} {l:List (Option (Nat × List V))} {k:Nat} (ls:List α) (hk:k<l.length) (hg:(l[k]?).join=some (s,ju enc ls)):Ghost (.slice (lid B.nx k) 0 ls.length) (St B u l) (vl enc ls) (St B u (l.set k none)):=by
 rw [<-jbY hk];exact frzS hs hc ls (by rw [jv]; exact hg)
theorem WQ {α:Type} {enc:α->V} (hc : ∀ a,(enc a).closed=true) (f:Nat->Nat) (ls:List α):V.renL f (ju enc ls)=ju enc ls:=by
 rw [qi];refine (a7 fun c hm => ?_).trans (List.map_id _);simp only [ju,bj] at hm;obtain ⟨a,_,ha⟩:=hm;have:=KD (hc a) c ha
 cases c<;>first | rfl | (simp [V.closed1] at this)
theorem WR {α:Type} {enc:α->V} (hc : ∀ a,(enc a).closed=true) (p:Nat->Bool) (ls:List α):V.idsL p (ju enc ls)=true:=by
 rw [qr,aD];intro c hm;simp only [ju,bj] at hm;obtain ⟨a,_,ha⟩:=hm;have:=KD (hc a) c ha
 cases c<;>first | rfl | (simp [V.closed1] at this)
theorem Reach.voidCell {N b0:Nat} {σ:Fr} {B:Store} {u:Upds} {l:List (Option (Nat × List V))} {k i s:Nat} {cs:List V} (s':Nat) (hk:k<l.length) (hck:(l[k]?).join=some (s,cs)) (hi:cs[i]? = some .nils) :
  Reach N b0 σ (St B u l) σ (St B u ((l++[some (s',[])]).set k (some (s,cs.set i (.slice (lid B.nx l.length) 0 0))))):=by
 have hg:=Ghost.nils (St B u l) s';rw [Zk,jL] at hg;have:=Reach.cell (N:=N) (b0:=b0) (σ:=σ) (o:=lid B.nx k) (i:=i) (s:=s) (cs:=cs) hg (by simp [V.one]) (by rw [jv]; exact hck) hi (by rw [jv,aV hk]; exact hck);rw [JO (by simp; omega)] at this;exact this
section
variable {S:Store} {s b:Nat}
theorem jau {α:Type} {enc:α->V} {o len:Nat} {cells:List V} {l:List α} (hs : ∀ a,(enc a).ncells=s) (ho:S.get o=some (s,cells)) (hl:len*s=cells.length) (hb:(len+l.length)*b<=140737488355328) (hb1:len+l.length<=140737488355328) :
  jR s b S (.slice o 0 len) (vl enc l)=some (.slice S.nx 0 (len+l.length),(S.del o).add (s,cells++ju enc l)):=by
 have:=jcD (S:=S) (s:=s) (b:=b) (o:=o) (len:=len) (xs:=l.map enc) (cells:=cells) ho (fun x hx=>by
  obtain ⟨a,_,rfl⟩:=bk.1 hx;exact hs a) hl (by simpa using hb) (by simpa using hb1)
 simpa [vl,ju,List.flatMap_map] using this
end
end Go.Vw
/-
 The rules by which a walk writes out a run.
-/
namespace Go.Vw
attribute [simp] rv_seq rv_toStr rv_bmin rv_appendN rs_appendN rs_alloc rs_box jcn rs_store rs_makeSlice rs_append rs_copy rs_makeMap rs_mapUpdate jcm rs_clear rv_lookup2 jci rv_clear rv_buildList opList Kc run_nil rval_some rnew_some rd_none rd_plain rd_some sh_indexAddr sh_fieldAddr sh_nilCheck sh_len sh_slice sh_load sh_bin rv_move rv_pick rv_alloc rv_box rv_build jcj rv_load rv_store rv_nilCheck rv_bin rv_beq opBeq rv_un rv_conv rv_makeFunc rv_makeSlice rv_makeMap rv_lookup rv_mapUpdate rv_slice rv_fieldAddr rv_field rv_indexAddr rv_len rv_lenS rv_append rv_copy rv_extract rv_guardT rv_guardF rv_guardU rv_call rv_callv ev Fr.look Fr.put Fr.set Kh opPick opBox Jm Yv opNil opUn opConv opExtract opLenS jbh jD okSz WK nc_vint nc_vnat nc_vl one_bool one_int one_str one_nils one_nilp one_nilf one_nilm one_list one_ref one_slice one_ptr one_func one_map cells_bool cells_int cells_str cells_nils cells_nilp cells_nilf cells_nilm cells_list cells_ref cells_slice cells_ptr cells_func cells_map nc_vbool nc_int nc_str nc_nils nc_nilp nc_nilf nc_nilm nc_list nc_ref nc_slice nc_ptr nc_func nc_map cells_agg nc_agg KV vint vnat one_vint one_vnat one_vl int_beq int_bne upTo_len jv Zk JO jbY jL opIndex_own opLen_own opLen_nils jX jQ opMake_own jcr splice_eq opBuild_nil opBuild_cons jy zO jas opSlice_to opSlice_from jcz Kw JX YF jaJ gcL gcE gcU gcTo_lid gcP_lid idsF renF ren_bool ids_bool ren_int ids_int ren_str ids_str ren_nils ids_nils ren_nilp ids_nilp ren_nilf ids_nilf ren_nilm ids_nilm ren_junk ids_junk ren_list ids_list ren_ref ids_ref ren_agg ids_agg ren_tuple ids_tuple ren_func ids_func ren_slice ids_slice ren_ptr ids_ptr ren_map ids_map ren_vl ids_vl ren_vint ids_vint ren_vnat ids_vnat renL_nil renL_cons jaj jai renL_vint renL_bool renL_vl idsL_nil idsL_cons jaI jaH idsL_vint idsL_bool idsL_vl uGet uSet
attribute [simp] List.idxOf_cons
section
variable {P:Program} {N b:Nat} {Q:Exit->Fr->Store->Prop} {σ σ':Fr} {S S':Store} {c:Code} {cs:List CO}
end
section
variable {P:Program} {N b:Nat} {Q:Exit->Fr->Store->Prop} {σ σ':Fr} {S S':Store} {c:Code} {cs rest:List CO}
theorem QV:(∀ (l:List Nat) (k x:Nat),(l.map vnat).set k (.int .i64 (x:Int))=(l.set k x).map vnat)/\(∀ (l:List Nat) (k x:Nat),(l.map vnat).set k (.int .i64 ((x:Int)+1))=(l.set k (x+1)).map vnat)/\(∀ (l:List Int) (k:Nat) (x:Int),(l.map vint).set k (.int .i64 x)=(l.set k x).map vint) /\ ∀ (l:List Bool) (k:Nat) (x:Bool),(l.map V.bool).set k (.bool x)=(l.set k x).map V.bool :=
 ⟨set_vnat,set_vnat1,set_vint,set_bool⟩
theorem QG {G:Prop} (H:G) (h:G->VWp P N b c Q σ S:=by first | exact fun H=>JQ rfl H | exact fun H=>vw_scopeAt rfl H | exact fun H=>vw_labelAt rfl H | exact fun H=>jF rfl H | exact fun H=>qb _ rfl rfl H | exact fun H=>jC rfl H | (refine fun H=>jJ rfl rfl ?_ H; focus (simp [ev,Fr.look]; done)) | (refine fun H=>jG rfl rfl ?_ H; focus (simp [ev,Fr.look]; done)) | exact fun H=>jV _ rfl rfl H):VWp P N b c Q σ S:=h H
def kz:Nat->Store->Option (Option ZZ)
 | 1,_=>some none
 | 2,S=>some (some (ZZ.plain S))
 | _,_=>none
def km (P:Program) (c:Code) (ms:List Nat) (cs:List CO):Nat->Bool
 | 1=>true
 | _=>P.follows .mixedOrders&&lexZ ms (Code.ops c) cs cs.length 0 (Array.replicate (Code.ops c).size false)
def kms:Nat->Code->List Nat
 | 1,_=>[]
 | _,c=>qJ (Code.ops c)
theorem QX {z:Option ZZ} {ms:List Nat} (h:kz (Code.kind c) S=some z:=by exact rfl) (hc:(kms (Code.kind c) c,qh P N (Code.ops c))=(ms,some cs):=by (conv=>lhs; reduce)) (hB:km P c ms cs (Code.kind c)=true:=by kernel_rfl)
  (r:runV z cs σ S=some ([],σ',S')) (k:Q .normal σ' S'):VWp P N b c Q σ S:=by
 by_cases h1:Code.kind c=1
 ·rw [h1] at h
  cases h
  exact qg h1 (Prod.mk.inj hc).2 r (vseg_done k)
 ·by_cases h2:Code.kind c=2
  ·rw [h2] at h hc hB
   cases h
   obtain ⟨e1,e2⟩:=Bool.and_eq_true_iff.1 hB;exact Ko h2 e1 (Prod.mk.inj hc).1 (Prod.mk.inj hc).2 e2 r (vseg_done k)
  ·have:kz (Code.kind c) S=none:=by
    unfold kz;split<;>simp_all
   rw [this] at h; cases h
theorem QR (h:Code.kind c=1:=by exact rfl) (hc:qh P N (Code.ops c)=some cs:=by (conv=>lhs; reduce)) (r:runV none cs σ S=some (rest,σ',S')) (k:jz P none rest (Q .normal) σ' S'):VWp P N b c Q σ S:=qg h hc r k
theorem QD {ms:List Nat} (h:Code.kind c=2:=by exact rfl) (hm:P.follows .mixedOrders=true:=by kernel_rfl) (hM:qJ (Code.ops c)=ms:=by (conv=>lhs; reduce)) (hc:qh P N (Code.ops c)=some cs:=by (conv=>lhs; reduce)) (hB:lexZ ms (Code.ops c) cs cs.length 0 (Array.replicate (Code.ops c).size false)=true:=by kernel_rfl)
  (r:runV (some (ZZ.plain S)) cs σ S=some (rest,σ',S')) (k:jz P (some (ZZ.plain S)) rest (Q .normal) σ' S'):VWp P N b c Q σ S:=Ko h hm hM hc hB r k
theorem QL {z:Option ZZ} {K:Fr->Store->Prop} {d:Option Nat} {f:FuncId} {args:List Arg} {xs:List V} {r:List CO} {X:V} (h:VPure P f xs X) (H:jz P z r K (σ.put d X) S) (ha:args.map (ev σ)=xs:=by rfl) (hz:noW z d=true:=by rfl):jz P z (⟨d,none,.call f args⟩::r) K σ S:=jb ha h H hz
theorem QB {f:FuncId} {fn:Func} {c:Code} {ts:List Nat} {args:List V} {R:V->Store->Prop} {n:Nat} (hf:P.funcs[f]?=some fn) (hk:fn.ntmps=n) (h:S.Wf->VWp P n S.nx c (bodyV ts (Ja S.nx R)) (Kh 0 args) (St S [] [])) (hb:fn.body=some c:=by exact rfl) (ht:resT fn=some ts:=by exact rfl) (hn:args.length<=n:=by simp):VCalls P f args S R:=by
 subst hk;exact vcalls_start hf hb ht hn h
theorem QO (ks:List Nat) (H:VWp P N b c Q σ' S) (hk:σ.only ks=σ':=by conv=>lhs; simp [Fr.only,Fr.look]):VWp P N b c Q σ S:=vw_only' ks hk H
theorem QK {B:Store} {u u':Upds} {l l':List (Option (Nat × List V))} (ks:List Nat) (H:VWp P N B.nx c Q σ' (St B u' l')) (hw:B.Wf:=by assumption) (h1:ks.Nodup:=by decide) (h2:(JX B.nx ks u&&YF B.nx ks l ks&&idsF (gcP B.nx ks) σ)=true:=by simp) (hu:gcU B.nx ks u=u':=by conv=>lhs; simp) (hl:gcL B.nx ks l ks=l':=by conv=>lhs; simp) (hs:renF (gcTo B.nx ks) σ=σ':=by conv=>lhs; simp):VWp P N B.nx c Q σ (St B u l):=ZR ks hw h1 h2 hu hl hs H
def unS (P:Program) (N b:Nat):Nat->Code->(Exit->Fr->Store->Prop)->Code × (Exit->Fr->Store->Prop)
 | 0,c,Q=>(c,Q)
 | n+1,c,Q=>match Code.kind c with
  | 3=>unS P N b n (Code.fst c) (Kq (VWp P N b (Code.snd c) Q) Q)
  | _=>(c,Q)
theorem unS_ok {P:Program} {N b:Nat} {σ:Fr} {S:Store}:∀ (n:Nat) (c:Code) (Q:Exit->Fr->Store->Prop),VWp P N b (unS P N b n c Q).1 (unS P N b n c Q).2 σ S->VWp P N b c Q σ S
 | 0,_,_,h=>h
 | n+1,c,Q,h=>by
  unfold unS at h;split at h
  ·exact JQ (by assumption) (unS_ok n _ _ h)
  ·exact h
theorem QT {c':Code} {Q':Exit->Fr->Store->Prop} (k:VWp P N b c' Q' σ S) (h:unS P N b 9 c Q=(c',Q'):=by exact rfl):VWp P N b c Q σ S:=unS_ok 9 c Q (by rw [h]; exact k)
theorem QP {c':Code} {Q':Exit->Fr->Store->Prop} (k:jz P none rest (Q' .normal) σ' S') (t:unS P N b 9 c Q=(c',Q'):=by exact rfl) (h:Code.kind c'=1:=by exact rfl) (hc:qh P N (Code.ops c')=some cs:=by (conv=>lhs; reduce)) (r:runV none cs σ S=some (rest,σ',S'):=by conv=>lhs;simp[QV]):VWp P N b c Q σ S:=unS_ok 9 c Q (by rw [t]; exact QR h hc r k)
theorem QY {c':Code} {Q':Exit->Fr->Store->Prop} {z:Option ZZ} {ms:List Nat} (k:Q' .normal σ' S') (t:unS P N b 9 c Q=(c',Q'):=by exact rfl) (h:kz (Code.kind c') S=some z:=by exact rfl) (hc:(kms (Code.kind c') c',qh P N (Code.ops c'))=(ms,some cs):=by (conv=>lhs; reduce)) (hB:km P c' ms cs (Code.kind c')=true:=by kernel_rfl)
  (r:runV z cs σ S=some ([],σ',S'):=by conv=>lhs;simp[QV]):VWp P N b c Q σ S:=unS_ok 9 c Q (by rw [t]; exact QX h hc hB r k)
theorem QE {Z:ZZ} {K:Fr->Store->Prop} {d:Option Nat} {op:COp} (hz:Z.ok S') (H:jz P (some Z) rest K σ' S') (r:runV none [⟨d,none,op⟩] σ S=some ([],σ',S'):=by conv=>lhs;simp[QV]) (hk:(op.isCall||op.reader)=false:=by exact rfl):jz P (some Z) (⟨d,none,op⟩::rest) K σ S:=zr hk r hz H
theorem QI {B:Store} {u:Upds} {l lc ls:List (Option (Nat × List V))} {us uc:Upds} {S0:Store} {es:List Nat} {K:Fr->Store->Prop} {d:Option Nat} {op:COp} (H:jz P (some (ZZ.mk S0 (St B uc lc) (St B us ls) es)) rest K σ' (St B u l)) (r:runV none [⟨d,none,op⟩] σ S=some ([],σ',St B u l):=by conv=>lhs;simp[QV]) (hk:(op.isCall||op.reader)=false:=by exact rfl) (hz:subU uc u/\shpU us u/\subL lc l/\shpL ls l:=by simp [subU,shpU,subL,shpL]):jz P (some (ZZ.mk S0 (St B uc lc) (St B us ls) es)) (⟨d,none,op⟩::rest) K σ S:=zr hk r (Kl hz) H
theorem QJ (zc zs:Store) (es:List Nat) (H:jz P (some (ZZ.mk S zc zs es)) rest (Q .normal) σ' S') (h:Code.kind c=2:=by exact rfl) (hm:P.follows .mixedOrders=true:=by kernel_rfl) {ms:List Nat} (hM:qJ (Code.ops c)=ms:=by (conv=>lhs; reduce)) (hc:qh P N (Code.ops c)=some cs:=by (conv=>lhs; reduce)) (hB:lexW es ms (Code.ops c) cs cs.length 0 (Array.replicate (Code.ops c).size false)=true:=by kernel_rfl) (hE:zh ms cs es=true:=by kernel_rfl) (hz:(ZZ.mk S zc zs es).ok S:=by exact Kl (by simp [subU,shpU,subL,shpL])) (r:runV (some (ZZ.mk S zc zs es)) cs σ S=some (rest,σ',S')):VWp P N b c Q σ S:=vw_drawW zc zs es h hm hM hc hB hE hz r H
theorem QW {z:Option ZZ} {K:Fr->Store->Prop} (k:K σ' S') (r:runV z cs σ S=some ([],σ',S'):=by conv=>lhs;simp[QV]):jz P z cs K σ S:=Wz r k
theorem QZ {z:Option ZZ} {K:Fr->Store->Prop} (k:jz P z rest K σ' S') (r:runV z cs σ S=some (rest,σ',S'):=by conv=>lhs;simp[QV]):jz P z cs K σ S:=Wz r k
theorem QM {z:Option ZZ} {K:Fr->Store->Prop} (r:runV z cs σ S=some (rest,σ',S')) (k:jz P z rest K σ' S'):jz P z cs K σ S:=Wz r k
theorem QN {z:Option ZZ} {K:Fr->Store->Prop} (h:K σ S):jz P z [] K σ S:=h
theorem bw {G:Prop} (H:G) (h:G->VWp P N b c Q σ S:=by intro H; (repeat first|refine QG ?_|refine QY ?_ (r:=by conv=>lhs;simp[QV])); exact H):VWp P N b c Q σ S:=h H
theorem bx {A0:Prop} {G:A0->Prop} (a0:A0) (H:G a0) (h:∀ (a0:A0),G a0->VWp P N b c Q σ S:=by intro a0 H; (repeat first|refine QG ?_|refine QY ?_ (r:=by conv=>lhs;simp[QV,a0])); exact H):VWp P N b c Q σ S:=h a0 H
theorem bt {A0 B0:Prop} {G:A0->B0->Prop} (a0:A0) (a1:B0) (H:G a0 a1) (h:∀ (a0:A0) (a1:B0),G a0 a1->VWp P N b c Q σ S:=by intro a0 a1 H; (repeat first|refine QG ?_|refine QY ?_ (r:=by conv=>lhs;simp[QV,a0,a1])); exact H):VWp P N b c Q σ S:=h a0 a1 H
theorem bv {A0 B0 C0:Prop} {G:A0->B0->C0->Prop} (a0:A0) (a1:B0) (a2:C0) (H:G a0 a1 a2) (h:∀ (a0:A0) (a1:B0) (a2:C0),G a0 a1 a2->VWp P N b c Q σ S:=by intro a0 a1 a2 H; (repeat first|refine QG ?_|refine QY ?_ (r:=by conv=>lhs;simp[QV,a0,a1,a2])); exact H):VWp P N b c Q σ S:=h a0 a1 a2 H
theorem bD {A0 B0 C0 D0:Prop} {G:A0->B0->C0->D0->Prop} (a0:A0) (a1:B0) (a2:C0) (a3:D0) (H:G a0 a1 a2 a3) (h:∀ (a0:A0) (a1:B0) (a2:C0) (a3:D0),G a0 a1 a2 a3->VWp P N b c Q σ S:=by intro a0 a1 a2 a3 H; (repeat first|refine QG ?_|refine QY ?_ (r:=by conv=>lhs;simp[QV,a0,a1,a2,a3])); exact H):VWp P N b c Q σ S:=h a0 a1 a2 a3 H
theorem bJ {A0 B0 C0 D0 E0:Prop} {G:A0->B0->C0->D0->E0->Prop} (a0:A0) (a1:B0) (a2:C0) (a3:D0) (a4:E0) (H:G a0 a1 a2 a3 a4) (h:∀ (a0:A0) (a1:B0) (a2:C0) (a3:D0) (a4:E0),G a0 a1 a2 a3 a4->VWp P N b c Q σ S:=by intro a0 a1 a2 a3 a4 H; (repeat first|refine QG ?_|refine QY ?_ (r:=by conv=>lhs;simp[QV,a0,a1,a2,a3,a4])); exact H):VWp P N b c Q σ S:=h a0 a1 a2 a3 a4 H
theorem bz {A0 B0 C0 D0 E0 F0:Prop} {G:A0->B0->C0->D0->E0->F0->Prop} (a0:A0) (a1:B0) (a2:C0) (a3:D0) (a4:E0) (a5:F0) (H:G a0 a1 a2 a3 a4 a5) (h:∀ (a0:A0) (a1:B0) (a2:C0) (a3:D0) (a4:E0) (a5:F0),G a0 a1 a2 a3 a4 a5->VWp P N b c Q σ S:=by intro a0 a1 a2 a3 a4 a5 H; (repeat first|refine QG ?_|refine QY ?_ (r:=by conv=>lhs;simp[QV,a0,a1,a2,a3,a4,a5])); exact H):VWp P N b c Q σ S:=h a0 a1 a2 a3 a4 a5 H
theorem bB {A0:Prop} {z:Option ZZ} {K:Fr->Store->Prop} {rest:A0->List CO} {σ':A0->Fr} {S':A0->Store} (a0:A0) (k:jz P z (rest a0) K (σ' a0) (S' a0)) (r:∀ (a0:A0),runV z cs σ S=some ((rest a0),(σ' a0),(S' a0)):=by intro a0; conv=>lhs;simp[QV,a0]):jz P z cs K σ S:=QM (r a0) k
theorem bF {A0 B0:Prop} {z:Option ZZ} {K:Fr->Store->Prop} {rest:A0->B0->List CO} {σ':A0->B0->Fr} {S':A0->B0->Store} (a0:A0) (a1:B0) (k:jz P z (rest a0 a1) K (σ' a0 a1) (S' a0 a1)) (r:∀ (a0:A0) (a1:B0),runV z cs σ S=some ((rest a0 a1),(σ' a0 a1),(S' a0 a1)):=by intro a0 a1; conv=>lhs;simp[QV,a0,a1]):jz P z cs K σ S:=QM (r a0 a1) k
theorem bG {A0 B0 C0:Prop} {z:Option ZZ} {K:Fr->Store->Prop} {rest:A0->B0->C0->List CO} {σ':A0->B0->C0->Fr} {S':A0->B0->C0->Store} (a0:A0) (a1:B0) (a2:C0) (k:jz P z (rest a0 a1 a2) K (σ' a0 a1 a2) (S' a0 a1 a2)) (r:∀ (a0:A0) (a1:B0) (a2:C0),runV z cs σ S=some ((rest a0 a1 a2),(σ' a0 a1 a2),(S' a0 a1 a2)):=by intro a0 a1 a2; conv=>lhs;simp[QV,a0,a1,a2]):jz P z cs K σ S:=QM (r a0 a1 a2) k
theorem bH {A0:Prop} {rest:A0->List CO} {σ':A0->Fr} {S':A0->Store} {c':Code} {Q':Exit->Fr->Store->Prop} (a0:A0) (k:jz P none (rest a0) (Q' .normal) (σ' a0) (S' a0)) (t:unS P N b 9 c Q=(c',Q'):=by exact rfl) (h:Code.kind c'=1:=by exact rfl) (hc:qh P N (Code.ops c')=some cs:=by (conv=>lhs; reduce)) (r:∀ (a0:A0),runV none cs σ S=some ((rest a0),(σ' a0),(S' a0)):=by intro a0; conv=>lhs;simp[QV,a0]):VWp P N b c Q σ S:=unS_ok 9 c Q (by rw [t]; exact QR h hc (r a0) k)
theorem bK {A0 B0:Prop} {rest:A0->B0->List CO} {σ':A0->B0->Fr} {S':A0->B0->Store} {c':Code} {Q':Exit->Fr->Store->Prop} (a0:A0) (a1:B0) (k:jz P none (rest a0 a1) (Q' .normal) (σ' a0 a1) (S' a0 a1)) (t:unS P N b 9 c Q=(c',Q'):=by exact rfl) (h:Code.kind c'=1:=by exact rfl) (hc:qh P N (Code.ops c')=some cs:=by (conv=>lhs; reduce)) (r:∀ (a0:A0) (a1:B0),runV none cs σ S=some ((rest a0 a1),(σ' a0 a1),(S' a0 a1)):=by intro a0 a1; conv=>lhs;simp[QV,a0,a1]):VWp P N b c Q σ S:=unS_ok 9 c Q (by rw [t]; exact QR h hc (r a0 a1) k)
theorem bM {A0:Prop} {σ':A0->Fr} {S':A0->Store} {c':Code} {Q':Exit->Fr->Store->Prop} {z:Option ZZ} {ms:List Nat} (a0:A0) (k:Q' .normal (σ' a0) (S' a0)) (t:unS P N b 9 c Q=(c',Q'):=by exact rfl) (h:kz (Code.kind c') S=some z:=by exact rfl) (hc:(kms (Code.kind c') c',qh P N (Code.ops c'))=(ms,some cs):=by (conv=>lhs; reduce)) (hB:km P c' ms cs (Code.kind c')=true:=by kernel_rfl)
  (r:∀ (a0:A0),runV z cs σ S=some ([],(σ' a0),(S' a0)):=by intro a0; conv=>lhs;simp[QV,a0]):VWp P N b c Q σ S:=unS_ok 9 c Q (by rw [t]; exact QX h hc hB (r a0) k)
theorem bQ {z:Option ZZ} {K:Fr->Store->Prop} {G:Prop} (H:G) (h:G->jz P z cs K σ S:=by intro H; refine QW ?_; (repeat first|refine QG ?_|refine QY ?_); exact H):jz P z cs K σ S:=h H
theorem bR {z:Option ZZ} {K:Fr->Store->Prop} {G:Prop} (H:G) (h:G->jz P z [] K σ S:=by intro H; refine QN ?_; (repeat first|refine QG ?_|refine QY ?_); exact H):jz P z [] K σ S:=h H
theorem QS (H:VWp P N b (Code.fst c) (Kq (VWp P N b (Code.snd c) Q) Q) σ S) (h:Code.kind c=3:=by exact rfl):VWp P N b c Q σ S:=JQ h H
end
theorem QA {N:Nat} {I:Nat->Fr->Store->Prop} {ks:List Nat} {n n':Nat} {σ σ1 σ':Fr} {B:Store} {u u':Upds} {l l':List (Option (Nat × List V))} (gs:List Nat) (hσ1:σ.only ks=σ1:=by conv=>lhs; simp [Fr.only]) (hw:B.Wf:=by assumption) (h1:gs.Nodup:=by decide)
  (h2:(JX B.nx gs u&&YF B.nx gs l gs&&idsF (gcP B.nx gs) σ1)=true:=by simp) (hu:gcU B.nx gs u=u':=by conv=>lhs; simp) (hl:gcL B.nx gs l gs=l':=by conv=>lhs; simp) (hσ:renF (gcTo B.nx gs) σ1=σ':=by conv=>lhs; simp)
  (h:n'<n/\I n' σ' (St B u' l')):js N B.nx I ks n σ (St B u l):=jT gs hσ1 hw h1 h2 hu hl hσ h
end Go.Vw
/-
 More rules for walks.
-/
namespace Go.Vw
open Go.RowKit
def mapS (ns:List Nat):List V:=ns.map fun n => .tuple [vnat n, .bool true]
def addS (ns:List Nat) (n:Nat):List Nat:=if n∈ns then ns else ns++[n]
theorem YC (n:Nat) : ∀ (ns:List Nat) (i:Nat),(n∉ns/\zp (.int .i64 (n:Int)) (mapS ns) i=some none) \/ ∃ j,n∈ns/\ns[j]? = some n/\zp (.int .i64 (n:Int)) (mapS ns) i=some (some (i+j, .bool true))
 | [],i => .inl ⟨by simp,rfl⟩
 | x::ns,i=>by
  by_cases e:n=x
  ·subst e;exact .inr ⟨0,by simp,rfl,by simp [mapS,zp,zF,vnat]⟩
  ·have e':((n:Int)==(x:Int))=false:=by simp; omega
   have h0:zp (.int .i64 (n:Int)) (mapS (x::ns)) i=zp (.int .i64 (n:Int)) (mapS ns) (i+1):=by
    show (match zF (.int .i64 (n:Int)) (vnat x) with | some true=>_ | some false=>_ | none=>_)=_;simp only [zF,vnat,if_true,e']
    rfl
   rcases YC n ns (i+1) with ⟨h1,h2⟩ | ⟨j,h1,h2,h3⟩
   ·exact .inl ⟨by simp [e,h1],by rw [h0,h2]⟩
   ·exact .inr ⟨j+1,by simp [h1],by simpa using h2,by rw [h0,h3]; simp; omega⟩
theorem opLookup_set {S:Store} {o:Nat} {ns:List Nat} {n:Nat} (h:S.get o=some (0,mapS ns)):qW (.bool false) false S (.map o) (.int .i64 (n:Int))=some (.bool (decide (n∈ns))):=by
 simp only [qW,h];rcases YC n ns 0 with ⟨h1,h2⟩ | ⟨j,h1,h2,h3⟩
 ·simp [h2,h1]
 ·simp [h3,h1]
theorem jaq {S:Store} {o:Nat} {ns:List Nat} {n:Nat} (h:S.get o=some (0,mapS ns)):qq S (.map o) (.int .i64 (n:Int)) (.bool true)=some (S.upd o (0,mapS (addS ns n))):=by
 simp only [qq,h];rcases YC n ns 0 with ⟨h1,h2⟩ | ⟨j,h1,h2,h3⟩
 ·simp only [h2,addS,if_neg h1];simp [mapS,vnat]
 ·simp only [h3,addS,h1,if_true,bd];have e:(mapS ns).set j (.tuple [.int .i64 (n:Int), .bool true])=mapS ns:=by
   refine List.ext_getElem? fun i => ?_
   by_cases hij:j=i
   ·subst hij;have hj:j<ns.length:=(ae.1 h2).1;have hv:ns[j]=n:=(ae.1 h2).2;simp [mapS,hj,hv,vnat]
   ·rw [aR hij]
  rw [e]
theorem renL_mapS (f:Nat->Nat) (ns:List Nat):V.renL f (mapS ns)=mapS ns:=by
 unfold mapS;rw [qi,List.map_map];exact a7 fun x _=>by simp [V.ren,V.renL,vnat]
theorem idsL_mapS (p:Nat->Bool) (ns:List Nat):V.idsL p (mapS ns)=true:=by
 unfold mapS;rw [qr,List.all_map];simp [V.ids,V.idsL,vnat]
attribute [simp] opLookup_set jaq renL_mapS idsL_mapS
end Go.Vw
/-
 What the functions of layer 7 compute, in plain Lean.
-/
namespace Go.Vw.G
def okIx (l:List Int) (n:Int):Prop:=0<=n/\n<l.length
instance (l:List Int) (n:Int):Decidable (okIx l n):=inferInstanceAs (Decidable (_/\_))
def dom1 (l:List Int) (a:Int):Nat->Int->Bool
 | 0,_=>false
 | n+1,b=>if okIx l b then (if a=b then true else dom1 l a n (l.getD b.toNat 0)) else false
def dominates (l:List Int) (a b:Int):Bool:=if okIx l a then dom1 l a 257 b else false
def wild (len:Nat) (n:Int):Bool:=decide (n<0)||decide ((len:Int)<=n)
def find (p:Int->Bool):List Int->Nat->Int
 | [],_ => -1
 | x::xs,k=>if p x then k else find p xs (k+1)
theorem find_any (p:Int->Bool) : ∀ (l:List Int) (k:Nat),decide (0<=find p l k)=l.any p
 | [],k=>by simp [find]
 | x::xs,k=>by
   cases h:p x
   ·simp [find,h,find_any p xs (k+1)]
   ·simp [find,h]
def rowOk (len:Nat) (l:List Int):Bool:=decide (l.length<=128) && !(l.any (wild len))
def right (g:List (List Int)):Bool:=decide (1<=g.length)&&decide (g.length<=256)&&g.all (rowOk g.length)
end Go.Vw.G
