import Derived.Test.YtenhhokhkkfgbaaGreatC26
/- Part of the proof. -/
set_option linter.unusedVariables false
set_option linter.unusedSimpArgs false
namespace Ss
abbrev on (need:List Bool) (v:Int):Bool:=need.getD v.toNat false
def dfs (asks:List (List Int)):Nat->List Bool->List Int->List Bool
 | 0,need,_=>need
 | _+1,need,[]=>need
 | n+1,need,v::r=>if on need v then dfs asks (n+1) need r else dfs asks (n+1) (dfs asks n (need.set v.toNat true) (asks.getD v.toNat [])) r
termination_by n _ l=>(n,l.length)
def off (need:List Bool):Nat:=need.countP fun b => !b
theorem off_le {a b:List Bool} (hl:a.length=b.length) (h : ∀ i:Nat,a[i]? = some true->b[i]? = some true):off b<=off a:=by
 induction a generalizing b with
 | nil=>cases b with
  | nil=>exact bf _
  | cons=>simp at hl
 | cons x a ih =>
  cases b with
  | nil=>simp at hl
  | cons y b =>
   have h0:=h 0;have:=ih (b:=b) (by simpa using hl) fun i hi=>by simpa using h (i+1) (by simpa using hi)
   simp only [aK,ay] at h0;simp only [off,List.countP_cons] at this ⊢
   cases x<;>cases y<;>simp_all<;>omega
theorem off_set {a:List Bool} {i:Nat} (h:a[i]? = some false):off (a.set i true)+1=off a:=by
 induction a generalizing i with
 | nil=>simp at h
 | cons x a ih =>
  cases i with
  | zero =>
   simp only [aK,ay] at h;subst h;simp [off]
  | succ i =>
   have:=ih (i:=i) (by simpa using h);simp only [aq,off,List.countP_cons] at this ⊢;omega
theorem qX {need:List Bool} {v:Int}:on need v=true↔need[v.toNat]? = some true:=by
 rw [on,ag]
 cases h:need[v.toNat]? with
 | none=>simp
 | some b=>simp
structure Marks (asks:List (List Int)) (need:List Bool) (l:List Int) (R:List Bool):Prop where
 len:R.length=need.length
 mono : ∀ i:Nat,need[i]? = some true->R[i]? = some true
 all : ∀ v∈l,on R v=true
 shut : ∀ i:Nat,R[i]? = some true->need[i]? = some true \/ ∀ u∈asks.getD i [],on R u=true
 least : ∀ P:Nat->Prop,(∀ i:Nat,need[i]? = some true->P i)->(∀ v∈l,P v.toNat)->(∀ i:Nat,P i -> ∀ u∈asks.getD i [],P u.toNat) -> ∀ i:Nat,R[i]? = some true->P i
theorem dfs_marks {asks:List (List Int)} {N:Nat} (ha : ∀ l∈asks, ∀ u∈l,u.toNat<N) : ∀ (n:Nat) (need:List Bool) (l:List Int),need.length=N->(∀ v∈l,v.toNat<N)->off need<n->Marks asks need l (dfs asks n need l)
 | 0,need,l,_,_,h=>by omega
 | n+1,need,[],hN,_,h=>by
  rw [dfs];exact ⟨rfl,fun i h=>h,by simp,fun i h => .inl h,fun P h0 _ _ i hi=>h0 i hi⟩
 | n+1,need,v::r,hN,hl,h=>by
  rw [dfs];have hvN:=hl v (by simp)
  by_cases hv:on need v=true
  ·rw [if_pos hv];obtain ⟨m1,m2,m3,m4,m5⟩:=dfs_marks ha (n+1) need r hN (fun u hu=>hl u (by simp [hu])) h;refine ⟨m1,m2,fun u hu => ?_,m4,fun P h0 h1 h2=>m5 P h0 (fun u hu=>h1 u (by simp [hu])) h2⟩;rcases aL.1 hu with rfl | hu
   ·exact qX.2 (m2 _ (qX.1 hv))
   ·exact m3 u hu
  ·rw [if_neg hv];have hf:need[v.toNat]? = some false:=by
    rw [qX] at hv;rw [ac (by omega)] at hv ⊢;simpa using hv
   have ho:=off_set hf;have hal : ∀ u∈asks.getD v.toNat [],u.toNat<N:=fun u hu=>by
    rw [ag] at hu
    cases he:asks[v.toNat]? with
    | none=>rw [he] at hu; simp at hu
    | some l=>rw [he] at hu; exact ha l (aA he) u hu
   obtain ⟨k1,k2,k3,k4,k5⟩:=dfs_marks ha n (need.set v.toNat true) (asks.getD v.toNat []) (by rw [List.length_set]; exact hN) hal (by omega);generalize dfs asks n (need.set v.toNat true) (asks.getD v.toNat [])=M at *
   have hml:M.length=need.length:=by rw [k1,List.length_set]
   have hnM : ∀ i:Nat,need[i]? = some true->M[i]? = some true:=fun i hi=>k2 i (by
    rw [List.getElem?_set];split
    ·rename_i e; subst e; rw [hf] at hi; cases hi
    ·exact hi)
   have hvM:M[v.toNat]? = some true:=k2 _ (aZ (by omega));have hoM:off M<=off need:=off_le hml.symm hnM;obtain ⟨m1,m2,m3,m4,m5⟩:=dfs_marks ha (n+1) M r (by omega) (fun u hu=>hl u (by simp [hu])) (by omega);refine ⟨by omega,fun i hi=>m2 i (hnM i hi),fun u hu => ?_,fun i hi => ?_,fun P h0 h1 h2=>m5 P ?_ (fun u hu=>h1 u (by simp [hu])) h2⟩
   ·rcases aL.1 hu with rfl | hu
    ·exact qX.2 (m2 _ hvM)
    ·exact m3 u hu
   ·rcases m4 i hi with hM | hs
    ·rcases k4 i hM with hn | hs
     ·rw [List.getElem?_set] at hn;split at hn
      ·rename_i e;subst e;exact .inr fun u hu=>qX.2 (m2 _ (qX.1 (k3 u hu)))
      ·exact .inl hn
     ·exact .inr fun u hu=>qX.2 (m2 _ (qX.1 (hs u hu)))
    ·exact .inr hs
   ·have hPv:P v.toNat:=h1 v (by simp);refine k5 P (fun i hi => ?_) (fun u hu=>h2 _ hPv u hu) h2;rw [List.getElem?_set] at hi;split at hi
    ·rename_i e; subst e; exact hPv
    ·exact h0 i hi
termination_by n _ l=>(n,l.length)
theorem marks_trans {asks:List (List Int)} {a b c:List Bool} {l m:List Int} (h:Marks asks a l b) (k:Marks asks b m c):Marks asks a (l++m) c:=by
 refine ⟨k.len.trans h.len,fun i hi=>k.mono i (h.mono i hi),fun v hv => ?_,fun i hi => ?_,fun P h0 h1 h2=>k.least P (h.least P h0 (fun v hv=>h1 v (by simp [hv])) h2) (fun v hv=>h1 v (by simp [hv])) h2⟩
 ·rcases aG.1 hv with hv | hv
  ·exact qX.2 (k.mono _ (qX.1 (h.all v hv)))
  ·exact k.all v hv
 ·rcases k.shut i hi with hb | hs
  ·rcases h.shut i hb with ha | hs
   ·exact .inl ha
   ·exact .inr fun u hu=>qX.2 (k.mono _ (qX.1 (hs u hu)))
  ·exact .inr hs
theorem marks_eq {asks:List (List Int)} {n:Nat} {l m:List Int} {R R':List Bool} (h:Marks asks (List.replicate n false) l R) (k:Marks asks (List.replicate n false) m R') (hlm : ∀ v,v∈l↔v∈m):R=R':=by
 have hf : ∀ i:Nat,(List.replicate n false)[i]? = some true->False:=fun i hi=>by
  have:=aA hi;rw [List.mem_replicate] at this
  cases this.2
 have key : ∀ {l m:List Int} {R R':List Bool},Marks asks (List.replicate n false) l R->Marks asks (List.replicate n false) m R'->(∀ v,v∈l->v∈m) -> ∀ i:Nat,R[i]? = some true->R'[i]? = some true:=fun h k hlm =>
  h.least (fun i=>_=some true) (fun i hi=>(hf i hi).elim) (fun v hv=>qX.1 (k.all v (hlm v hv))) fun i hi u hu=>by
   rcases k.shut i hi with hn | hs
   ·exact (hf i hn).elim
   ·exact qX.1 (hs u hu)
 have hl:R.length=R'.length:=h.len.trans k.len.symm;refine List.ext_getElem hl fun i h1 h2 => ?_
 have a:=key h k (fun v hv=>(hlm v).1 hv) i;have b:=key k h (fun v hv=>(hlm v).2 hv) i;rw [ac h1,ac h2] at a b;simp only [ay] at a b;exact Bool.eq_iff_iff.2 ⟨a,b⟩
def InR (n:Nat) (v:Int):Prop:=0<=v/\v<n
structure DOk (f:Fn):Prop where
 ne:f.blocks≠[]
 outs : ∀ b∈f.blocks, ∀ x∈b.code, ∀ v∈x.outs,InR f.types.length v
 one : ∀ b∈f.blocks, ∀ x∈b.code,pure x.op=true -> ∃ o,x.outs=[o]
 args : ∀ b∈f.blocks, ∀ x∈b.code, ∀ v∈x.args,InR f.types.length v
 pars : ∀ b∈f.blocks, ∀ v∈b.params,InR f.types.length v
 targs : ∀ b∈f.blocks, ∀ v∈b.term.args,InR f.types.length v
 targ : ∀ b∈f.blocks,branches b.term=true->InR f.types.length b.term.arg
 eargs : ∀ b∈f.blocks, ∀ e∈b.term.to, ∀ v∈e.args,InR f.types.length v
 etos : ∀ b∈f.blocks, ∀ e∈b.term.to,0<=e.to/\e.to<f.blocks.length/\e.args.length=(f.blocks.getD e.to.toNat default).params.length
 u1 : ∀ b∈f.blocks, ∀ c∈f.blocks, ∀ x∈b.code, ∀ y∈c.code,pure x.op=true->pure y.op=true->x.outs=y.outs->x.args=y.args
 u2 : ∀ b∈f.blocks, ∀ c∈f.blocks, ∀ p∈b.params, ∀ y∈c.code,p∉y.outs
def askIns (t:List (List Int)) (x:Ins):List (List Int):=if pure x.op then t.set (x.outs.getD 0 0).toNat x.args else t
def askPar (t:List (List Int)) (q:Int × Int):List (List Int):=t.set q.1.toNat (t.getD q.1.toNat []++[q.2])
def askEdge (bs:List Block) (t:List (List Int)) (e:Edge):List (List Int):=((bs.getD e.to.toNat default).params.zip e.args).foldl askPar t
def askBlock (bs:List Block) (t:List (List Int)) (b:Block):List (List Int):=b.term.to.foldl (askEdge bs) (b.code.foldl askIns t)
def askTab (f:Fn):List (List Int):=f.blocks.foldl (askBlock f.blocks) (List.replicate f.types.length [])
def Asks (f:Fn) (v u:Int):Prop:=(∃ b∈f.blocks, ∃ x∈b.code,pure x.op=true/\x.outs=[v]/\u∈x.args) \/ ∃ b∈f.blocks, ∃ e∈b.term.to,(v,u)∈(f.blocks.getD e.to.toNat default).params.zip e.args
theorem jU {α β:Type} {g:β->α->β} {P:β->Prop} : ∀ {l:List α} {t:β},P t->(∀ t, ∀ a∈l,P t->P (g t a))->P (l.foldl g t)
 | [],t,h,_=>h
 | a::l,t,h,hs=>by
  rw [List.foldl_cons];exact jU (hs t a (by simp) h) fun t b hb=>hs t b (by simp [hb])
theorem par_mem {f:Fn} {e:Edge} {q:Int × Int} (hq:q∈(f.blocks.getD e.to.toNat default).params.zip e.args) (hb : ∃ b∈f.blocks,e∈b.term.to) (h:DOk f) : ∃ b∈f.blocks,q.1∈b.params:=by
 obtain ⟨b,hbm,he⟩:=hb;obtain ⟨h0,h1,_⟩:=h.etos b hbm e he;have hlt:e.to.toNat<f.blocks.length:=by omega
 refine ⟨f.blocks.getD e.to.toNat default, ?_,(List.of_mem_zip hq).1⟩;rw [ag,ac hlt];exact ah hlt
theorem KT (t:List (List Int)) (i j:Nat) (l:List Int):(t.set i l).getD j []=if i=j/\j<t.length then l else t.getD j []:=by
 simp only [ag,List.getElem?_set]
 by_cases e:i=j
 ·subst e
  by_cases h:i<t.length
  ·simp [h]
  ·simp [h]
 ·simp [e]
theorem ZX {f:Fn} (h:DOk f) : ∀ v u:Int,0<=v->u∈(askTab f).getD v.toNat []->Asks f v u:=by
 let P:=fun t:List (List Int) => ∀ v u:Int,0<=v->u∈t.getD v.toNat []->Asks f v u
 show P (askTab f);unfold askTab;refine jU (P:=P) (fun v u _ hu => ?_) fun t b hb ht => ?_
 ·rw [ag,List.getElem?_replicate] at hu;split at hu<;>simp at hu
 unfold askBlock;refine jU (P:=P) (jU (P:=P) ht fun t x hx ht => ?_) fun t e he ht => ?_
 ·unfold askIns;split
  ·rename_i hp;intro v u hv hu;rw [KT] at hu;split at hu
   ·rename_i hc;obtain ⟨o,ho⟩:=h.one b hb x hx hp;have h0:=(h.outs b hb x hx o (by simp [ho])).1;rw [ho] at hc;have:o=v:=by have:=hc.1; simp only [List.getD_cons_zero] at this; omega
    subst this;exact .inl ⟨b,hb,x,hx,hp,ho,hu⟩
   ·exact ht v u hv hu
  ·exact ht
 ·unfold askEdge;refine jU (P:=P) ht fun t q hq ht => ?_
  intro v u hv hu;rw [askPar,KT] at hu;split at hu
  ·rename_i hc;obtain ⟨c,hcm,hcp⟩:=par_mem hq ⟨b,hb,he⟩ h;have h0:=(h.pars c hcm _ hcp).1;have e1:q.1=v:=by have:=hc.1; omega
   rcases aG.1 hu with hu | hu
   ·rw [e1] at hu; exact ht v u hv hu
   ·simp only [aW] at hu;subst hu;subst e1;exact .inr ⟨b,hb,e,he,hq⟩
  ·exact ht v u hv hu
theorem jcd {f:Fn} (h:DOk f) {v u:Int} (hvu:Asks f v u):u∈(askTab f).getD v.toNat []:=by
 let P:=fun t:List (List Int)=>t.length=f.types.length/\u∈t.getD v.toNat []
 let L:=fun t:List (List Int)=>t.length=f.types.length
 have hv:InR f.types.length v:=by
  rcases hvu with ⟨b,hb,x,hx,_,ho,_⟩ | ⟨b,hb,e,he,hq⟩
  ·exact h.outs b hb x hx v (by simp [ho])
  ·obtain ⟨c,hc,hp⟩:=par_mem hq ⟨b,hb,he⟩ h;exact h.pars c hc _ hp
 have hvt:v.toNat<f.types.length:=by have:=hv.1; have:=hv.2; omega
 have clash : ∀ b∈f.blocks, ∀ y∈b.code,pure y.op=true->(y.outs.getD 0 0).toNat=v.toNat->u∈y.args:=fun b hb y hy hp he=>by
  obtain ⟨o,ho⟩:=h.one b hb y hy hp;have h0:=(h.outs b hb y hy o (by simp [ho])).1;rw [ho] at he;have e1:o=v:=by have:=hv.1; simp only [List.getD_cons_zero] at he; omega
  subst e1;rcases hvu with ⟨c,hc,x,hx,hxp,hxo,hxu⟩ | ⟨c,hc,e,he',hq⟩
  ·rw [h.u1 b hb c hc y hy x hx hp hxp (by rw [ho,hxo])]; exact hxu
  ·obtain ⟨d,hd,hdp⟩:=par_mem hq ⟨c,hc,he'⟩ h;exact absurd (by rw [ho]; simp) (h.u2 d hd b hb _ hdp y hy)
 have sIns : ∀ b∈f.blocks, ∀ t, ∀ y∈b.code,P t->P (askIns t y):=fun b hb t y hy ⟨hl,hu⟩=>by
  unfold askIns;split
  ·rename_i hp;refine ⟨by rw [List.length_set]; exact hl, ?_⟩;rw [KT];split
   ·rename_i hc; exact clash b hb y hy hp hc.1
   ·exact hu
  ·exact ⟨hl,hu⟩
 have sPar : ∀ t (q:Int × Int),P t->P (askPar t q):=fun t q ⟨hl,hu⟩=>by
  refine ⟨by rw [askPar,List.length_set]; exact hl, ?_⟩;rw [askPar,KT];split
  ·rename_i hc; rw [hc.1]; exact List.mem_append_left _ hu
  ·exact hu
 have sEdge : ∀ t e,P t->P (askEdge f.blocks t e):=fun t e ht=>jU (P:=P) ht fun t q _ ht=>sPar t q ht
 have sBlock : ∀ t, ∀ b∈f.blocks,P t->P (askBlock f.blocks t b):=fun t b hb ht=>jU (P:=P) (jU (P:=P) ht fun t x hx ht=>sIns b hb t x hx ht) fun t e _ ht=>sEdge t e ht
 have lIns : ∀ t y,L t->L (askIns t y):=fun t y ht=>by
  unfold askIns; split
  ·show List.length _=_; rw [List.length_set]; exact ht
  ·exact ht
 have lPar : ∀ t q,L t->L (askPar t q):=fun t q ht=>by show List.length _=_; rw [askPar,List.length_set]; exact ht
 have lEdge : ∀ t e,L t->L (askEdge f.blocks t e):=fun t e ht=>jU (P:=L) ht fun t q _ ht=>lPar t q ht
 have lBlock : ∀ t b,L t->L (askBlock f.blocks t b):=fun t b ht=>jU (P:=L) (jU (P:=L) ht fun t x _ ht=>lIns t x ht) fun t e _ ht=>lEdge t e ht
 have at2 : ∀ {α:Type} {g:List (List Int)->α->List (List Int)} {l:List α} {a:α} {t:List (List Int)},a∈l->L t->(∀ t b,L t->L (g t b))->(∀ t,L t->P (g t a))->(∀ t, ∀ b∈l,P t->P (g t b))->P (l.foldl g t):=fun {α g l a t} ha hl h1 h2 h3=>by
  induction l generalizing t with
  | nil=>simp at ha
  | cons c l ih =>
   rw [List.foldl_cons];rcases aL.1 ha with rfl | ha
   ·exact jU (P:=P) (h2 t hl) fun t d hd=>h3 t d (by simp [hd])
   ·exact ih ha (h1 t c hl) fun t b hb=>h3 t b (by simp [hb])
 have hfin:P (askTab f):=by
  unfold askTab;rcases hvu with ⟨b,hb,x,hx,hp,ho,hxu⟩ | ⟨b,hb,e,he,hq⟩
  ·refine at2 hb (by show List.length _=_; simp) lBlock (fun t ht => ?_) sBlock;refine jU (P:=P) ?_ fun t e _ ht=>sEdge t e ht
   refine at2 hx ht lIns (fun t ht => ?_) fun t y hy=>sIns b hb t y hy
   unfold askIns;rw [if_pos hp];refine ⟨by rw [List.length_set]; exact ht, ?_⟩;rw [KT,ho,if_pos ⟨rfl,by have:t.length=f.types.length:=ht; omega⟩];exact hxu
  ·refine at2 hb (by show List.length _=_; simp) lBlock (fun t ht => ?_) sBlock;refine at2 he (jU (P:=L) ht fun t x _ ht=>lIns t x ht) lEdge (fun t ht => ?_) fun t e _ ht=>sEdge t e ht
   refine at2 hq ht lPar (fun t ht => ?_) fun t q _ ht=>sPar t q ht
   refine ⟨by rw [askPar,List.length_set]; exact ht, ?_⟩;rw [askPar,KT,if_pos ⟨rfl,by have:t.length=f.types.length:=ht; omega⟩];simp
 exact hfin.2
def zo (need:List Bool) (l:List Int):List Bool:=l.foldl (fun o v=>o.set v.toNat true) need
def rIns (o:List Bool) (x:Ins):List Bool:=if pure x.op then (if on o (x.outs.getD 0 0) then zo o x.args else o) else zo (zo o x.outs) x.args
def rPar (o:List Bool) (q:Int × Int):List Bool:=if on o q.1 then o.set q.2.toNat true else o
def rEdge (bs:List Block) (o:List Bool) (e:Edge):List Bool:=((bs.getD e.to.toNat default).params.zip e.args).foldl rPar o
def rTerm (o:List Bool) (t:Term):List Bool:=if branches t then (zo o t.args).set t.arg.toNat true else zo o t.args
def rBlock (bs:List Block) (o:List Bool) (b:Block):List Bool:=b.term.to.foldl (rEdge bs) (rTerm (b.code.foldl rIns o) b.term)
def jbE (f:Fn) (o:List Bool):List Bool:=f.blocks.foldl (rBlock f.blocks) o
def Kg (f:Fn):Nat->List Bool->List Bool
 | 0,o=>o
 | k+1,o=>if jbE f o=o then o else Kg f k (jbE f o)
def Inc (a b:List Bool):Prop:=a.length=b.length /\ ∀ i:Nat,a[i]? = some true->b[i]? = some true
theorem Inc.refl (a:List Bool):Inc a a:=⟨rfl,fun _ h=>h⟩
theorem Inc.trans {a b c:List Bool} (h:Inc a b) (k:Inc b c):Inc a c:=⟨h.1.trans k.1,fun i hi=>k.2 i (h.2 i hi)⟩
theorem Inc.anti {a b:List Bool} (h:Inc a b) (k:Inc b a):a=b:=by
 refine List.ext_getElem h.1 fun i h1 h2 => ?_
 have a1:=h.2 i;have b1:=k.2 i;rw [ac h1,ac h2] at a1 b1;simp only [ay] at a1 b1;exact Bool.eq_iff_iff.2 ⟨a1,b1⟩
theorem jaF (o:List Bool) (i:Nat):Inc o (o.set i true):=by
 refine ⟨by simp,fun j hj => ?_⟩;rw [List.getElem?_set];split
 ·rename_i e;subst e;rw [if_pos (ae.1 hj).1]
 ·exact hj
theorem zG {α:Type} {g:List Bool->α->List Bool} (h : ∀ o a,Inc o (g o a)) : ∀ (l:List α) (o:List Bool),Inc o (l.foldl g o)
 | [],o => .refl o
 | a::l,o=>(h o a).trans (zG h l (g o a))
theorem JK {α:Type} {g:List Bool->α->List Bool} (h : ∀ o a,Inc o (g o a)) : ∀ {l:List α} {o:List Bool},l.foldl g o=o -> ∀ a∈l,g o a=o
 | [],o,_,a,ha=>by simp at ha
 | b::l,o,hf,a,ha=>by
  rw [List.foldl_cons] at hf;have h1:=zG h l (g o b);rw [hf] at h1;have hb:g o b=o:=h1.anti (h o b);rcases aL.1 ha with rfl | ha
  ·exact hb
  ·rw [hb] at hf; exact JK h hf a ha
theorem qC (o:List Bool) (l:List Int):Inc o (zo o l):=zG (fun o v=>jaF o _) l o
theorem ins_inc (o:List Bool) (x:Ins):Inc o (rIns o x):=by
 unfold rIns;split
 ·split
  ·exact qC _ _
  ·exact .refl _
 ·exact (qC _ _).trans (qC _ _)
theorem par_inc (o:List Bool) (q:Int × Int):Inc o (rPar o q):=by
 unfold rPar;split
 ·exact jaF _ _
 ·exact .refl _
theorem jcP (bs:List Block) (o:List Bool) (e:Edge):Inc o (rEdge bs o e):=zG par_inc _ _
theorem term_inc (o:List Bool) (t:Term):Inc o (rTerm o t):=by
 unfold rTerm;split
 ·exact (qC _ _).trans (jaF _ _)
 ·exact qC _ _
theorem block_inc (bs:List Block) (o:List Bool) (b:Block):Inc o (rBlock bs o b):=(zG ins_inc _ _).trans ((term_inc _ _).trans (zG (jcP bs) _ _))
theorem round_inc (f:Fn) (o:List Bool):Inc o (jbE f o):=zG (block_inc f.blocks) _ _
theorem inc_off {a b:List Bool} (h:Inc a b) (hn:b≠a):off b<off a:=by
 have h1:=off_le h.1 h.2;rcases Nat.lt_or_ge (off b) (off a) with h2 | h2
 ·exact h2
 ·exfalso
  refine hn (h.anti ⟨h.1.symm,fun i hi => ?_⟩).symm;have hlt:=(ae.1 hi).1
  cases ha:a[i]? with
  | none=>rw [List.getElem?_eq_none_iff] at ha; have:=h.1; omega
  | some x =>
   cases x with
   | true=>rfl
   | false =>
    have h3:=off_set ha;have h4:off b<=off (a.set i true):=off_le (by rw [List.length_set]; exact h.1) fun j hj=>by
     rw [List.getElem?_set] at hj;split at hj
     ·rename_i e; subst e; exact hi
     ·exact h.2 j hj
    omega
theorem turns_fix {f:Fn} : ∀ {k:Nat} {o:List Bool},off o<k->jbE f (Kg f k o)=Kg f k o
 | 0,o,h=>by omega
 | k+1,o,h=>by
  rw [Kg];split
  ·rename_i e; exact e
  ·rename_i e;have:=inc_off (round_inc f o) e;exact turns_fix (by omega)
theorem ZW {f:Fn} {P:List Bool->Prop} (hs : ∀ o,P o->P (jbE f o)) : ∀ {k:Nat} {o:List Bool},P o->P (Kg f k o)
 | 0,o,h=>h
 | k+1,o,h=>by
  rw [Kg];split
  ·exact h
  ·exact ZW hs (hs o h)
theorem KO {o:List Bool} {l:List Int} (h:zo o l=o) {v:Int} (hv:v∈l) (hr:v.toNat<o.length):on o v=true:=by
 have:=JK (fun o v=>jaF o _) h v hv;rw [qX, <-this,aZ hr]
def rootsB (b:Block):List Int:=(b.code.flatMap fun x=>if pure x.op then [] else x.args++x.outs)++(b.term.args++if branches b.term then [b.term.arg] else [])
def roots (f:Fn):List Int:=(f.blocks.getD 0 default).params++f.blocks.flatMap rootsB
theorem head_mem {f:Fn} (h:DOk f):f.blocks.getD 0 default∈f.blocks:=by
 cases hb:f.blocks with
 | nil=>exact absurd hb h.ne
 | cons b bs=>simp
theorem roots_in {f:Fn} (h:DOk f) : ∀ v∈roots f,InR f.types.length v:=fun v hv=>by
 rcases aG.1 hv with hv | hv
 ·exact h.pars _ (head_mem h) v hv
 ·obtain ⟨b,hb,hv⟩:=bj.1 hv;rcases aG.1 hv with hv | hv
  ·obtain ⟨x,hx,hv⟩:=bj.1 hv;split at hv
   ·simp at hv
   ·rcases aG.1 hv with hv | hv
    ·exact h.args b hb x hx v hv
    ·exact h.outs b hb x hx v hv
  ·rcases aG.1 hv with hv | hv
   ·exact h.targs b hb v hv
   ·split at hv
    ·rename_i hk;simp only [aW] at hv;subst hv;exact h.targ b hb hk
    ·simp at hv
theorem JJ {P:Nat->Prop} {o:List Bool} {l:List Int} (ho : ∀ i:Nat,o[i]? = some true->P i) (hl : ∀ v∈l,P v.toNat) : ∀ i:Nat,(zo o l)[i]? = some true->P i:=by
 unfold zo;refine jU (P:=fun o:List Bool => ∀ i:Nat,o[i]? = some true->P i) ho fun t v hv ht i hi => ?_
 rw [List.getElem?_set] at hi;split at hi
 ·rename_i e; subst e; exact hl v hv
 ·exact ht i hi
theorem jae {f:Fn} (h:DOk f):Marks (askTab f) (List.replicate f.types.length false) (roots f) (Kg f (f.types.length+1) (zo (List.replicate f.types.length false) (f.blocks.getD 0 default).params)):=by
 have hoff:off (zo (List.replicate f.types.length false) (f.blocks.getD 0 default).params)<f.types.length+1:=by
  have h1:off (zo (List.replicate f.types.length false) (f.blocks.getD 0 default).params)<=(zo (List.replicate f.types.length false) (f.blocks.getD 0 default).params).length:=List.countP_le_length;have h2:=(qC (List.replicate f.types.length false) (f.blocks.getD 0 default).params).1;rw [List.length_replicate] at h2;omega
 have hfix:=turns_fix (f:=f) hoff;have hinc:Inc (zo (List.replicate f.types.length false) (f.blocks.getD 0 default).params) (Kg f (f.types.length+1) (zo (List.replicate f.types.length false) (f.blocks.getD 0 default).params)) :=
  ZW (P:=fun o=>Inc (zo (List.replicate f.types.length false) (f.blocks.getD 0 default).params) o) (fun o ho=>ho.trans (round_inc f o)) (.refl _)
 have hlen:(Kg f (f.types.length+1) (zo (List.replicate f.types.length false) (f.blocks.getD 0 default).params)).length=f.types.length:=by
  rw [<-hinc.1, <-(qC _ _).1,List.length_replicate]
 have hleast : ∀ P:Nat->Prop,(∀ v∈roots f,P v.toNat)->(∀ i:Nat,P i -> ∀ u∈(askTab f).getD i [],P u.toNat) -> ∀ i:Nat,(Kg f (f.types.length+1) (zo (List.replicate f.types.length false) (f.blocks.getD 0 default).params))[i]? = some true->P i:=by
  intro P hr hc
  let Q:=fun o:List Bool => ∀ i:Nat,o[i]? = some true->P i
  have hrB : ∀ b∈f.blocks, ∀ v∈rootsB b,P v.toNat:=fun b hb v hv=>hr v (by
   simp only [roots,aG,bj]; exact .inr ⟨b,hb,hv⟩)
  refine ZW (P:=Q) (fun o ho => ?_) (JJ (P:=P) (fun i hi => ?_) fun v hv=>hr v (by simp only [roots,aG]; exact .inl hv))
  ·unfold jbE;refine jU (P:=Q) ho fun o b hb ho => ?_
   unfold rBlock;refine jU (P:=Q) ?_ fun o e he ho => ?_
   ·have hcode:Q (b.code.foldl rIns o):=jU (P:=Q) ho fun o x hx ho=>by
     unfold rIns;split
     ·rename_i hp;split
      ·rename_i hon;obtain ⟨v,hv⟩:=h.one b hb x hx hp;rw [hv] at hon;have hPv:=ho _ (qX.1 hon);exact JJ ho fun u hu=>hc _ hPv u (by
        have:=jcd h (v:=v) (u:=u) (.inl ⟨b,hb,x,hx,hp,hv,hu⟩);simpa using this)
      ·exact ho
     ·rename_i hp;have hin : ∀ v∈x.args++x.outs,P v.toNat:=fun v hv=>hrB b hb v (by
       simp only [rootsB,aG,bj];exact .inl ⟨x,hx,by rw [if_neg hp]; exact hv⟩)
      exact JJ (JJ ho fun v hv=>hin v (by simp [hv])) fun v hv=>hin v (by simp [hv])
    have hargs:=JJ (l:=b.term.args) hcode fun v hv=>hrB b hb v (by simp only [rootsB,aG]; exact .inr (.inl hv))
    unfold rTerm;split
    ·rename_i hk;intro i hi;rw [List.getElem?_set] at hi;split at hi
     ·rename_i e;subst e;exact hrB b hb _ (by simp only [rootsB,aG]; exact .inr (.inr (by rw [if_pos hk]; simp)))
     ·exact hargs i hi
    ·exact hargs
   ·unfold rEdge;refine jU (P:=Q) ho fun o q hq ho => ?_
    unfold rPar;split
    ·rename_i hon;intro i hi;rw [List.getElem?_set] at hi;split at hi
     ·rename_i e2;subst e2;exact hc _ (ho _ (qX.1 hon)) _ (jcd h (.inr ⟨b,hb,e,he,hq⟩))
     ·exact ho i hi
    ·exact ho
  ·have:=aA hi;rw [List.mem_replicate] at this
   cases this.2
 generalize Kg f (f.types.length+1) (zo (List.replicate f.types.length false) (f.blocks.getD 0 default).params)=R at *
 have hblk : ∀ b∈f.blocks,rBlock f.blocks R b=R:=JK (block_inc f.blocks) hfix
 have hpart : ∀ b∈f.blocks,(∀ x∈b.code,rIns R x=R)/\rTerm R b.term=R /\ ∀ e∈b.term.to,rEdge f.blocks R e=R:=fun b hb=>by
  have e:=hblk b hb;unfold rBlock at e;have i1:=zG ins_inc b.code R;have i2:=term_inc (b.code.foldl rIns R) b.term;have i3:=zG (jcP f.blocks) b.term.to (rTerm (b.code.foldl rIns R) b.term);rw [e] at i3;have e1:b.code.foldl rIns R=R:=(i2.trans i3).anti i1;rw [e1] at e i2 i3;have e2:rTerm R b.term=R:=i3.anti i2;rw [e2] at e;exact ⟨JK ins_inc e1,e2,JK (jcP f.blocks) e⟩
 have hlt : ∀ v,InR f.types.length v->v.toNat<R.length:=fun v hv=>by have:=hv.1; have:=hv.2; omega
 have hmm : ∀ {l m:List Int},zo (zo R l) m=R->zo R l=R/\zo R m=R:=fun {l m} e=>by
  have i1:=qC R l;have i2:=qC (zo R l) m;rw [e] at i2;have e1:=i2.anti i1;exact ⟨e1,by rw [e1] at e; exact e⟩
 refine ⟨by rw [hlen,List.length_replicate],fun i hi => ?_,fun v hv => ?_,fun i hi => .inr fun u hu => ?_,fun P _ h1 h2=>hleast P h1 h2⟩
 ·have:=aA hi;rw [List.mem_replicate] at this
  cases this.2
 ·have hvr:=hlt v (roots_in h v hv);rcases aG.1 hv with hv | hv
  ·refine qX.2 (hinc.2 _ ?_);have hfx:zo (zo (List.replicate f.types.length false) (f.blocks.getD 0 default).params) (f.blocks.getD 0 default).params=zo (List.replicate f.types.length false) (f.blocks.getD 0 default).params:=by
    refine Inc.anti ⟨(qC _ _).1.symm,fun i hi => ?_⟩ (qC _ _);refine JJ (P:=fun i=>(zo (List.replicate f.types.length false) (f.blocks.getD 0 default).params)[i]? = some true) (fun i hi=>hi) (fun u hu => ?_) i hi;have hur:u.toNat<f.types.length:=by obtain ⟨a1,a2⟩:=h.pars _ (head_mem h) u hu; omega
    have key : ∀ (l:List Int) (o:List Bool),u∈l->u.toNat<o.length->(zo o l)[u.toNat]? = some true:=by
     intro l
     induction l with
     | nil=>intro o hu; simp at hu
     | cons a l ih =>
      intro o hu ho;rcases aL.1 hu with rfl | hu
      ·exact (qC (o.set u.toNat true) l).2 _ (aZ ho)
      ·exact ih _ hu (by rw [List.length_set]; exact ho)
    exact key _ _ hu (by rw [List.length_replicate]; exact hur)
   exact qX.1 (KO hfx hv (by rw [<-(qC _ _).1,List.length_replicate]; omega))
  ·obtain ⟨b,hb,hv⟩:=bj.1 hv;obtain ⟨p1,p2,_⟩:=hpart b hb;rcases aG.1 hv with hv | hv
   ·obtain ⟨x,hx,hv⟩:=bj.1 hv;have e:=p1 x hx;unfold rIns at e;split at hv
    ·simp at hv
    ·rename_i hp;rw [if_neg hp] at e;obtain ⟨e1,e2⟩:=hmm e;rcases aG.1 hv with hv | hv
     ·exact KO e2 hv hvr
     ·exact KO e1 hv hvr
   ·unfold rTerm at p2;split at p2
    ·rename_i hk;have i1:=qC R b.term.args;have i2:=jaF (zo R b.term.args) b.term.arg.toNat;rw [p2] at i2;have e1:=i2.anti i1;rcases aG.1 hv with hv | hv
     ·exact KO e1 hv hvr
     ·rw [if_pos hk,aW] at hv;subst hv;rw [e1] at p2;rw [qX, <-p2,aZ hvr]
    ·rename_i hk;rcases aG.1 hv with hv | hv
     ·exact KO p2 hv hvr
     ·rw [if_neg hk] at hv; simp at hv
 ·have ha:=ZX h (i:Int) u (by omega) (by simpa using hu);rcases ha with ⟨b,hb,x,hx,hp,ho,hxu⟩ | ⟨b,hb,e,he,hq⟩
  ·have e:=(hpart b hb).1 x hx;unfold rIns at e;rw [if_pos hp,ho,if_pos (by rw [qX]; simpa using hi)] at e;exact KO e hxu (hlt u (h.args b hb x hx u hxu))
  ·have e:=JK par_inc ((hpart b hb).2.2 e he) _ hq;unfold rPar at e;rw [if_pos (by rw [qX]; simpa using hi)] at e;have hur:=hlt u (h.eargs b hb _ he u (List.of_mem_zip hq).2);rw [qX, <-e];exact aZ hur
theorem need_same {f:Fn} (h:DOk f) {m:List Int} (hm : ∀ v,v∈m↔v∈roots f):Kg f (f.types.length+1) (zo (List.replicate f.types.length false) (f.blocks.getD 0 default).params)=dfs (askTab f) (f.types.length+1) (List.replicate f.types.length false) m:=by
 refine marks_eq (jae h) (dfs_marks (N:=f.types.length) (fun l hl u hu => ?_) _ _ _ (by simp) (fun v hv => ?_) ?_) fun v=>(hm v).symm
 ·obtain ⟨i,hi⟩:=aB.1 hl;have hu':u∈(askTab f).getD ((i:Int)).toNat []:=by
   rw [ag,Int.toNat_natCast,hi]; exact hu
  have hr:InR f.types.length u:=by
   rcases ZX h (i:Int) u (by omega) hu' with ⟨b,hb,x,hx,_,_,hxu⟩ | ⟨b,hb,e,he,hq⟩
   ·exact h.args b hb x hx u hxu
   ·exact h.eargs b hb e he u (List.of_mem_zip hq).2
  have:=hr.1; have:=hr.2; omega
 ·have hr:=roots_in h v ((hm v).1 hv);have:=hr.1; have:=hr.2; omega
 ·have h1:off (List.replicate f.types.length false)<=(List.replicate f.types.length false).length:=List.countP_le_length;rw [List.length_replicate] at h1;omega
/-! ### An instruction more -/
def moreX (ts:List Int) (b:Block):Ins:=b.params.foldl (fun (x:Ins) (p:Int)=>if 0<=p/\p<(ts.length:Int)/\ts.getD p.toNat 0=126 then ⟨124,0,[p,p],[(ts.length:Int)]⟩ else x) ⟨256,9,[],[(ts.length:Int)]⟩
def addB (b:Block) (x:Ins):Block:=⟨b.params,b.code++[x],b.term⟩
def more (f:Fn) (j:Nat):Fn:=⟨f.sig,f.types++[126],f.blocks.set j (addB (f.blocks.getD j default) (moreX f.types (f.blocks.getD j default)))⟩
theorem putCode_len' {i:Int} : ∀ {l:List Ins} {k:Nat} {ds d:List Def},putCode i k ds l=some d->d.length=ds.length:=fun h=>(Yt h).1
theorem qP : ∀ {l:List Block} {i:Nat} {ds d:List Def},putBlocks i ds l=some d -> ∀ (j:Nat) (b:Block),l[j]? = some b -> ∀ v∈b.params,dAt d v=⟨true,((i+j:Nat):Int), -1⟩
 | [],i,ds,d,h=>by simp
 | b::l,i,ds,d,h=>by
  simp only [putBlocks] at h;obtain ⟨d2,h1,h2⟩:=aN.1 h;obtain ⟨d1,h3,h4⟩:=aN.1 h1;obtain ⟨p1,q1⟩:=KM h3;obtain ⟨p2,_⟩:=Jt h4;obtain ⟨p3,_⟩:=Jy h2;intro j y hj v hv
  cases j with
  | zero =>
   simp only [aK,ay] at hj;subst hj;have n2:v∉zC b.code:=fun hm=>by
    have:=p2.new v hm;rw [p1.made v hv] at this; cases this
   have e2:dAt d2 v=dAt d1 v:=p2.keep v (p1.pos v hv) n2;have n3:v∉allL l:=fun hm=>by
    have:=p3.new v hm;rw [e2,p1.made v hv] at this; cases this
   rw [p3.keep v (p1.pos v hv) n3,e2,q1 v hv]; simp
  | succ j =>
   have:=qP h2 j y (by simpa using hj) v hv;rw [this]; congr 2; omega
theorem eqF_mono {α:Type} {p q:α->α->Bool} : ∀ {l m:List α},(∀ x∈l, ∀ y,p x y=true->q x y=true)->Go.Vw.eqF p l m=true->Go.Vw.eqF q l m=true
 | [],[],_,_=>rfl
 | [],_::_,_,h=>by simp [Go.Vw.eqF] at h
 | _::_,[],_,h=>by simp [Go.Vw.eqF] at h
 | a::l,b::m,hp,h=>by
  simp only [Go.Vw.eqF,af] at h ⊢;exact ⟨hp a (by simp) b h.1,eqF_mono (fun x hx=>hp x (by simp [hx])) h.2⟩
theorem total_one {e:Env} {op n out:Int} (h:total op=true) : ∃ t,(form e op n out).outs=[t]:=by
 have h1:op≠258:=fun e=>by subst e; revert h; decide
 have h2:op≠16:=fun e=>by subst e; revert h; decide
 have h3:op≠35:=fun e=>by subst e; revert h; decide
 have h4:op≠36:=fun e=>by subst e; revert h; decide
 have h5:op≠256:=fun e=>by subst e; revert h; decide
 have h6:op≠27:=fun e=>by subst e; revert h; decide
 have e0:form e op n out=formNum e op:=by simp [form,h1,h2,h3,h4,h5,h6]
 rw [e0];unfold total at h;unfold formNum numSig
 cases hf:find op with
 | none=>rw [hf] at h; simp at h
 | some g=>exact ⟨_,rfl⟩
theorem pure_one {e:Env} {op n out:Int} (h:pure op=true) : ∃ t,(form e op n out).outs=[t]:=by
 simp only [pure,bq,aj] at h;rcases h with (rfl | rfl) | h
 ·by_cases ho:out=127<;>simp [form,ho]
 ·simp [form]
 ·exact total_one h
theorem asks_in {ts:List Int} {ds:List Def} {near:List Int} {block pos:Int} {l types:List Int} (h:asks ts ds near block pos l types=true) {v:Int} (hv:v∈l):InR ds.length v:=by
 obtain ⟨t,ht⟩:=eqF_fst h v hv;simp only [askOk,af,aj] at ht;exact ⟨ht.1.1.1.1,ht.1.1.1.2⟩
theorem check_dok {e:Env} {f:Fn} (h:check e f=true):DOk f:=by
 obtain ⟨hh,ds,hds,hsh,hB⟩:=check_spec h;obtain ⟨hlen,hin⟩:=defs_in hds;obtain ⟨hnd,hmade,hat⟩:=WX hds;have hpar:=qP hds;have hr:Go.Vw.G.right (succs f.blocks)=true:=by
  simp only [shapeOk,af] at hsh;exact hsh.1.1.1.1
 have hto:=right_to hr;have hblk : ∀ b∈f.blocks, ∃ j:Nat,f.blocks[j]? = some b/\checkCode e f ds (Go.Vw.G.nearI (succs f.blocks)) (j:Int) 0 b.code=true/\termOk f ds (Go.Vw.G.nearI (succs f.blocks)) (j:Int) b=true:=fun b hb=>by
  obtain ⟨j,hj⟩:=aB.1 hb;have:=checkBlocks_at hB hj;rw [bd] at this;exact ⟨j,hj,this⟩
 have hins : ∀ b∈f.blocks, ∀ x∈b.code, ∃ j k:Nat,f.blocks[j]? = some b/\b.code[k]? = some x/\insOk e f ds (Go.Vw.G.nearI (succs f.blocks)) (j:Int) (k:Int) x=true:=fun b hb x hx=>by
  obtain ⟨j,hj,hc,_⟩:=hblk b hb;obtain ⟨k,hk⟩:=aB.1 hx;have:=checkCode_at hc hk;rw [bd] at this;exact ⟨j,k,hj,hk,this⟩
 have hterm : ∀ b∈f.blocks, ∃ (j:Int) (le mo:Nat) (rs:List Int),termTail f ds (Go.Vw.G.nearI (succs f.blocks)) j b.code.length b.term le mo rs=true:=fun b hb=>by
  obtain ⟨j,hj,_,ht⟩:=hblk b hb;unfold termOk at ht;split at ht
  ·exact ⟨_,_,_,_,ht⟩
  ·cases ht
 have hone : ∀ b∈f.blocks, ∀ x∈b.code,pure x.op=true -> ∃ o,x.outs=[o]:=fun b hb x hx hp=>by
  obtain ⟨j,k,_,_,hi⟩:=hins b hb x hx;simp only [insOk,af,aj] at hi;obtain ⟨t,ht⟩:=pure_one (e:=e) (n:=x.n) (out:=insOut f.types x) hp;have h1:=hi.1.2;rw [ht] at h1;have h2:=congrArg List.length h1;simp only [typesOf,aI,List.length_singleton] at h2;exact List.length_eq_one_iff.1 h2
 refine ⟨fun hb => ?_,fun b hb x hx v hv=>(hin b hb).2 x hx v hv,hone,fun b hb x hx v hv => ?_,fun b hb v hv=>(hin b hb).1 v hv,fun b hb v hv => ?_,fun b hb hk => ?_,fun b hb x hx v hv => ?_,fun b hb x hx => ?_,fun b hb c hc x hx y hy hp hq he => ?_,fun b hb c hc p hp y hy hm => ?_⟩
 ·simp only [shapeOk,af] at hsh;have:=hsh.2;rw [hb] at this
  cases this
 ·obtain ⟨j,k,_,_,hi⟩:=hins b hb x hx;have:=asks_in (insOk_asks hi) hv
  rwa [hlen] at this
 ·obtain ⟨j,le,mo,rs,ht⟩:=hterm b hb;simp only [termTail,af] at ht;have:=asks_in ht.1.2 hv
  rwa [hlen] at this
 ·obtain ⟨j,le,mo,rs,ht⟩:=hterm b hb;simp only [termTail,af] at ht;have h1:=ht.1.1.1.1;rw [if_pos hk] at h1;have:=asks_in h1 (v:=b.term.arg) (by simp)
  rwa [hlen] at this
 ·obtain ⟨j,le,mo,rs,ht⟩:=hterm b hb;simp only [termTail,af,aD] at ht;have h1:=ht.2 x hx;simp only [edgeOk,af] at h1;have:=asks_in h1.2 hv
  rwa [hlen] at this
 ·obtain ⟨j,le,mo,rs,ht⟩:=hterm b hb;simp only [termTail,af,aD] at ht;have h1:=ht.2 x hx;simp only [edgeOk,af] at h1;have h2:=eqF_len h1.2;simp only [typesOf,aI] at h2;exact ⟨(hto b hb x hx).1,(hto b hb x hx).2,h2⟩
 ·obtain ⟨o,ho⟩:=hone b hb x hx hp;obtain ⟨j,k,hj,hk,_⟩:=hins b hb x hx;obtain ⟨j',k',hj',hk',_⟩:=hins c hc y hy;have a1:=hat j b hj k x hk o (by simp [ho]);have a2:=hat j' c hj' k' y hk' o (by simp [<-he,ho]);rw [a1] at a2;simp only [Def.mk.injEq,true_and] at a2;have e1:j=j':=by omega
  have e2:k=k':=by omega
  subst e1;subst e2;rw [hj] at hj'
  cases hj'
  rw [hk] at hk'
  cases hk'
  rfl
 ·obtain ⟨j,hj⟩:=aB.1 hb;obtain ⟨j',k',hj',hk',_⟩:=hins c hc y hy;have a1:=hpar j b hj p hp;have a2:=hat j' c hj' k' y hk' p hm;rw [a1] at a2;simp only [Def.mk.injEq,true_and] at a2;omega
def dNeed (f:Fn):List Bool:=dfs (askTab f) (f.types.length+1) (List.replicate f.types.length false) (roots f)
def dKeep (need:List Bool) (x:Ins):Bool := !pure x.op||on need (x.outs.getD 0 0)
def dEdge (need:List Bool) (bs:List Block) (e:Edge):Edge:=⟨e.to,(((bs.getD e.to.toNat default).params.zip e.args).filter fun q=>on need q.1).map Prod.snd⟩
def dBlock (need:List Bool) (bs:List Block) (b:Block):Block:=⟨b.params.filter (on need),b.code.filter (dKeep need),⟨b.term.kind,b.term.arg,b.term.to.map (dEdge need bs),b.term.args⟩⟩
def dceF (f:Fn):Fn:=⟨f.sig,f.types,f.blocks.map (dBlock (dNeed f) f.blocks)⟩
def dceOut (e:Env) (f:Fn):Fn × Int:=if check e f then (dceF f,0) else (⟨⟨[],[]⟩,[],[]⟩,6)
theorem dNeed_marks {f:Fn} (h:DOk f):Marks (askTab f) (List.replicate f.types.length false) (roots f) (dNeed f):=by
 have:=need_same h (m:=roots f) fun v=>Iff.rfl
 unfold dNeed;rw [<-this];exact jae h
theorem dNeed_root {f:Fn} (h:DOk f) {v:Int} (hv:v∈roots f):on (dNeed f) v=true:=(dNeed_marks h).all v hv
theorem dNeed_asks {f:Fn} (h:DOk f) {v u:Int} (hv:on (dNeed f) v=true) (ha:Asks f v u):on (dNeed f) u=true:=by
 rcases (dNeed_marks h).shut v.toNat (qX.1 hv) with hn | hs
 ·have:=aA hn;rw [List.mem_replicate] at this
  cases this.2
 ·exact hs u (jcd h ha)
theorem JB {need:List Bool} {bs l:List Block} {n:Nat} (hn:n<l.length):(l.map (dBlock need bs)).getD n default=dBlock need bs (l.getD n default):=by
 simp [ag,a8,ac hn]
theorem keep_len (p:Int->Bool) : ∀ (l m:List Int),l.length=m.length->(((l.zip m).filter fun q=>p q.1).map Prod.snd).length=(l.filter p).length
 | [],_,_=>by simp
 | a::l,[],h=>by simp at h
 | a::l,b::m,h=>by
  have:=keep_len p l m (by simpa using h)
  by_cases hp:p a=true
  ·simp [hp] at this ⊢; exact this
  ·have hp':p a=false:=by simpa using hp
   simp [hp'] at this ⊢; exact this
theorem dce_head {f:Fn} (h:DOk f):((dceF f).blocks.getD 0 default).params=(f.blocks.getD 0 default).params:=by
 have hn:0<f.blocks.length:=List.length_pos_iff.2 h.ne;simp only [dceF];rw [JB hn];simp only [dBlock,List.filter_eq_self];exact fun v hv=>dNeed_root h (by simp only [roots,aG]; exact .inl hv)
end Ss
