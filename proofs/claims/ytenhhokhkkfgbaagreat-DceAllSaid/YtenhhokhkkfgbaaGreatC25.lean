import Derived.Test.YtenhhokhkkfgbaaGreatC12
import Derived.Test.YtenhhokhkkfgbaaGreatC24
import Derived.Test.YtenhhokhkkfgbaaGreatC20
import Derived.Test.YtenhhokhkkfgbaaGreatC23
/-
  Part of the proof (texts DTab, DRound, SRepl).
-/
set_option linter.unusedVariables false
set_option linter.unusedSimpArgs false
namespace Ss
def InR (n:Nat) (v:Int):Prop:=0≤v∧v<n
structure DOk (f:Fn):Prop where
 ne:f.blocks≠[]
 outs : ∀ b∈f.blocks, ∀ x∈b.code, ∀ v∈x.outs,InR f.types.length v
 one : ∀ b∈f.blocks, ∀ x∈b.code,pure x.op=true → ∃ o,x.outs=[o]
 args : ∀ b∈f.blocks, ∀ x∈b.code, ∀ v∈x.args,InR f.types.length v
 pars : ∀ b∈f.blocks, ∀ v∈b.params,InR f.types.length v
 targs : ∀ b∈f.blocks, ∀ v∈b.term.args,InR f.types.length v
 targ : ∀ b∈f.blocks,branches b.term=true→InR f.types.length b.term.arg
 eargs : ∀ b∈f.blocks, ∀ e∈b.term.to, ∀ v∈e.args,InR f.types.length v
 etos : ∀ b∈f.blocks, ∀ e∈b.term.to,0≤e.to∧e.to<f.blocks.length∧e.args.length=(f.blocks.getD e.to.toNat default).params.length
 u1 : ∀ b∈f.blocks, ∀ c∈f.blocks, ∀ x∈b.code, ∀ y∈c.code,pure x.op=true→pure y.op=true→x.outs=y.outs→x.args=y.args
 u2 : ∀ b∈f.blocks, ∀ c∈f.blocks, ∀ p∈b.params, ∀ y∈c.code,p∉y.outs
def askIns (t:List (List Int)) (x:Ins):List (List Int):=if pure x.op then t.set (x.outs.getD 0 0).toNat x.args else t
def askPar (t:List (List Int)) (q:Int × Int):List (List Int):=t.set q.1.toNat (t.getD q.1.toNat []++[q.2])
def askEdge (bs:List Block) (t:List (List Int)) (e:Edge):List (List Int):=((bs.getD e.to.toNat default).params.zip e.args).foldl askPar t
def askBlock (bs:List Block) (t:List (List Int)) (b:Block):List (List Int):=b.term.to.foldl (askEdge bs) (b.code.foldl askIns t)
def askTab (f:Fn):List (List Int):=f.blocks.foldl (askBlock f.blocks) (List.replicate f.types.length [])
def Asks (f:Fn) (v u:Int):Prop:=(∃ b∈f.blocks, ∃ x∈b.code,pure x.op=true∧x.outs=[v]∧u∈x.args) ∨ ∃ b∈f.blocks, ∃ e∈b.term.to,(v,u)∈(f.blocks.getD e.to.toNat default).params.zip e.args
theorem foldl_inv {α β:Type} {g:β→α→β} {P:β→Prop} : ∀ {l:List α} {t:β},P t→(∀ t, ∀ a∈l,P t→P (g t a))→P (l.foldl g t)
 | [],t,h,_=>h
 | a::l,t,h,hs=>by
  rw [List.foldl_cons]
  exact foldl_inv (hs t a (by simp) h) fun t b hb=>hs t b (by simp [hb])
theorem par_mem {f:Fn} {e:Edge} {q:Int × Int} (hq:q∈(f.blocks.getD e.to.toNat default).params.zip e.args) (hb : ∃ b∈f.blocks,e∈b.term.to) (h:DOk f) : ∃ b∈f.blocks,q.1∈b.params:=by
 obtain ⟨b,hbm,he⟩:=hb
 obtain ⟨h0,h1,_⟩:=h.etos b hbm e he
 have hlt:e.to.toNat<f.blocks.length:=by omega
 refine ⟨f.blocks.getD e.to.toNat default, ?_,(List.of_mem_zip hq).1⟩
 rw [List.getD_eq_getElem?_getD,List.getElem?_eq_getElem hlt]
 exact List.getElem_mem hlt
theorem getD_set (t:List (List Int)) (i j:Nat) (l:List Int):(t.set i l).getD j []=if i=j∧j<t.length then l else t.getD j []:=by
 simp only [List.getD_eq_getElem?_getD,List.getElem?_set]
 by_cases e:i=j
 ·subst e
  by_cases h:i<t.length
  ·simp [h]
  ·simp [h]
 ·simp [e]
theorem tab_sound {f:Fn} (h:DOk f) : ∀ v u:Int,0≤v→u∈(askTab f).getD v.toNat []→Asks f v u:=by
 let P:=fun t:List (List Int) => ∀ v u:Int,0≤v→u∈t.getD v.toNat []→Asks f v u
 show P (askTab f)
 unfold askTab
 refine foldl_inv (P:=P) (fun v u _ hu => ?_) fun t b hb ht => ?_
 ·rw [List.getD_eq_getElem?_getD,List.getElem?_replicate] at hu
  split at hu<;>simp at hu
 unfold askBlock
 refine foldl_inv (P:=P) (foldl_inv (P:=P) ht fun t x hx ht => ?_) fun t e he ht => ?_
 ·unfold askIns
  split
  ·rename_i hp
   intro v u hv hu
   rw [getD_set] at hu
   split at hu
   ·rename_i hc
    obtain ⟨o,ho⟩:=h.one b hb x hx hp
    have h0:=(h.outs b hb x hx o (by simp [ho])).1
    rw [ho] at hc
    have:o=v:=by have:=hc.1; simp only [List.getD_cons_zero] at this; omega
    subst this
    exact .inl ⟨b,hb,x,hx,hp,ho,hu⟩
   ·exact ht v u hv hu
  ·exact ht
 ·unfold askEdge
  refine foldl_inv (P:=P) ht fun t q hq ht => ?_
  intro v u hv hu
  rw [askPar,getD_set] at hu
  split at hu
  ·rename_i hc
   obtain ⟨c,hcm,hcp⟩:=par_mem hq ⟨b,hb,he⟩ h
   have h0:=(h.pars c hcm _ hcp).1
   have e1:q.1=v:=by have:=hc.1; omega
   rcases List.mem_append.1 hu with hu | hu
   ·rw [e1] at hu; exact ht v u hv hu
   ·simp only [List.mem_singleton] at hu
    subst hu
    subst e1
    exact .inr ⟨b,hb,e,he,hq⟩
  ·exact ht v u hv hu
theorem tab_full {f:Fn} (h:DOk f) {v u:Int} (hvu:Asks f v u):u∈(askTab f).getD v.toNat []:=by
 let P:=fun t:List (List Int)=>t.length=f.types.length∧u∈t.getD v.toNat []
 let L:=fun t:List (List Int)=>t.length=f.types.length
 have hv:InR f.types.length v:=by
  rcases hvu with ⟨b,hb,x,hx,_,ho,_⟩ | ⟨b,hb,e,he,hq⟩
  ·exact h.outs b hb x hx v (by simp [ho])
  ·obtain ⟨c,hc,hp⟩:=par_mem hq ⟨b,hb,he⟩ h
   exact h.pars c hc _ hp
 have hvt:v.toNat<f.types.length:=by have:=hv.1; have:=hv.2; omega
 have clash : ∀ b∈f.blocks, ∀ y∈b.code,pure y.op=true→(y.outs.getD 0 0).toNat=v.toNat→u∈y.args:=fun b hb y hy hp he=>by
  obtain ⟨o,ho⟩:=h.one b hb y hy hp
  have h0:=(h.outs b hb y hy o (by simp [ho])).1
  rw [ho] at he
  have e1:o=v:=by have:=hv.1; simp only [List.getD_cons_zero] at he; omega
  subst e1
  rcases hvu with ⟨c,hc,x,hx,hxp,hxo,hxu⟩ | ⟨c,hc,e,he',hq⟩
  ·rw [h.u1 b hb c hc y hy x hx hp hxp (by rw [ho,hxo])]; exact hxu
  ·obtain ⟨d,hd,hdp⟩:=par_mem hq ⟨c,hc,he'⟩ h
   exact absurd (by rw [ho]; simp) (h.u2 d hd b hb _ hdp y hy)
 have sIns : ∀ b∈f.blocks, ∀ t, ∀ y∈b.code,P t→P (askIns t y):=fun b hb t y hy ⟨hl,hu⟩=>by
  unfold askIns
  split
  ·rename_i hp
   refine ⟨by rw [List.length_set]; exact hl, ?_⟩
   rw [getD_set]
   split
   ·rename_i hc; exact clash b hb y hy hp hc.1
   ·exact hu
  ·exact ⟨hl,hu⟩
 have sPar : ∀ t (q:Int × Int),P t→P (askPar t q):=fun t q ⟨hl,hu⟩=>by
  refine ⟨by rw [askPar,List.length_set]; exact hl, ?_⟩
  rw [askPar,getD_set]
  split
  ·rename_i hc; rw [hc.1]; exact List.mem_append_left _ hu
  ·exact hu
 have sEdge : ∀ t e,P t→P (askEdge f.blocks t e):=fun t e ht=>foldl_inv (P:=P) ht fun t q _ ht=>sPar t q ht
 have sBlock : ∀ t, ∀ b∈f.blocks,P t→P (askBlock f.blocks t b):=fun t b hb ht=>foldl_inv (P:=P) (foldl_inv (P:=P) ht fun t x hx ht=>sIns b hb t x hx ht) fun t e _ ht=>sEdge t e ht
 have lIns : ∀ t y,L t→L (askIns t y):=fun t y ht=>by
  unfold askIns; split
  ·show List.length _=_; rw [List.length_set]; exact ht
  ·exact ht
 have lPar : ∀ t q,L t→L (askPar t q):=fun t q ht=>by show List.length _=_; rw [askPar,List.length_set]; exact ht
 have lEdge : ∀ t e,L t→L (askEdge f.blocks t e):=fun t e ht=>foldl_inv (P:=L) ht fun t q _ ht=>lPar t q ht
 have lBlock : ∀ t b,L t→L (askBlock f.blocks t b):=fun t b ht=>foldl_inv (P:=L) (foldl_inv (P:=L) ht fun t x _ ht=>lIns t x ht) fun t e _ ht=>lEdge t e ht
 have at2 : ∀ {α:Type} {g:List (List Int)→α→List (List Int)} {l:List α} {a:α} {t:List (List Int)},a∈l→L t→(∀ t b,L t→L (g t b))→(∀ t,L t→P (g t a))→(∀ t, ∀ b∈l,P t→P (g t b))→P (l.foldl g t):=fun {α g l a t} ha hl h1 h2 h3=>by
  induction l generalizing t with
  | nil=>simp at ha
  | cons c l ih =>
   rw [List.foldl_cons]
   rcases List.mem_cons.1 ha with rfl | ha
   ·exact foldl_inv (P:=P) (h2 t hl) fun t d hd=>h3 t d (by simp [hd])
   ·exact ih ha (h1 t c hl) fun t b hb=>h3 t b (by simp [hb])
 have hfin:P (askTab f):=by
  unfold askTab
  rcases hvu with ⟨b,hb,x,hx,hp,ho,hxu⟩ | ⟨b,hb,e,he,hq⟩
  ·refine at2 hb (by show List.length _=_; simp) lBlock (fun t ht => ?_) sBlock
   refine foldl_inv (P:=P) ?_ fun t e _ ht=>sEdge t e ht
   refine at2 hx ht lIns (fun t ht => ?_) fun t y hy=>sIns b hb t y hy
   unfold askIns
   rw [if_pos hp]
   refine ⟨by rw [List.length_set]; exact ht, ?_⟩
   rw [getD_set,ho,if_pos ⟨rfl,by have:t.length=f.types.length:=ht; omega⟩]
   exact hxu
  ·refine at2 hb (by show List.length _=_; simp) lBlock (fun t ht => ?_) sBlock
   refine at2 he (foldl_inv (P:=L) ht fun t x _ ht=>lIns t x ht) lEdge (fun t ht => ?_) fun t e _ ht=>sEdge t e ht
   refine at2 hq ht lPar (fun t ht => ?_) fun t q _ ht=>sPar t q ht
   refine ⟨by rw [askPar,List.length_set]; exact ht, ?_⟩
   rw [askPar,getD_set,if_pos ⟨rfl,by have:t.length=f.types.length:=ht; omega⟩]
   simp
 exact hfin.2
end Ss

namespace Ss
def marks (need:List Bool) (l:List Int):List Bool:=l.foldl (fun o v=>o.set v.toNat true) need
def rIns (o:List Bool) (x:Ins):List Bool:=if pure x.op then (if on o (x.outs.getD 0 0) then marks o x.args else o) else marks (marks o x.outs) x.args
def rPar (o:List Bool) (q:Int × Int):List Bool:=if on o q.1 then o.set q.2.toNat true else o
def rEdge (bs:List Block) (o:List Bool) (e:Edge):List Bool:=((bs.getD e.to.toNat default).params.zip e.args).foldl rPar o
def rTerm (o:List Bool) (t:Term):List Bool:=if branches t then (marks o t.args).set t.arg.toNat true else marks o t.args
def rBlock (bs:List Block) (o:List Bool) (b:Block):List Bool:=b.term.to.foldl (rEdge bs) (rTerm (b.code.foldl rIns o) b.term)
def rRound (f:Fn) (o:List Bool):List Bool:=f.blocks.foldl (rBlock f.blocks) o
def rTurns (f:Fn):Nat→List Bool→List Bool
 | 0,o=>o
 | k+1,o=>if rRound f o=o then o else rTurns f k (rRound f o)
def Inc (a b:List Bool):Prop:=a.length=b.length ∧ ∀ i:Nat,a[i]? = some true→b[i]? = some true
theorem Inc.refl (a:List Bool):Inc a a:=⟨rfl,fun _ h=>h⟩
theorem Inc.trans {a b c:List Bool} (h:Inc a b) (k:Inc b c):Inc a c:=⟨h.1.trans k.1,fun i hi=>k.2 i (h.2 i hi)⟩
theorem Inc.anti {a b:List Bool} (h:Inc a b) (k:Inc b a):a=b:=by
 refine List.ext_getElem h.1 fun i h1 h2 => ?_
 have a1:=h.2 i
 have b1:=k.2 i
 rw [List.getElem?_eq_getElem h1,List.getElem?_eq_getElem h2] at a1 b1
 simp only [Option.some.injEq] at a1 b1
 exact Bool.eq_iff_iff.2 ⟨a1,b1⟩
theorem inc_set (o:List Bool) (i:Nat):Inc o (o.set i true):=by
 refine ⟨by simp,fun j hj => ?_⟩
 rw [List.getElem?_set]
 split
 ·rename_i e
  subst e
  rw [if_pos (List.getElem?_eq_some_iff.1 hj).1]
 ·exact hj
theorem foldl_inc {α:Type} {g:List Bool→α→List Bool} (h : ∀ o a,Inc o (g o a)) : ∀ (l:List α) (o:List Bool),Inc o (l.foldl g o)
 | [],o => .refl o
 | a::l,o=>(h o a).trans (foldl_inc h l (g o a))
theorem foldl_fix {α:Type} {g:List Bool→α→List Bool} (h : ∀ o a,Inc o (g o a)) : ∀ {l:List α} {o:List Bool},l.foldl g o=o → ∀ a∈l,g o a=o
 | [],o,_,a,ha=>by simp at ha
 | b::l,o,hf,a,ha=>by
  rw [List.foldl_cons] at hf
  have h1:=foldl_inc h l (g o b)
  rw [hf] at h1
  have hb:g o b=o:=h1.anti (h o b)
  rcases List.mem_cons.1 ha with rfl | ha
  ·exact hb
  ·rw [hb] at hf; exact foldl_fix h hf a ha
theorem marks_inc (o:List Bool) (l:List Int):Inc o (marks o l):=foldl_inc (fun o v=>inc_set o _) l o
theorem ins_inc (o:List Bool) (x:Ins):Inc o (rIns o x):=by
 unfold rIns
 split
 ·split
  ·exact marks_inc _ _
  ·exact .refl _
 ·exact (marks_inc _ _).trans (marks_inc _ _)
theorem par_inc (o:List Bool) (q:Int × Int):Inc o (rPar o q):=by
 unfold rPar
 split
 ·exact inc_set _ _
 ·exact .refl _
theorem edge_inc (bs:List Block) (o:List Bool) (e:Edge):Inc o (rEdge bs o e):=foldl_inc par_inc _ _
theorem term_inc (o:List Bool) (t:Term):Inc o (rTerm o t):=by
 unfold rTerm
 split
 ·exact (marks_inc _ _).trans (inc_set _ _)
 ·exact marks_inc _ _
theorem block_inc (bs:List Block) (o:List Bool) (b:Block):Inc o (rBlock bs o b):=(foldl_inc ins_inc _ _).trans ((term_inc _ _).trans (foldl_inc (edge_inc bs) _ _))
theorem round_inc (f:Fn) (o:List Bool):Inc o (rRound f o):=foldl_inc (block_inc f.blocks) _ _
theorem inc_off {a b:List Bool} (h:Inc a b) (hn:b≠a):off b<off a:=by
 have h1:=off_le h.1 h.2
 rcases Nat.lt_or_ge (off b) (off a) with h2 | h2
 ·exact h2
 ·exfalso
  refine hn (h.anti ⟨h.1.symm,fun i hi => ?_⟩).symm
  have hlt:=(List.getElem?_eq_some_iff.1 hi).1
  cases ha:a[i]? with
  | none=>rw [List.getElem?_eq_none_iff] at ha; have:=h.1; omega
  | some x =>
   cases x with
   | true=>rfl
   | false =>
    have h3:=off_set ha
    have h4:off b≤off (a.set i true):=off_le (by rw [List.length_set]; exact h.1) fun j hj=>by
     rw [List.getElem?_set] at hj
     split at hj
     ·rename_i e; subst e; exact hi
     ·exact h.2 j hj
    omega
theorem turns_fix {f:Fn} : ∀ {k:Nat} {o:List Bool},off o<k→rRound f (rTurns f k o)=rTurns f k o
 | 0,o,h=>by omega
 | k+1,o,h=>by
  rw [rTurns]
  split
  ·rename_i e; exact e
  ·rename_i e
   have:=inc_off (round_inc f o) e
   exact turns_fix (by omega)
theorem turns_inv {f:Fn} {P:List Bool→Prop} (hs : ∀ o,P o→P (rRound f o)) : ∀ {k:Nat} {o:List Bool},P o→P (rTurns f k o)
 | 0,o,h=>h
 | k+1,o,h=>by
  rw [rTurns]
  split
  ·exact h
  ·exact turns_inv hs (hs o h)
theorem marks_on {o:List Bool} {l:List Int} (h:marks o l=o) {v:Int} (hv:v∈l) (hr:v.toNat<o.length):on o v=true:=by
 have:=foldl_fix (fun o v=>inc_set o _) h v hv
 rw [on_iff, ←this,List.getElem?_set_self hr]
def rootsB (b:Block):List Int:=(b.code.flatMap fun x=>if pure x.op then [] else x.args++x.outs)++(b.term.args++if branches b.term then [b.term.arg] else [])
def roots (f:Fn):List Int:=(f.blocks.getD 0 default).params++f.blocks.flatMap rootsB
theorem head_mem {f:Fn} (h:DOk f):f.blocks.getD 0 default∈f.blocks:=by
 cases hb:f.blocks with
 | nil=>exact absurd hb h.ne
 | cons b bs=>simp
theorem roots_in {f:Fn} (h:DOk f) : ∀ v∈roots f,InR f.types.length v:=fun v hv=>by
 rcases List.mem_append.1 hv with hv | hv
 ·exact h.pars _ (head_mem h) v hv
 ·obtain ⟨b,hb,hv⟩:=List.mem_flatMap.1 hv
  rcases List.mem_append.1 hv with hv | hv
  ·obtain ⟨x,hx,hv⟩:=List.mem_flatMap.1 hv
   split at hv
   ·simp at hv
   ·rcases List.mem_append.1 hv with hv | hv
    ·exact h.args b hb x hx v hv
    ·exact h.outs b hb x hx v hv
  ·rcases List.mem_append.1 hv with hv | hv
   ·exact h.targs b hb v hv
   ·split at hv
    ·rename_i hk
     simp only [List.mem_singleton] at hv
     subst hv
     exact h.targ b hb hk
    ·simp at hv
theorem marks_sub {P:Nat→Prop} {o:List Bool} {l:List Int} (ho : ∀ i:Nat,o[i]? = some true→P i) (hl : ∀ v∈l,P v.toNat) : ∀ i:Nat,(marks o l)[i]? = some true→P i:=by
 unfold marks
 refine foldl_inv (P:=fun o:List Bool => ∀ i:Nat,o[i]? = some true→P i) ho fun t v hv ht i hi => ?_
 rw [List.getElem?_set] at hi
 split at hi
 ·rename_i e; subst e; exact hl v hv
 ·exact ht i hi
theorem rneed_marks {f:Fn} (h:DOk f):Marks (askTab f) (List.replicate f.types.length false) (roots f) (rTurns f (f.types.length+1) (marks (List.replicate f.types.length false) (f.blocks.getD 0 default).params)):=by
 have hoff:off (marks (List.replicate f.types.length false) (f.blocks.getD 0 default).params)<f.types.length+1:=by
  have h1:off (marks (List.replicate f.types.length false) (f.blocks.getD 0 default).params)≤(marks (List.replicate f.types.length false) (f.blocks.getD 0 default).params).length:=List.countP_le_length
  have h2:=(marks_inc (List.replicate f.types.length false) (f.blocks.getD 0 default).params).1
  rw [List.length_replicate] at h2
  omega
 have hfix:=turns_fix (f:=f) hoff
 have hinc:Inc (marks (List.replicate f.types.length false) (f.blocks.getD 0 default).params) (rTurns f (f.types.length+1) (marks (List.replicate f.types.length false) (f.blocks.getD 0 default).params)) :=
  turns_inv (P:=fun o=>Inc (marks (List.replicate f.types.length false) (f.blocks.getD 0 default).params) o) (fun o ho=>ho.trans (round_inc f o)) (.refl _)
 have hlen:(rTurns f (f.types.length+1) (marks (List.replicate f.types.length false) (f.blocks.getD 0 default).params)).length=f.types.length:=by
  rw [←hinc.1, ←(marks_inc _ _).1,List.length_replicate]
 have hleast : ∀ P:Nat→Prop,(∀ v∈roots f,P v.toNat)→(∀ i:Nat,P i → ∀ u∈(askTab f).getD i [],P u.toNat) → ∀ i:Nat,(rTurns f (f.types.length+1) (marks (List.replicate f.types.length false) (f.blocks.getD 0 default).params))[i]? = some true→P i:=by
  intro P hr hc
  let Q:=fun o:List Bool => ∀ i:Nat,o[i]? = some true→P i
  have hrB : ∀ b∈f.blocks, ∀ v∈rootsB b,P v.toNat:=fun b hb v hv=>hr v (by
   simp only [roots,List.mem_append,List.mem_flatMap]; exact .inr ⟨b,hb,hv⟩)
  refine turns_inv (P:=Q) (fun o ho => ?_) (marks_sub (P:=P) (fun i hi => ?_) fun v hv=>hr v (by simp only [roots,List.mem_append]; exact .inl hv))
  ·unfold rRound
   refine foldl_inv (P:=Q) ho fun o b hb ho => ?_
   unfold rBlock
   refine foldl_inv (P:=Q) ?_ fun o e he ho => ?_
   ·have hcode:Q (b.code.foldl rIns o):=foldl_inv (P:=Q) ho fun o x hx ho=>by
     unfold rIns
     split
     ·rename_i hp
      split
      ·rename_i hon
       obtain ⟨v,hv⟩:=h.one b hb x hx hp
       rw [hv] at hon
       have hPv:=ho _ (on_iff.1 hon)
       exact marks_sub ho fun u hu=>hc _ hPv u (by
        have:=tab_full h (v:=v) (u:=u) (.inl ⟨b,hb,x,hx,hp,hv,hu⟩)
        simpa using this)
      ·exact ho
     ·rename_i hp
      have hin : ∀ v∈x.args++x.outs,P v.toNat:=fun v hv=>hrB b hb v (by
       simp only [rootsB,List.mem_append,List.mem_flatMap]
       exact .inl ⟨x,hx,by rw [if_neg hp]; exact hv⟩)
      exact marks_sub (marks_sub ho fun v hv=>hin v (by simp [hv])) fun v hv=>hin v (by simp [hv])
    have hargs:=marks_sub (l:=b.term.args) hcode fun v hv=>hrB b hb v (by simp only [rootsB,List.mem_append]; exact .inr (.inl hv))
    unfold rTerm
    split
    ·rename_i hk
     intro i hi
     rw [List.getElem?_set] at hi
     split at hi
     ·rename_i e
      subst e
      exact hrB b hb _ (by simp only [rootsB,List.mem_append]; exact .inr (.inr (by rw [if_pos hk]; simp)))
     ·exact hargs i hi
    ·exact hargs
   ·unfold rEdge
    refine foldl_inv (P:=Q) ho fun o q hq ho => ?_
    unfold rPar
    split
    ·rename_i hon
     intro i hi
     rw [List.getElem?_set] at hi
     split at hi
     ·rename_i e2
      subst e2
      exact hc _ (ho _ (on_iff.1 hon)) _ (tab_full h (.inr ⟨b,hb,e,he,hq⟩))
     ·exact ho i hi
    ·exact ho
  ·have:=List.mem_of_getElem? hi
   rw [List.mem_replicate] at this
   cases this.2
 generalize rTurns f (f.types.length+1) (marks (List.replicate f.types.length false) (f.blocks.getD 0 default).params)=R at *
 have hblk : ∀ b∈f.blocks,rBlock f.blocks R b=R:=foldl_fix (block_inc f.blocks) hfix
 have hpart : ∀ b∈f.blocks,(∀ x∈b.code,rIns R x=R)∧rTerm R b.term=R ∧ ∀ e∈b.term.to,rEdge f.blocks R e=R:=fun b hb=>by
  have e:=hblk b hb
  unfold rBlock at e
  have i1:=foldl_inc ins_inc b.code R
  have i2:=term_inc (b.code.foldl rIns R) b.term
  have i3:=foldl_inc (edge_inc f.blocks) b.term.to (rTerm (b.code.foldl rIns R) b.term)
  rw [e] at i3
  have e1:b.code.foldl rIns R=R:=(i2.trans i3).anti i1
  rw [e1] at e i2 i3
  have e2:rTerm R b.term=R:=i3.anti i2
  rw [e2] at e
  exact ⟨foldl_fix ins_inc e1,e2,foldl_fix (edge_inc f.blocks) e⟩
 have hlt : ∀ v,InR f.types.length v→v.toNat<R.length:=fun v hv=>by have:=hv.1; have:=hv.2; omega
 have hmm : ∀ {l m:List Int},marks (marks R l) m=R→marks R l=R∧marks R m=R:=fun {l m} e=>by
  have i1:=marks_inc R l
  have i2:=marks_inc (marks R l) m
  rw [e] at i2
  have e1:=i2.anti i1
  exact ⟨e1,by rw [e1] at e; exact e⟩
 refine ⟨by rw [hlen,List.length_replicate],fun i hi => ?_,fun v hv => ?_,fun i hi => .inr fun u hu => ?_,fun P _ h1 h2=>hleast P h1 h2⟩
 ·have:=List.mem_of_getElem? hi
  rw [List.mem_replicate] at this
  cases this.2
 ·have hvr:=hlt v (roots_in h v hv)
  rcases List.mem_append.1 hv with hv | hv
  ·refine on_iff.2 (hinc.2 _ ?_)
   have hfx:marks (marks (List.replicate f.types.length false) (f.blocks.getD 0 default).params) (f.blocks.getD 0 default).params=marks (List.replicate f.types.length false) (f.blocks.getD 0 default).params:=by
    refine Inc.anti ⟨(marks_inc _ _).1.symm,fun i hi => ?_⟩ (marks_inc _ _)
    refine marks_sub (P:=fun i=>(marks (List.replicate f.types.length false) (f.blocks.getD 0 default).params)[i]? = some true) (fun i hi=>hi) (fun u hu => ?_) i hi
    have hur:u.toNat<f.types.length:=by obtain ⟨a1,a2⟩:=h.pars _ (head_mem h) u hu; omega
    have key : ∀ (l:List Int) (o:List Bool),u∈l→u.toNat<o.length→(marks o l)[u.toNat]? = some true:=by
     intro l
     induction l with
     | nil=>intro o hu; simp at hu
     | cons a l ih =>
      intro o hu ho
      rcases List.mem_cons.1 hu with rfl | hu
      ·exact (marks_inc (o.set u.toNat true) l).2 _ (List.getElem?_set_self ho)
      ·exact ih _ hu (by rw [List.length_set]; exact ho)
    exact key _ _ hu (by rw [List.length_replicate]; exact hur)
   exact on_iff.1 (marks_on hfx hv (by rw [←(marks_inc _ _).1,List.length_replicate]; omega))
  ·obtain ⟨b,hb,hv⟩:=List.mem_flatMap.1 hv
   obtain ⟨p1,p2,_⟩:=hpart b hb
   rcases List.mem_append.1 hv with hv | hv
   ·obtain ⟨x,hx,hv⟩:=List.mem_flatMap.1 hv
    have e:=p1 x hx
    unfold rIns at e
    split at hv
    ·simp at hv
    ·rename_i hp
     rw [if_neg hp] at e
     obtain ⟨e1,e2⟩:=hmm e
     rcases List.mem_append.1 hv with hv | hv
     ·exact marks_on e2 hv hvr
     ·exact marks_on e1 hv hvr
   ·unfold rTerm at p2
    split at p2
    ·rename_i hk
     have i1:=marks_inc R b.term.args
     have i2:=inc_set (marks R b.term.args) b.term.arg.toNat
     rw [p2] at i2
     have e1:=i2.anti i1
     rcases List.mem_append.1 hv with hv | hv
     ·exact marks_on e1 hv hvr
     ·rw [if_pos hk,List.mem_singleton] at hv
      subst hv
      rw [e1] at p2
      rw [on_iff, ←p2,List.getElem?_set_self hvr]
    ·rename_i hk
     rcases List.mem_append.1 hv with hv | hv
     ·exact marks_on p2 hv hvr
     ·rw [if_neg hk] at hv; simp at hv
 ·have ha:=tab_sound h (i:Int) u (by omega) (by simpa using hu)
  rcases ha with ⟨b,hb,x,hx,hp,ho,hxu⟩ | ⟨b,hb,e,he,hq⟩
  ·have e:=(hpart b hb).1 x hx
   unfold rIns at e
   rw [if_pos hp,ho,if_pos (by rw [on_iff]; simpa using hi)] at e
   exact marks_on e hxu (hlt u (h.args b hb x hx u hxu))
  ·have e:=foldl_fix par_inc ((hpart b hb).2.2 e he) _ hq
   unfold rPar at e
   rw [if_pos (by rw [on_iff]; simpa using hi)] at e
   have hur:=hlt u (h.eargs b hb _ he u (List.of_mem_zip hq).2)
   rw [on_iff, ←e]
   exact List.getElem?_set_self hur
theorem need_same {f:Fn} (h:DOk f) {m:List Int} (hm : ∀ v,v∈m↔v∈roots f):rTurns f (f.types.length+1) (marks (List.replicate f.types.length false) (f.blocks.getD 0 default).params)=dfs (askTab f) (f.types.length+1) (List.replicate f.types.length false) m:=by
 refine marks_eq (rneed_marks h) (dfs_marks (N:=f.types.length) (fun l hl u hu => ?_) _ _ _ (by simp) (fun v hv => ?_) ?_) fun v=>(hm v).symm
 ·obtain ⟨i,hi⟩:=List.mem_iff_getElem?.1 hl
  have hu':u∈(askTab f).getD ((i:Int)).toNat []:=by
   rw [List.getD_eq_getElem?_getD,Int.toNat_natCast,hi]; exact hu
  have hr:InR f.types.length u:=by
   rcases tab_sound h (i:Int) u (by omega) hu' with ⟨b,hb,x,hx,_,_,hxu⟩ | ⟨b,hb,e,he,hq⟩
   ·exact h.args b hb x hx u hxu
   ·exact h.eargs b hb e he u (List.of_mem_zip hq).2
  have:=hr.1; have:=hr.2; omega
 ·have hr:=roots_in h v ((hm v).1 hv)
  have:=hr.1; have:=hr.2; omega
 ·have h1:off (List.replicate f.types.length false)≤(List.replicate f.types.length false).length:=List.countP_le_length
  rw [List.length_replicate] at h1
  omega
end Ss

namespace Go.Vw
open Go.Proofs Go.RowKit
set_option maxRecDepth 10000
set_option maxHeartbeats 2000000
theorem CloneO_v (S:Store) (l:List Int) (hl:l.length≤1048576):VCalls Tryz.prog 67 [vl vint l] S (fun r T=>r = .slice (lid S.nx 0) 0 l.length∧T=St S [] [some (1,l.map vint)]):=by
 refine vcalls_start (c:=bodyOf Tryz.f67) Tryz.func67 rfl rfl (by simp [Tryz.ntmps67]) ?_
 rw [Tryz.ntmps67]
 intro hwf
 repeat refine QS ?_
 refine QR (r:=by conv=>lhs;simp[-List.map_set,QV]) (k:=?_)
 refine QN ?_
 repeat refine QS ?_
 refine vw_isnil (l:=l.map vint) rfl rfl (by rfl) rfl rfl rfl rfl (by rfl) rfl rfl Tryz.underlying23 rfl ?_
 intro b hb
 simp only [Fr.set]
 by_cases h:b=true
 ·have hl0:l=[]:=by simpa using hb h
  subst hl0
  subst h
  repeat (first|refine QG ?_|refine QX (r:=by conv=>lhs;simp[-List.map_set,QV]) (k:=?_))
  exact ⟨_,_,(Ghost.nils (St S [] []) 1).toB _,by rw [St_nx]; rfl,by rw [St_add]; rfl⟩
 ·have h':b=false:=by simpa using h
  subst h'
  have hb1:l.length*8≤140737488355328:=by omega
  have hb2:l.length≤140737488355328:=by omega
  repeat (first|refine QG ?_|refine QX (r:=by conv=>lhs;simp[-List.map_set,QV,hb1,hb2,opAppend_vl,nc_vint,flatC_vint,rep0]) (k:=?_))
  exact done_gc [1] hwf (by decide) (by simp) (by simp; rfl) (by simp; rfl) ⟨by simp,by simp⟩
theorem Clone_v (l:List Int) (hl:l.length≤1048576):VPure Tryz.prog 67 [vl vint l] (vl vint l):=by
 intro S
 refine vcalls_wf fun hwf=>vcalls_postB ((CloneO_v S l hl).mono ?_)
 rintro r T ⟨rfl,rfl⟩
 exact done_via hwf ((frz1 (k:=0) (by simp) (by rfl) (all_closed1 vint (fun _=>rfl) _) (by simp)).toB _) rfl
theorem one_v (v:Int) (to:List Int) (ht:to.length<2^63):VPure Tryz.prog 69 ([vint v]++[.ref (vl vint to)]) (vint (Ss.putv to v)):=by
 intro S
 refine vcalls_start (c:=bodyOf Tryz.f69) Tryz.func69 rfl rfl (by simp [Tryz.ntmps69]) ?_
 rw [Tryz.ntmps69]
 intro hwf
 by_cases h1:0≤v
 ·obtain ⟨n,rfl⟩ : ∃ n:Nat,v=n:=⟨v.toNat,by omega⟩
  by_cases h2:n<to.length
  ·repeat (first|refine QG ?_|refine QX (r:=by conv=>lhs;simp[-List.map_set,QV,h2]) (k:=?_))
   exact done_pure hwf (by simp [Ss.putv,h2]) rfl
  ·repeat (first|refine QG ?_|refine QX (r:=by conv=>lhs;simp[-List.map_set,QV,h2]) (k:=?_))
   exact done_pure hwf (by simp [Ss.putv,h2]) rfl
 ·repeat (first|refine QG ?_|refine QX (r:=by conv=>lhs;simp[-List.map_set,QV,h1]) (k:=?_))
  exact done_pure hwf (by simp [Ss.putv,h1]) rfl
theorem allO_v (S:Store) (l to:List Int) (ps:Nat) (hps:S.get ps=some (1,[.func 69 [.ref (vl vint to)]])) (hl:l.length≤1048576) (ht:to.length<2^63):VCalls Tryz.prog 70 ([vl vint l]++[.ptr ps 0]) S (fun r T=>r = .slice (lid S.nx 0) 0 l.length∧T=St S [] [some (1,(l.map (Ss.putv to)).map vint)]):=by
 have cp:=fun v=>one_v v to ht
 generalize Ss.putv to=g at *
 refine vcalls_start (c:=bodyOf Tryz.f70) Tryz.func70 rfl rfl (by simp [Tryz.ntmps70]) ?_
 rw [Tryz.ntmps70]
 intro hwf
 have hpn:=old_lt hwf hps
 have p1:=fun u l => @St_old S u l _ hpn
 have pP:=fun ks=>gcP_old (n:=S.nx) ks hpn
 have pT:=fun ks=>gcTo_old (n:=S.nx) ks hpn
 repeat refine QS ?_
 refine QR (r:=by conv=>lhs;simp[-List.map_set,QV]) (k:=?_)
 refine QN ?_
 repeat refine QS ?_
 refine QR (r:=by conv=>lhs;simp[-List.map_set,QV]) (k:=?_)
 refine QN ?_
 refine vw_void 4 1 rfl (by conv=>lhs; simp [Fr.set]) ?_
 repeat (first|refine QG ?_|refine QX (r:=by conv=>lhs;simp[-List.map_set,QV]) (k:=?_))
 repeat refine QS ?_
 refine vw_loopAt [1,4,7,8,9] rfl (fun c σ S' => ∃ (k:Nat) (out:List Int),k≤l.length∧c=l.length-k∧out=(l.take k).map g∧out.length=k∧σ=[(1, .ptr ps 0),(4, .slice (lid S.nx 0) 0 k),(7,vl vint l),(8,vnat l.length),(9,vnat k)]∧S'=St S [] [some (1,out.map vint)]) l.length ?_ ?_
 ·exact ⟨0,[],by omega,rfl,by simp,rfl,by simp [Fr.only],by simp⟩
 ·rintro c σ T ⟨k,out,hk,rfl,ho,hlen,rfl,rfl⟩
  by_cases hkt:k<l.length
  ·have hw:=wrapNat hkt (by omega)
   have cpk:=cp l[k]
   have htk:(l.take (k+1)).map g=(l.take k).map g++[g l[k]]:=by rw [List.take_add_one,List.getElem?_eq_getElem hkt,List.map_append]; rfl
   generalize g l[k]=gv at *
   have hb:(k+1)*8≤140737488355328:=by omega
   have hb':k+1≤140737488355328:=by omega
   repeat (first|refine QG ?_|refine QX (r:=by conv=>lhs;simp[-List.map_set,QV,hkt]) (k:=?_))
   repeat refine QS ?_
   refine QR (r:=by conv=>lhs;simp[-List.map_set,QV,hkt,p1,hps]) (k:=?_)
   refine vcallv_useH (cpk) (by rfl) (by rfl) (by rfl) ?_
   refine QM (by conv=>lhs;simp[-List.map_set,QV,hb,hb',hlen]) ?_
   refine QN ?_
   repeat (first|refine QG ?_|refine QX (r:=by conv=>lhs;simp[-List.map_set,QV,hb,hb',hlen,hw]) (k:=?_))
   refine again_gc [2] (by conv=>lhs; simp [Fr.only]) hwf (by decide) (by simp [-List.map_set,pP,pT]) (by conv=>lhs; simp [-List.map_set,pP,pT]) (by conv=>lhs; simp [-List.map_set,pP,pT]) (by conv=>lhs; simp [-List.map_set,pP,pT]) ⟨?_,k+1,out++[gv],hkt,rfl,by rw [htk,ho],by simp [hlen],by simp [hw],by simp⟩
   omega
  ·have hke:k=l.length:=by omega
   subst hke
   rw [List.take_length] at ho
   repeat (first|refine QG ?_|refine QX (r:=by conv=>lhs;simp[-List.map_set,QV,hkt]) (k:=?_))
   rw [←ho]
   exact done_as ⟨by simp,rfl⟩
end Go.Vw
