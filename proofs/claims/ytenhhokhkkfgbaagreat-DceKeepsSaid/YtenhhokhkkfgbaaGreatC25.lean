import Derived.Test.YtenhhokhkkfgbaaGreatC12
import Derived.Test.YtenhhokhkkfgbaaGreatC24
import Derived.Test.YtenhhokhkkfgbaaGreatC20
import Derived.Test.YtenhhokhkkfgbaaGreatC23
/-
  Part of the proof (texts DTab, SRepl).
-/
set_option linter.unusedVariables false
set_option linter.unusedSimpArgs false
namespace Ss
def InR (n:Nat) (v:Int):Prop:=0≤v∧v<n
structure DOk (f:Fn):Prop where
 ne:f.blocks≠[]
 outs : ∀ b∈f.blocks, ∀ x∈b.code, ∀ v∈x.outs,InR f.types.length v
 one : ∀ b∈f.blocks, ∀ x∈b.code,pure x.op=true → ∃ o,x.outs=[o]
 args : ∀ b∈f.blocks, ∀ x∈b.code, ∀ v∈x.args,InR f.types.length v
 pars : ∀ b∈f.blocks, ∀ v∈b.params,InR f.types.length v
 targs : ∀ b∈f.blocks, ∀ v∈b.term.args,InR f.types.length v
 targ : ∀ b∈f.blocks,branches b.term=true→InR f.types.length b.term.arg
 eargs : ∀ b∈f.blocks, ∀ e∈b.term.to, ∀ v∈e.args,InR f.types.length v
 etos : ∀ b∈f.blocks, ∀ e∈b.term.to,0≤e.to∧e.to<f.blocks.length∧e.args.length=(f.blocks.getD e.to.toNat default).params.length
 u1 : ∀ b∈f.blocks, ∀ c∈f.blocks, ∀ x∈b.code, ∀ y∈c.code,pure x.op=true→pure y.op=true→x.outs=y.outs→x.args=y.args
 u2 : ∀ b∈f.blocks, ∀ c∈f.blocks, ∀ p∈b.params, ∀ y∈c.code,p∉y.outs
def askIns (t:List (List Int)) (x:Ins):List (List Int):=if pure x.op then t.set (x.outs.getD 0 0).toNat x.args else t
def askPar (t:List (List Int)) (q:Int × Int):List (List Int):=t.set q.1.toNat (t.getD q.1.toNat []++[q.2])
def askEdge (bs:List Block) (t:List (List Int)) (e:Edge):List (List Int):=((bs.getD e.to.toNat default).params.zip e.args).foldl askPar t
def askBlock (bs:List Block) (t:List (List Int)) (b:Block):List (List Int):=b.term.to.foldl (askEdge bs) (b.code.foldl askIns t)
def askTab (f:Fn):List (List Int):=f.blocks.foldl (askBlock f.blocks) (List.replicate f.types.length [])
def Asks (f:Fn) (v u:Int):Prop:=(∃ b∈f.blocks, ∃ x∈b.code,pure x.op=true∧x.outs=[v]∧u∈x.args) ∨ ∃ b∈f.blocks, ∃ e∈b.term.to,(v,u)∈(f.blocks.getD e.to.toNat default).params.zip e.args
theorem foldl_inv {α β:Type} {g:β→α→β} {P:β→Prop} : ∀ {l:List α} {t:β},P t→(∀ t, ∀ a∈l,P t→P (g t a))→P (l.foldl g t)
 | [],t,h,_=>h
 | a::l,t,h,hs=>by
  rw [List.foldl_cons]
  exact foldl_inv (hs t a (by simp) h) fun t b hb=>hs t b (by simp [hb])
theorem par_mem {f:Fn} {e:Edge} {q:Int × Int} (hq:q∈(f.blocks.getD e.to.toNat default).params.zip e.args) (hb : ∃ b∈f.blocks,e∈b.term.to) (h:DOk f) : ∃ b∈f.blocks,q.1∈b.params:=by
 obtain ⟨b,hbm,he⟩:=hb
 obtain ⟨h0,h1,_⟩:=h.etos b hbm e he
 have hlt:e.to.toNat<f.blocks.length:=by omega
 refine ⟨f.blocks.getD e.to.toNat default, ?_,(List.of_mem_zip hq).1⟩
 rw [List.getD_eq_getElem?_getD,List.getElem?_eq_getElem hlt]
 exact List.getElem_mem hlt
theorem getD_set (t:List (List Int)) (i j:Nat) (l:List Int):(t.set i l).getD j []=if i=j∧j<t.length then l else t.getD j []:=by
 simp only [List.getD_eq_getElem?_getD,List.getElem?_set]
 by_cases e:i=j
 ·subst e
  by_cases h:i<t.length
  ·simp [h]
  ·simp [h]
 ·simp [e]
theorem tab_sound {f:Fn} (h:DOk f) : ∀ v u:Int,0≤v→u∈(askTab f).getD v.toNat []→Asks f v u:=by
 let P:=fun t:List (List Int) => ∀ v u:Int,0≤v→u∈t.getD v.toNat []→Asks f v u
 show P (askTab f)
 unfold askTab
 refine foldl_inv (P:=P) (fun v u _ hu => ?_) fun t b hb ht => ?_
 ·rw [List.getD_eq_getElem?_getD,List.getElem?_replicate] at hu
  split at hu<;>simp at hu
 unfold askBlock
 refine foldl_inv (P:=P) (foldl_inv (P:=P) ht fun t x hx ht => ?_) fun t e he ht => ?_
 ·unfold askIns
  split
  ·rename_i hp
   intro v u hv hu
   rw [getD_set] at hu
   split at hu
   ·rename_i hc
    obtain ⟨o,ho⟩:=h.one b hb x hx hp
    have h0:=(h.outs b hb x hx o (by simp [ho])).1
    rw [ho] at hc
    have:o=v:=by have:=hc.1; simp only [List.getD_cons_zero] at this; omega
    subst this
    exact .inl ⟨b,hb,x,hx,hp,ho,hu⟩
   ·exact ht v u hv hu
  ·exact ht
 ·unfold askEdge
  refine foldl_inv (P:=P) ht fun t q hq ht => ?_
  intro v u hv hu
  rw [askPar,getD_set] at hu
  split at hu
  ·rename_i hc
   obtain ⟨c,hcm,hcp⟩:=par_mem hq ⟨b,hb,he⟩ h
   have h0:=(h.pars c hcm _ hcp).1
   have e1:q.1=v:=by have:=hc.1; omega
   rcases List.mem_append.1 hu with hu | hu
   ·rw [e1] at hu; exact ht v u hv hu
   ·simp only [List.mem_singleton] at hu
    subst hu
    subst e1
    exact .inr ⟨b,hb,e,he,hq⟩
  ·exact ht v u hv hu
theorem tab_full {f:Fn} (h:DOk f) {v u:Int} (hvu:Asks f v u):u∈(askTab f).getD v.toNat []:=by
 let P:=fun t:List (List Int)=>t.length=f.types.length∧u∈t.getD v.toNat []
 let L:=fun t:List (List Int)=>t.length=f.types.length
 have hv:InR f.types.length v:=by
  rcases hvu with ⟨b,hb,x,hx,_,ho,_⟩ | ⟨b,hb,e,he,hq⟩
  ·exact h.outs b hb x hx v (by simp [ho])
  ·obtain ⟨c,hc,hp⟩:=par_mem hq ⟨b,hb,he⟩ h
   exact h.pars c hc _ hp
 have hvt:v.toNat<f.types.length:=by have:=hv.1; have:=hv.2; omega
 have clash : ∀ b∈f.blocks, ∀ y∈b.code,pure y.op=true→(y.outs.getD 0 0).toNat=v.toNat→u∈y.args:=fun b hb y hy hp he=>by
  obtain ⟨o,ho⟩:=h.one b hb y hy hp
  have h0:=(h.outs b hb y hy o (by simp [ho])).1
  rw [ho] at he
  have e1:o=v:=by have:=hv.1; simp only [List.getD_cons_zero] at he; omega
  subst e1
  rcases hvu with ⟨c,hc,x,hx,hxp,hxo,hxu⟩ | ⟨c,hc,e,he',hq⟩
  ·rw [h.u1 b hb c hc y hy x hx hp hxp (by rw [ho,hxo])]; exact hxu
  ·obtain ⟨d,hd,hdp⟩:=par_mem hq ⟨c,hc,he'⟩ h
   exact absurd (by rw [ho]; simp) (h.u2 d hd b hb _ hdp y hy)
 have sIns : ∀ b∈f.blocks, ∀ t, ∀ y∈b.code,P t→P (askIns t y):=fun b hb t y hy ⟨hl,hu⟩=>by
  unfold askIns
  split
  ·rename_i hp
   refine ⟨by rw [List.length_set]; exact hl, ?_⟩
   rw [getD_set]
   split
   ·rename_i hc; exact clash b hb y hy hp hc.1
   ·exact hu
  ·exact ⟨hl,hu⟩
 have sPar : ∀ t (q:Int × Int),P t→P (askPar t q):=fun t q ⟨hl,hu⟩=>by
  refine ⟨by rw [askPar,List.length_set]; exact hl, ?_⟩
  rw [askPar,getD_set]
  split
  ·rename_i hc; rw [hc.1]; exact List.mem_append_left _ hu
  ·exact hu
 have sEdge : ∀ t e,P t→P (askEdge f.blocks t e):=fun t e ht=>foldl_inv (P:=P) ht fun t q _ ht=>sPar t q ht
 have sBlock : ∀ t, ∀ b∈f.blocks,P t→P (askBlock f.blocks t b):=fun t b hb ht=>foldl_inv (P:=P) (foldl_inv (P:=P) ht fun t x hx ht=>sIns b hb t x hx ht) fun t e _ ht=>sEdge t e ht
 have lIns : ∀ t y,L t→L (askIns t y):=fun t y ht=>by
  unfold askIns; split
  ·show List.length _=_; rw [List.length_set]; exact ht
  ·exact ht
 have lPar : ∀ t q,L t→L (askPar t q):=fun t q ht=>by show List.length _=_; rw [askPar,List.length_set]; exact ht
 have lEdge : ∀ t e,L t→L (askEdge f.blocks t e):=fun t e ht=>foldl_inv (P:=L) ht fun t q _ ht=>lPar t q ht
 have lBlock : ∀ t b,L t→L (askBlock f.blocks t b):=fun t b ht=>foldl_inv (P:=L) (foldl_inv (P:=L) ht fun t x _ ht=>lIns t x ht) fun t e _ ht=>lEdge t e ht
 have at2 : ∀ {α:Type} {g:List (List Int)→α→List (List Int)} {l:List α} {a:α} {t:List (List Int)},a∈l→L t→(∀ t b,L t→L (g t b))→(∀ t,L t→P (g t a))→(∀ t, ∀ b∈l,P t→P (g t b))→P (l.foldl g t):=fun {α g l a t} ha hl h1 h2 h3=>by
  induction l generalizing t with
  | nil=>simp at ha
  | cons c l ih =>
   rw [List.foldl_cons]
   rcases List.mem_cons.1 ha with rfl | ha
   ·exact foldl_inv (P:=P) (h2 t hl) fun t d hd=>h3 t d (by simp [hd])
   ·exact ih ha (h1 t c hl) fun t b hb=>h3 t b (by simp [hb])
 have hfin:P (askTab f):=by
  unfold askTab
  rcases hvu with ⟨b,hb,x,hx,hp,ho,hxu⟩ | ⟨b,hb,e,he,hq⟩
  ·refine at2 hb (by show List.length _=_; simp) lBlock (fun t ht => ?_) sBlock
   refine foldl_inv (P:=P) ?_ fun t e _ ht=>sEdge t e ht
   refine at2 hx ht lIns (fun t ht => ?_) fun t y hy=>sIns b hb t y hy
   unfold askIns
   rw [if_pos hp]
   refine ⟨by rw [List.length_set]; exact ht, ?_⟩
   rw [getD_set,ho,if_pos ⟨rfl,by have:t.length=f.types.length:=ht; omega⟩]
   exact hxu
  ·refine at2 hb (by show List.length _=_; simp) lBlock (fun t ht => ?_) sBlock
   refine at2 he (foldl_inv (P:=L) ht fun t x _ ht=>lIns t x ht) lEdge (fun t ht => ?_) fun t e _ ht=>sEdge t e ht
   refine at2 hq ht lPar (fun t ht => ?_) fun t q _ ht=>sPar t q ht
   refine ⟨by rw [askPar,List.length_set]; exact ht, ?_⟩
   rw [askPar,getD_set,if_pos ⟨rfl,by have:t.length=f.types.length:=ht; omega⟩]
   simp
 exact hfin.2
end Ss

namespace Go.Vw
open Go.Proofs Go.RowKit
set_option maxRecDepth 10000
set_option maxHeartbeats 2000000
theorem CloneO_v (S:Store) (l:List Int) (hl:l.length≤1048576):VCalls Tryz.prog 67 [vl vint l] S (fun r T=>r = .slice (lid S.nx 0) 0 l.length∧T=St S [] [some (1,l.map vint)]):=by
 refine vcalls_start (c:=bodyOf Tryz.f67) Tryz.func67 rfl rfl (by simp [Tryz.ntmps67]) ?_
 rw [Tryz.ntmps67]
 intro hwf
 repeat refine QS ?_
 refine QR (r:=by conv=>lhs;simp[-List.map_set,QV]) (k:=?_)
 refine QN ?_
 repeat refine QS ?_
 refine vw_isnil (l:=l.map vint) rfl rfl (by rfl) rfl rfl rfl rfl (by rfl) rfl rfl Tryz.underlying23 rfl ?_
 intro b hb
 simp only [Fr.set]
 by_cases h:b=true
 ·have hl0:l=[]:=by simpa using hb h
  subst hl0
  subst h
  repeat (first|refine QG ?_|refine QX (r:=by conv=>lhs;simp[-List.map_set,QV]) (k:=?_))
  exact ⟨_,_,(Ghost.nils (St S [] []) 1).toB _,by rw [St_nx]; rfl,by rw [St_add]; rfl⟩
 ·have h':b=false:=by simpa using h
  subst h'
  have hb1:l.length*8≤140737488355328:=by omega
  have hb2:l.length≤140737488355328:=by omega
  repeat (first|refine QG ?_|refine QX (r:=by conv=>lhs;simp[-List.map_set,QV,hb1,hb2,opAppend_vl,nc_vint,flatC_vint,rep0]) (k:=?_))
  exact done_gc [1] hwf (by decide) (by simp) (by simp; rfl) (by simp; rfl) ⟨by simp,by simp⟩
theorem Clone_v (l:List Int) (hl:l.length≤1048576):VPure Tryz.prog 67 [vl vint l] (vl vint l):=by
 intro S
 refine vcalls_wf fun hwf=>vcalls_postB ((CloneO_v S l hl).mono ?_)
 rintro r T ⟨rfl,rfl⟩
 exact done_via hwf ((frz1 (k:=0) (by simp) (by rfl) (all_closed1 vint (fun _=>rfl) _) (by simp)).toB _) rfl
theorem one_v (v:Int) (to:List Int) (ht:to.length<2^63):VPure Tryz.prog 69 ([vint v]++[.ref (vl vint to)]) (vint (Ss.putv to v)):=by
 intro S
 refine vcalls_start (c:=bodyOf Tryz.f69) Tryz.func69 rfl rfl (by simp [Tryz.ntmps69]) ?_
 rw [Tryz.ntmps69]
 intro hwf
 by_cases h1:0≤v
 ·obtain ⟨n,rfl⟩ : ∃ n:Nat,v=n:=⟨v.toNat,by omega⟩
  by_cases h2:n<to.length
  ·repeat (first|refine QG ?_|refine QX (r:=by conv=>lhs;simp[-List.map_set,QV,h2]) (k:=?_))
   exact done_pure hwf (by simp [Ss.putv,h2]) rfl
  ·repeat (first|refine QG ?_|refine QX (r:=by conv=>lhs;simp[-List.map_set,QV,h2]) (k:=?_))
   exact done_pure hwf (by simp [Ss.putv,h2]) rfl
 ·repeat (first|refine QG ?_|refine QX (r:=by conv=>lhs;simp[-List.map_set,QV,h1]) (k:=?_))
  exact done_pure hwf (by simp [Ss.putv,h1]) rfl
theorem allO_v (S:Store) (l to:List Int) (ps:Nat) (hps:S.get ps=some (1,[.func 69 [.ref (vl vint to)]])) (hl:l.length≤1048576) (ht:to.length<2^63):VCalls Tryz.prog 70 ([vl vint l]++[.ptr ps 0]) S (fun r T=>r = .slice (lid S.nx 0) 0 l.length∧T=St S [] [some (1,(l.map (Ss.putv to)).map vint)]):=by
 have cp:=fun v=>one_v v to ht
 generalize Ss.putv to=g at *
 refine vcalls_start (c:=bodyOf Tryz.f70) Tryz.func70 rfl rfl (by simp [Tryz.ntmps70]) ?_
 rw [Tryz.ntmps70]
 intro hwf
 have hpn:=old_lt hwf hps
 have p1:=fun u l => @St_old S u l _ hpn
 have pP:=fun ks=>gcP_old (n:=S.nx) ks hpn
 have pT:=fun ks=>gcTo_old (n:=S.nx) ks hpn
 repeat refine QS ?_
 refine QR (r:=by conv=>lhs;simp[-List.map_set,QV]) (k:=?_)
 refine QN ?_
 repeat refine QS ?_
 refine QR (r:=by conv=>lhs;simp[-List.map_set,QV]) (k:=?_)
 refine QN ?_
 refine vw_void 4 1 rfl (by conv=>lhs; simp [Fr.set]) ?_
 repeat (first|refine QG ?_|refine QX (r:=by conv=>lhs;simp[-List.map_set,QV]) (k:=?_))
 repeat refine QS ?_
 refine vw_loopAt [1,4,7,8,9] rfl (fun c σ S' => ∃ (k:Nat) (out:List Int),k≤l.length∧c=l.length-k∧out=(l.take k).map g∧out.length=k∧σ=[(1, .ptr ps 0),(4, .slice (lid S.nx 0) 0 k),(7,vl vint l),(8,vnat l.length),(9,vnat k)]∧S'=St S [] [some (1,out.map vint)]) l.length ?_ ?_
 ·exact ⟨0,[],by omega,rfl,by simp,rfl,by simp [Fr.only],by simp⟩
 ·rintro c σ T ⟨k,out,hk,rfl,ho,hlen,rfl,rfl⟩
  by_cases hkt:k<l.length
  ·have hw:=wrapNat hkt (by omega)
   have cpk:=cp l[k]
   have htk:(l.take (k+1)).map g=(l.take k).map g++[g l[k]]:=by rw [List.take_add_one,List.getElem?_eq_getElem hkt,List.map_append]; rfl
   generalize g l[k]=gv at *
   have hb:(k+1)*8≤140737488355328:=by omega
   have hb':k+1≤140737488355328:=by omega
   repeat (first|refine QG ?_|refine QX (r:=by conv=>lhs;simp[-List.map_set,QV,hkt]) (k:=?_))
   repeat refine QS ?_
   refine QR (r:=by conv=>lhs;simp[-List.map_set,QV,hkt,p1,hps]) (k:=?_)
   refine vcallv_useH (cpk) (by rfl) (by rfl) (by rfl) ?_
   refine QM (by conv=>lhs;simp[-List.map_set,QV,hb,hb',hlen]) ?_
   refine QN ?_
   repeat (first|refine QG ?_|refine QX (r:=by conv=>lhs;simp[-List.map_set,QV,hb,hb',hlen,hw]) (k:=?_))
   refine again_gc [2] (by conv=>lhs; simp [Fr.only]) hwf (by decide) (by simp [-List.map_set,pP,pT]) (by conv=>lhs; simp [-List.map_set,pP,pT]) (by conv=>lhs; simp [-List.map_set,pP,pT]) (by conv=>lhs; simp [-List.map_set,pP,pT]) ⟨?_,k+1,out++[gv],hkt,rfl,by rw [htk,ho],by simp [hlen],by simp [hw],by simp⟩
   omega
  ·have hke:k=l.length:=by omega
   subst hke
   rw [List.take_length] at ho
   repeat (first|refine QG ?_|refine QX (r:=by conv=>lhs;simp[-List.map_set,QV,hkt]) (k:=?_))
   rw [←ho]
   exact done_as ⟨by simp,rfl⟩
end Go.Vw
