import Derived.Test.YtkfllaokjaldnaaGreatC15
import Derived.Test.YtkfllaokjaldnaaGreatC11
import Derived.Test.YtkfllaokjaldnaaGreatC12
import Derived.Test.YtkfllaokjaldnaaGreatC14
import Derived.Test.YtkfllaokjaldnaaGreatProg
/-
  Part of the proof (texts GNearTh, GAll, SSpec, SRingP, SIdx).
-/
set_option linter.unusedVariables false
set_option linter.unusedSimpArgs false
/-
 The document's nearest dominators are those that the turns find.
-/
namespace Go.Vw.G
open Go.Vw
section
variable {g:List (List Nat)}
theorem without_none (hg:Ok g) (b:Nat):Met (without g none) b↔b∈order g:=by
 rw [(order_ok hg).mem]
 have:=JL hg (m:=List.replicate g.length false) (by simp) (jW _ _) b
 show Met (zQ g (List.replicate g.length false)) b↔_
 rw [this]
 constructor
 ·rintro (h | h)
  ·exact absurd h (jW _ _)
  ·exact h
 ·exact .inr
theorem Yu (hg:Ok g) {a b:Nat} (ha:a<g.length):Met (without g (some a)) b↔b≠a ∧ ∃ k,Way g (order g) a k b:=by
 simp only [without]
 by_cases h0:a=0
 ·rw [if_pos h0]
  subst h0
  constructor
  ·exact fun h=>absurd h (jW _ _)
  ·rintro ⟨_,k,hw⟩
   exact absurd hw (Dom.zero (order_ok hg) k)
 ·rw [if_neg h0]
  have hset:=jbJ (m:=List.replicate g.length false) (n:=a) (by simpa using ha)
  have hm : ∀ b,Met ((List.replicate g.length false).set a true) b↔b=a:=by
   intro b; rw [hset]
   constructor
   ·rintro (h | h)
    ·exact h
    ·exact absurd h (jW _ _)
   ·exact .inl
  have hmf:=JL hg (m:=(List.replicate g.length false).set a true) (by simp) (fun h=>h0 ((hm 0).1 h).symm) b
  have hlen:=Jx hg (m:=(List.replicate g.length false).set a true) (by simp) (by rw [getD_set_other h0]; exact rep_getD _ _)
  unfold Met
  by_cases hb:a=b
  ·subst hb
   rw [getD_set_self' (by omega)]
   simp
  ·rw [getD_set_other hb]
   show Met (zQ g ((List.replicate g.length false).set a true)) b↔_
   rw [hmf,hm]
   constructor
   ·rintro (h | h)
    ·exact absurd h.symm hb
    ·exact ⟨Ne.symm hb,h.way ((hm a).2 rfl)⟩
   ·rintro ⟨_,k,hw⟩
    exact .inr (hw.fromM fun x hx=>(hm x).1 hx)
theorem Jv (hg:Ok g) (a b:Nat):tabAt (table g) a b=true↔a∈order g∧b∈order g∧Dom g (order g) a b:=by
 have ho:=order_ok hg
 by_cases ha:a<g.length
 ·have e1:(table g).getD a []=tableRow g a:=by simp [table,ha]
  simp only [tabAt,e1,tableRow]
  by_cases hr:a∈order g
  ·have h1:(without g none).getD a false=true:=(without_none hg a).2 hr
   rw [if_pos h1]
   by_cases hb:b<g.length
   ·have e2:((List.range g.length).map fun b=>(without g none).getD b false && !((without g (some a)).getD b false)).getD b false=((without g none).getD b false && !((without g (some a)).getD b false)):=by
     simp [hb]
    rw [e2,Bool.and_eq_true,Bool.not_eq_true']
    have w1:=without_none hg b
    have w2:=Yu hg (b:=b) ha
    unfold Met at w1 w2
    rw [w1]
    constructor
    ·rintro ⟨k1,k2⟩
     refine ⟨hr,k1,fun k hw => ?_⟩
     by_cases e:b=a
     ·subst e; exact hw.ne rfl
     ·have:=w2.2 ⟨e,k,hw⟩
      rw [k2] at this; cases this
    ·rintro ⟨_,k1,k2⟩
     refine ⟨k1, ?_⟩
     cases hx:(without g (some a)).getD b false with
     | false=>rfl
     | true =>
      obtain ⟨_,k,hw⟩:=w2.1 hx
      exact absurd hw (k2 k)
   ·constructor
    ·intro h
     rw [List.getD_eq_getElem?_getD,List.getElem?_eq_none (by simp; omega)] at h
     simp at h
    ·rintro ⟨_,h,_⟩
     exact absurd (ho.lt b h) hb
  ·have h1 : ¬ (without g none).getD a false=true:=fun h=>hr ((without_none hg a).1 h)
   rw [if_neg h1,rep_getD]
   constructor
   ·intro h; cases h
   ·rintro ⟨h,_⟩; exact absurd h hr
 ·constructor
  ·intro h
   have e:(table g).getD a []=[]:=by
    rw [List.getD_eq_getElem?_getD,List.getElem?_eq_none (by simp [table]; omega)]; rfl
   rw [tabAt,e] at h
   simp at h
  ·rintro ⟨h,_⟩
   exact absurd (ho.lt a h) ha
theorem jbc {t:List (List Bool)} {a p:Nat} (h : ∀ c,tabAt t c a=true→tabAt t c p=true) : ∀ n,cntTo t a n≤cntTo t p n
 | 0=>Nat.le_refl _
 | n+1=>by
  have:=jbc h n
  simp only [cntTo]
  by_cases h1:tabAt t n a=true
  ·rw [if_pos h1,if_pos (h n h1)]; omega
  ·rw [if_neg h1]; split<;>omega
theorem cntTo_lt {t:List (List Bool)} {a p:Nat} (h : ∀ c,tabAt t c a=true→tabAt t c p=true) {x:Nat} (h1:tabAt t x p=true) (h2 : ¬ tabAt t x a=true) : ∀ n,x<n→cntTo t a n<cntTo t p n
 | 0,hx=>by omega
 | n+1,hx=>by
  have hm:=jbc h n
  simp only [cntTo]
  by_cases e:x=n
  ·subst e; rw [if_neg h2,if_pos h1]; omega
  ·have:=cntTo_lt h h1 h2 n (by omega)
   by_cases k1:tabAt t n a=true
   ·rw [if_pos k1,if_pos (h n k1)]; omega
   ·rw [if_neg k1]; split<;>omega
theorem cntTo_pos {t:List (List Bool)} {p:Nat} {x:Nat} (h1:tabAt t x p=true) : ∀ n,x<n→0<cntTo t p n
 | 0,hx=>by omega
 | n+1,hx=>by
  simp only [cntTo]
  by_cases e:x=n
  ·subst e; rw [if_pos h1]; omega
  ·have:=cntTo_pos h1 n (by omega)
   split<;>omega
theorem jal {t:List (List Bool)} {n b:Nat} (h : ∀ a,a≠b → ¬ tabAt t a b=true) : ∀ a,bestTo t n b a=(-1,0)
 | 0=>rfl
 | a+1=>by
  simp only [bestTo]
  rw [if_neg (fun hh=>h a hh.1 hh.2.1)]
  exact jal h a
theorem best_idom {t:List (List Bool)} {n b p:Nat} (hpb:p≠b) (hp:tabAt t p b=true) (hc : ∀ a,a≠b→a≠p→tabAt t a b=true→cntTo t a n<cntTo t p n) (h0:0<cntTo t p n) :
  ∀ a,(p<a→bestTo t n b a=((p:Int),cntTo t p n))∧(¬ p<a→(bestTo t n b a).2<cntTo t p n)
 | 0=>⟨fun h=>by omega,fun _=>h0⟩
 | a+1=>by
  obtain ⟨h1,h2⟩:=best_idom hpb hp hc h0 a
  simp only [bestTo]
  by_cases e:a=p
  ·subst e
   rw [if_pos ⟨hpb,hp,h2 (by omega)⟩]
   exact ⟨fun _=>rfl,fun h=>by omega⟩
  ·refine ⟨fun h => ?_,fun h => ?_⟩
   ·have:=h1 (by omega)
    rw [this]
    rw [if_neg (fun hh=>by have:=hc a hh.1 e hh.2.1; have:=hh.2.2; simp only at this; omega)]
   ·have k:=h2 (by omega)
    split
    ·rename_i hh; exact hc a hh.1 e hh.2.1
    ·exact k
theorem near_eq (hg:Ok g) {nearF:List Int} (h:Idom g (order g) nearF):rNear g=nearF.set 0 (-1):=by
 have ho:=order_ok hg
 refine List.ext_getElem (by simp [rNear,h.len]) fun b h1 h2 => ?_
 have hb:b<g.length:=by simpa [rNear] using h1
 have hbn:b<nearF.length:=by rw [h.len]; exact hb
 have e1:(rNear g)[b]=(bestTo (table g) g.length b g.length).1:=by simp [rNear]
 rw [e1,List.getElem_set]
 have hnd:nearF[b]=nd nearF b:=by simp [nd,hbn]
 by_cases hb0:0=b
 ·rw [if_pos hb0]
  subst hb0
  rw [jal (fun a ha ht=>((Jv hg a 0).1 ht).2.2 0 (.start 0 (Ne.symm ha)))]
 ·rw [if_neg hb0,hnd]
  by_cases hbl:b∈order g
  ·obtain ⟨p,q1,q2,q3,q4,q5⟩:=h.near b hbl (Ne.symm hb0)
   rw [q1]
   have hpt:tabAt (table g) p b=true:=(Jv hg p b).2 ⟨q2,hbl,q4⟩
   have hpp:tabAt (table g) p p=true:=(Jv hg p p).2 ⟨q2,q2,Dom.self p⟩
   have hpn:=ho.lt p q2
   have hc : ∀ a,a≠b→a≠p→tabAt (table g) a b=true→cntTo (table g) a g.length<cntTo (table g) p g.length:=by
    intro a hab hap hat
    obtain ⟨a1,_,a3⟩:=(Jv hg a b).1 hat
    have hdp:=q5 a a3 hab
    refine cntTo_lt (x:=p) (fun c hcc => ?_) hpp (fun hx => ?_) _ hpn
    ·obtain ⟨c1,_,c3⟩:=(Jv hg c a).1 hcc
     exact (Jv hg c p).2 ⟨c1,q2,c3.trans hdp⟩
    ·exact hap (hdp.anti ho ((Jv hg p a).1 hx).2.2 a1 q2)
   rw [(best_idom q3 hpt hc (cntTo_pos hpp _ hpn) g.length).1 hpn]
  ·rw [jal (fun a _ ht=>hbl ((Jv hg a b).1 ht).2.1)]
   exact (h.out b hb hbl).symm
end
end Go.Vw.G

namespace Go.Vw
open Go.Proofs Go.RowKit
set_option maxRecDepth 10000
set_option maxHeartbeats 8000000
namespace G
def ordI (g:List (List Int)):List Nat:=if right g then order (nats g) else []
def fromI (g:List (List Int)):List (List Nat):=if right g then froms (nats g) else []
def err (g:List (List Int)):Int:=if right g then 0 else 1
end G
def Fits (g:List (List Int)):Prop:=g.length<2^63 ∧ ∀ l∈g,l.length<2^63
theorem WQ (g:List (List Int)) (h:Fits g) (hr:G.right g=true):VPure Tryz.prog 113 [vl (vl vnat) (G.nats g)] (.bool true):=by
 have:=Right_v g h.1 h.2
 rw [hr,G.right_enc hr] at this
 exact this
theorem OrderAll_v (g:List (List Int)) (h:Fits g):VPure Tryz.prog 104 [vl (vl vint) g] (.tuple [vl vnat (G.ordI g),vint (G.err g)]):=by
 intro S
 cases hr:G.right g with
 | false =>
  simp only [G.ordI,G.err,hr]
  refine jb (c:=jf Tryz.f104) Tryz.func104 rfl rfl (by simp [Tryz.ntmps104]) ?_
  rw [Tryz.ntmps104]
  intro hwf
  repeat (first|refine QG ?_|refine QY ?_)
  repeat refine QS ?_
  refine QP ?_
  refine jo rfl (Right_v g h.1 h.2) ?_
  refine QM (by conv=>lhs;simp[-List.map_set,QV,hr]) ?_
  refine QN ?_
  repeat (first|refine QG ?_|refine QY ?_)
  exact jh (l:=[]) hwf ((Ghost.tuple [] [vint 1] (Ghost.nils_list _)).toB _) rfl
 | true =>
  simp only [G.ordI,G.err,hr,if_true]
  rw [G.right_enc hr]
  have hg:=G.right_ok hr
  generalize hgn:G.nats g=gn at hg
  have hrn:=WQ g h hr
  rw [hgn] at hrn
  refine jb (c:=jf Tryz.f104) Tryz.func104 rfl rfl (by simp [Tryz.ntmps104]) ?_
  rw [Tryz.ntmps104]
  intro hwf
  repeat (first|refine QG ?_|refine QY ?_)
  repeat refine QS ?_
  refine QP ?_
  refine jo rfl (hrn) ?_
  refine QM (by conv=>lhs;simp[-List.map_set,QV]) ?_
  refine QN ?_
  repeat (first|refine QG ?_|refine QY ?_)
  repeat refine QS ?_
  refine QP ?_
  refine jo rfl (gOrd_v gn hg) ?_
  refine QM (by conv=>lhs;simp[-List.map_set,QV]) ?_
  refine QN ?_
  repeat (first|refine QG ?_|refine QY ?_)
  exact ja hwf rfl rfl
theorem ordI_len (g:List (List Int)):(G.ordI g).length≤256:=by
 simp only [G.ordI]
 split
 ·rename_i h
  have hg:=G.right_ok h
  obtain ⟨t,h1,h2,h3⟩:=G.order_ends hg
  have:=hg.max
  simp [G.order,h1]; omega
 ·simp
theorem KQ : ∀ (es:List (Nat × Nat)) (rows:List (List Nat)) (r:List Nat),r∈G.pushAll rows es→r.length≤G.total rows+es.length
 | [],rows,r,h=>by
  have h:r∈rows:=h
  obtain ⟨i,hi,rfl⟩:=List.getElem_of_mem h
  have:=G.row_le_total rows i
  have hi':i<rows.length:=hi
  have e:rows.getD i []=rows[i]:=by simp [hi']
  rw [e] at this
  simpa using this
 | e::es,rows,r,h=>by
  have:=KQ es (G.push rows e.1 e.2) r h
  by_cases hk:e.1<rows.length
  ·have k:=G.total_push (rows:=rows) (k:=e.1) (i:=e.2) hk
   simp; omega
  ·have k:G.push rows e.1 e.2=rows:=by simp only [G.push]; exact List.set_eq_of_length_le (by omega)
   rw [k] at this
   simp; omega
namespace G
def nearI (g:List (List Int)):List Int:=if right g then rNear (nats g) else []
theorem nearI_len (g:List (List Int)):(nearI g).length≤256:=by
 simp only [nearI]
 split
 ·rename_i h
  have:=(right_ok h).max
  simp [rNear]; exact this
 ·simp
end G
theorem Kt (g:List (List Int)) (h:Fits g):VPure Tryz.prog 77 [vl (vl vint) g] (.tuple [vl vint (G.nearI g),vint (G.err g)]):=by
 cases hr:G.right g with
 | false =>
  simp only [G.nearI,G.err,hr]
  exact NearestErr_v g h.1 h.2 hr
 | true =>
  simp only [G.nearI,G.err,hr,if_true]
  rw [G.right_enc hr]
  have hg:=G.right_ok hr
  have ho:=G.order_ok hg
  obtain ⟨F,K,nearF,h1,h2⟩:=G.chk_ends hg
  rw [G.near_eq hg h2]
  refine Nearest_v (G.nats g) hg (WQ g h hr) (G.order (G.nats g)) rfl ?_ ho.lt (G.froms (G.nats g)) rfl (G.froms_length _) (fun r hr x hx => ?_) (fun r hr => ?_) ?_ F K nearF h1
  ·obtain ⟨r,e⟩:=ho.head; rw [e]; simp
  ·obtain ⟨i,hi,rfl⟩:=List.getElem_of_mem hr
   have hig:i<(G.nats g).length:=by rw [G.froms_length] at hi; exact hi
   have:=(G.mem_froms hg i x hig).1 (by simpa [hi] using hx)
   exact this.1
  ·have k1:=KQ _ _ r hr
   have k2:=G.edges_len hg.row 0
   have k3:=hg.max
   rw [G.total_rep] at k1
   omega
  ·obtain ⟨t,k1,k2,k3⟩:=G.order_ends hg
   simp [G.order,k1]; exact k2
end Go.Vw

/-
 Functions in SSA form: how long their lists are.
-/
namespace Ss
def shortL (ls:List (List Int)):Bool:=ls.all fun l=>decide (l.length≤4096)
def Ins.small (x:Ins):Bool:=decide (x.args.length≤4096)&&decide (x.outs.length≤4096)
def Edge.small (x:Edge):Bool:=decide (x.args.length≤4096)
def Block.small (b:Block):Bool:=decide (b.params.length≤4096)&&decide (b.term.to.length≤4096)&&decide (b.term.args.length≤4096)&&b.code.all Ins.small&&b.term.to.all Edge.small
def smallFrom (n:Nat):List Block→Bool
 | []=>true
 | b::bs=>decide (n+b.code.length≤4096)&&b.small&&smallFrom (n+b.code.length) bs
def Fn.heads (f:Fn):Bool:=decide (f.types.length≤4096)&&decide (f.blocks.length≤4096)&&decide (f.sig.inn.length≤4096)&&decide (f.sig.out.length≤4096)
def Fn.small (f:Fn):Bool:=f.heads&&smallFrom 0 f.blocks
def count (bs:List Block):Nat:=(bs.map fun b=>b.code.length).sum
theorem Wg : ∀ {bs:List Block} {n:Nat},smallFrom n bs=true→(∀ b∈bs,b.small=true)∧(n≤4096→n+count bs≤4096)
 | [],n,_=>⟨by simp,by simp [count]⟩
 | b::bs,n,h=>by
  simp only [smallFrom,Bool.and_eq_true,decide_eq_true_eq] at h
  obtain ⟨⟨h1,h2⟩,h3⟩:=h
  obtain ⟨k1,k2⟩:=Wg h3
  refine ⟨fun x hx => ?_,fun _ => ?_⟩
  ·rcases List.mem_cons.1 hx with rfl | hx
   ·exact h2
   ·exact k1 x hx
  ·have:=k2 h1
   simp only [count,List.map_cons,List.sum_cons] at this ⊢
   omega
theorem Yw : ∀ {bs:List Block} {n:Nat},(∀ b∈bs,b.small=true)→n+count bs≤4096→smallFrom n bs=true
 | [],n,_,_=>rfl
 | b::bs,n,h,hn=>by
  simp only [count,List.map_cons,List.sum_cons] at hn
  simp only [smallFrom,Bool.and_eq_true,decide_eq_true_eq]
  exact ⟨⟨by omega,h b (by simp)⟩,Yw (fun x hx=>h x (by simp [hx])) (by simp only [count]; omega)⟩
theorem small_iff (f:Fn):f.small=true↔f.heads=true∧(∀ b∈f.blocks,b.small=true)∧count f.blocks≤4096:=by
 simp only [Fn.small,Bool.and_eq_true]
 constructor
 ·rintro ⟨h1,h2⟩
  obtain ⟨k1,k2⟩:=Wg h2
  exact ⟨h1,k1,by simpa using k2 (by omega)⟩
 ·rintro ⟨h1,h2,h3⟩
  exact ⟨h1,Yw h2 (by simpa using h3)⟩
theorem drop_all {α:Type} (p:α→Bool) {l:List α} {k:Nat} (h:k<l.length):(l.drop k).all p=(p l[k]&&(l.drop (k+1)).all p):=by
 rw [List.drop_eq_getElem_cons h,List.all_cons]
theorem drop_all_end {α:Type} (p:α→Bool) {l:List α} {k:Nat} (h : ¬ k<l.length):(l.drop k).all p=true:=by
 have:l.drop k=[]:=by rw [List.drop_eq_nil_iff]; omega
 rw [this]; rfl
theorem drop_small {n:Nat} {l:List Block} {k:Nat} (h:k<l.length):smallFrom n (l.drop k)=(decide (n+l[k].code.length≤4096)&&l[k].small&&smallFrom (n+l[k].code.length) (l.drop (k+1))):=by
 rw [List.drop_eq_getElem_cons h,smallFrom]
theorem drop_small_end {n:Nat} {l:List Block} {k:Nat} (h : ¬ k<l.length):smallFrom n (l.drop k)=true:=by
 have:l.drop k=[]:=by rw [List.drop_eq_nil_iff]; omega
 rw [this]; rfl
end Ss

/-
 Circles of blocks, by a walk in depth: the walk ends.
-/
namespace Ss
def tickB (b:Block):Bool:=b.code.any fun x=>decide (x.op=258)
mutual
def ringW (tick:List Bool) (g:List (List Nat)):Nat→Nat→List Nat→Option (Bool × List Nat)
 | 0,_,_=>none
 | fuel+1,n,st=>if tick.getD n false then some (false,st) else
   match ringL tick g fuel (g.getD n []) (st.set n 1) with
   | some (true,s)=>some (true,s)
   | some (false,s)=>some (false,s.set n 2)
   | none=>none
 termination_by fuel _ _=>(fuel,0)
def ringL (tick:List Bool) (g:List (List Nat)):Nat→List Nat→List Nat→Option (Bool × List Nat)
 | _,[],st=>some (false,st)
 | fuel,k::ks,st=>if st.getD k 0=1 then some (true,st) else if st.getD k 0=0 then
   match ringW tick g fuel k st with
   | some (true,s)=>some (true,s)
   | some (false,s)=>ringL tick g fuel ks s
   | none=>none
  else ringL tick g fuel ks st
 termination_by fuel ks _=>(fuel,ks.length+1)
end
def ringM (tick:List Bool) (g:List (List Nat)) (fuel:Nat):List Nat→List Nat→Option Bool
 | [],_=>some false
 | n::ns,st=>if st.getD n 0=0 then
   match ringW tick g fuel n st with
   | some (true,_)=>some true
   | some (false,s)=>ringM tick g fuel ns s
   | none=>none
  else ringM tick g fuel ns st
def Ju (st:List Nat):Nat:=(st.filter fun x=>decide (x=0)).length
theorem Zf (v:Nat) : ∀ (st:List Nat) (n:Nat),v≠0→Ju (st.set n v)≤Ju st∧(n<st.length→st.getD n 1=0→Ju (st.set n v)+1=Ju st)
 | [],n,_=>by simp [Ju]
 | x::st,0,hv=>by
  have e:Ju ((x::st).set 0 v)=Ju st:=by simp [Ju,hv]
  rw [e]
  refine ⟨?_,fun _ h => ?_⟩
  ·simp only [Ju,List.filter_cons]
   split<;>simp
  ·simp at h; subst h; simp [Ju]
 | x::st,n+1,hv=>by
  obtain ⟨h1,h2⟩:=Zf v st n hv
  simp only [Ju,List.set_cons_succ,List.filter_cons] at h1 h2 ⊢
  split
  ·simp only [List.length_cons]
   refine ⟨by omega,fun h3 h4 => ?_⟩
   have:=h2 (by simpa using h3) (by simpa using h4)
   omega
  ·exact ⟨h1,fun h3 h4=>h2 (by simpa using h3) (by simpa using h4)⟩
theorem zeros_le (st:List Nat):Ju st≤st.length:=List.length_filter_le _ _
section
variable {tick:List Bool} {g:List (List Nat)}
theorem WP {N fuel:Nat} (hg : ∀ n, ∀ k∈g.getD n [],k<N)
  (ih : ∀ n st,n<N→st.length=N→st.getD n 0=0→Ju st<fuel → ∃ r s,ringW tick g fuel n st=some (r,s)∧Ju s≤Ju st∧s.length=st.length) :
  ∀ (ks st:List Nat),(∀ k∈ks,k<N)→st.length=N→Ju st<fuel → ∃ r s,ringL tick g fuel ks st=some (r,s)∧Ju s≤Ju st∧s.length=st.length
 | [],st,_,_,_=>⟨false,st,by rw [ringL],Nat.le_refl _,rfl⟩
 | k::ks,st,hk,hl,hz=>by
  rw [ringL]
  split
  ·exact ⟨true,st,rfl,Nat.le_refl _,rfl⟩
  ·split
   ·rename_i h0
    obtain ⟨r,s,h1,h2,h3⟩:=ih k st (hk k (by simp)) hl h0 hz
    rw [h1]
    cases r with
    | true=>exact ⟨true,s,rfl,h2,h3⟩
    | false =>
     obtain ⟨r',s',k1,k2,k3⟩:=WP hg ih ks s (fun x hx=>hk x (by simp [hx])) (by omega) (by omega)
     exact ⟨r',s',k1,by omega,by omega⟩
   ·exact WP hg ih ks st (fun x hx=>hk x (by simp [hx])) hl hz
theorem jaL {N:Nat} (hg : ∀ n, ∀ k∈g.getD n [],k<N) : ∀ (fuel n:Nat) (st:List Nat),n<N→st.length=N→st.getD n 0=0→Ju st<fuel → ∃ r s,ringW tick g fuel n st=some (r,s)∧Ju s≤Ju st∧s.length=st.length
 | 0,_,_,_,_,_,hz=>by omega
 | fuel+1,n,st,hn,hl,h0,hz=>by
  rw [ringW]
  split
  ·exact ⟨false,st,rfl,Nat.le_refl _,rfl⟩
  ·have hz1:=(Zf 1 st n (by decide)).2 (by omega) (by
    rw [List.getD_eq_getElem?_getD,List.getElem?_eq_getElem (by omega)] at h0 ⊢
    exact h0)
   obtain ⟨r,s,h1,h2,h3⟩:=WP hg (fun n st=>jaL hg fuel n st) (g.getD n []) (st.set n 1) (hg n) (by simp; omega) (by omega)
   rw [h1]
   have h3':s.length=st.length:=by rw [h3]; simp
   cases r with
   | true=>exact ⟨true,s,rfl,by omega,h3'⟩
   | false =>
    have:=(Zf 2 s n (by decide)).1
    exact ⟨false,s.set n 2,rfl,by omega,by simp [h3']⟩
theorem ringM_ends {N fuel:Nat} (hg : ∀ n, ∀ k∈g.getD n [],k<N) (hf:N<fuel) : ∀ (ns st:List Nat),(∀ n∈ns,n<N)→st.length=N → ∃ r,ringM tick g fuel ns st=some r
 | [],_,_,_=>⟨false,rfl⟩
 | n::ns,st,hn,hl=>by
  simp only [ringM]
  split
  ·rename_i h0
   obtain ⟨r,s,h1,h2,h3⟩:=jaL (tick:=tick) hg fuel n st (hn n (by simp)) hl h0 (by have:=zeros_le st; omega)
   rw [h1]
   cases r with
   | true=>exact ⟨true,rfl⟩
   | false=>exact ringM_ends hg hf ns s (fun x hx=>hn x (by simp [hx])) (by omega)
  ·exact ringM_ends hg hf ns st (fun x hx=>hn x (by simp [hx])) hl
theorem Wi {fuel:Nat} (ih : ∀ n st r s,ringW tick g fuel n st=some (r,s)→s.length=st.length) : ∀ (ks st:List Nat) (r:Bool) (s:List Nat),ringL tick g fuel ks st=some (r,s)→s.length=st.length
 | [],st,r,s,h=>by rw [ringL] at h; cases h; rfl
 | k::ks,st,r,s,h=>by
  rw [ringL] at h
  split at h
  ·cases h; rfl
  ·split at h
   ·cases hw:ringW tick g fuel k st with
    | none=>rw [hw] at h; cases h
    | some p =>
     obtain ⟨b,s1⟩:=p
     rw [hw] at h
     have e1:=ih k st b s1 hw
     cases b with
     | true=>cases h; exact e1
     | false=>exact (Wi ih ks s1 r s h).trans e1
   ·exact Wi ih ks st r s h
theorem ringW_len : ∀ (fuel n:Nat) (st:List Nat) (r:Bool) (s:List Nat),ringW tick g fuel n st=some (r,s)→s.length=st.length
 | 0,_,_,_,_,h=>by rw [ringW] at h; cases h
 | fuel+1,n,st,r,s,h=>by
  rw [ringW] at h
  split at h
  ·cases h; rfl
  ·cases hl:ringL tick g fuel (g.getD n []) (st.set n 1) with
   | none=>rw [hl] at h; cases h
   | some p =>
    obtain ⟨b,s1⟩:=p
    rw [hl] at h
    have e1:=Wi (ringW_len fuel) _ _ _ _ hl
    cases b with
    | true=>cases h; simpa using e1
    | false=>cases h; simpa using e1
end
def rings (bs:List Block) (g:List (List Nat)):Bool:=(ringM (bs.map tickB) g (g.length+1) (List.range g.length) (List.replicate g.length 0)).getD false
end Ss

namespace Go.Vw
open Go.Proofs Go.RowKit
set_option maxRecDepth 10000
set_option maxHeartbeats 4000000
def qq {α:Type} (p:α→Bool):List α→Nat→Int
 | [],_ => -1
 | x::xs,k=>if p x then (k:Int) else qq p xs (k+1)
theorem zM {α:Type} (p:α→Bool) : ∀ (l:List α) (k:Nat),decide (0≤qq p l k)=l.any p
 | [],k=>by simp [qq]
 | x::xs,k=>by
   cases h:p x
   ·simp [qq,h,zM p xs (k+1)]
   ·simp [qq,h]
def eqF {α:Type} (p:α→α→Bool):List α→List α→Bool
 | [],[]=>true
 | x::xs,y::ys=>p x y&&eqF p xs ys
 | _,_=>false
theorem eqF_len {α:Type} {p:α→α→Bool} : ∀ {l m:List α}, ¬ l.length=m.length→eqF p l m=false
 | [],[],h=>absurd rfl h
 | [],_::_,_=>rfl
 | _::_,[],_=>rfl
 | x::xs,y::ys,h=>by rw [eqF,eqF_len (l:=xs) (m:=ys) (by simpa using h)]; simp
theorem eqF_eq {α:Type} [DecidableEq α] {p:α→α→Bool} (hp : ∀ x y,p x y=decide (x=y)) : ∀ (l m:List α),eqF p l m=decide (l=m)
 | [],[]=>by simp [eqF]
 | [],_::_=>by simp [eqF]
 | _::_,[]=>by simp [eqF]
 | x::xs,y::ys=>by rw [eqF,hp,eqF_eq hp xs ys]; simp
theorem IndexL_v (l:List (List Int)) (p:List Int→Bool) (fid:FuncId) (caps:List V) (hc:jU Tryz.prog fid=true) (hl:l.length<2^63) (h : ∀ x∈l,VPure Tryz.prog fid ([vl vint x]++caps) (.bool (p x))) :
  VPure Tryz.prog 144 [vl (vl vint) l, .func fid caps] (vint (qq p l 0)):=by
 intro S
 refine jb (c:=jf Tryz.f144) Tryz.func144 rfl rfl (by simp [Tryz.ntmps144]) ?_
 rw [Tryz.ntmps144]
 intro hwf
 repeat (first|refine QG ?_|refine QY ?_)
 repeat refine QS ?_
 refine jd [0,1,7,8] rfl (fun c σ S' => ∃ (k:Nat),k≤l.length∧c=l.length-k∧qq p (l.drop k) k=qq p l 0∧σ=[(0,vl (vl vint) l),(1, .func fid caps),(7,vnat l.length),(8,vnat k)]∧S'=St S [] []) l.length ?_ ?_
 ·exact ⟨0,by omega,rfl,rfl,by simp [Fr.only],rfl⟩
 ·rintro c σ T ⟨k,hk,rfl,hd,rfl,rfl⟩
  by_cases hkt:k<l.length
  ·have hst:qq p (l.drop k) k=if p l[k] then (k:Int) else qq p (l.drop (k+1)) (k+1):=by rw [List.drop_eq_getElem_cons hkt,qq]
   have hw:=jn hkt hl
   repeat (first|refine QG ?_|refine QY ?_ (r:=by conv=>lhs;simp[-List.map_set,QV,hkt]))
   repeat refine QS ?_
   refine QP ?_ (r:=by conv=>lhs;simp[-List.map_set,QV,hkt])
   refine qO rfl hc rfl (h _ (List.getElem_mem hkt)) ?_
   refine QM (by conv=>lhs;simp[-List.map_set,QV]) ?_
   refine QN ?_
   cases hp:p l[k] with
   | true =>
    rw [hp] at hst
    repeat (first|refine QG ?_|refine QY ?_ (r:=by conv=>lhs;simp[-List.map_set,QV,hp]))
    exact ja hwf (by rw [←hd,hst]; rfl) rfl
   | false =>
    rw [hp] at hst
    repeat (first|refine QG ?_|refine QY ?_ (r:=by conv=>lhs;simp[-List.map_set,QV,hp]))
    show jv _ _ _ _ _ _ _
    exact again ⟨Nat.sub_lt_sub_left hkt (Nat.lt_succ_self k),k+1,hkt,rfl,by rw [←hd,hst]; rfl,by simp [Fr.only,hw],rfl⟩
  ·have e:l.drop k=[]:=by rw [List.drop_eq_nil_iff]; omega
   rw [e] at hd
   repeat (first|refine QG ?_|refine QY ?_ (r:=by conv=>lhs;simp[-List.map_set,QV,hkt]))
   exact ja hwf (by rw [←hd]; rfl) rfl
theorem AnyL_v (l:List (List Int)) (p:List Int→Bool) (fid:FuncId) (caps:List V) (hc:jU Tryz.prog fid=true) (hl:l.length<2^63) (h : ∀ x∈l,VPure Tryz.prog fid ([vl vint x]++caps) (.bool (p x))) :
  VPure Tryz.prog 128 [vl (vl vint) l, .func fid caps] (.bool (l.any p)):=by
 intro S
 refine jb (c:=jf Tryz.f128) Tryz.func128 rfl rfl (by simp [Tryz.ntmps128]) ?_
 rw [Tryz.ntmps128]
 intro hwf
 rw [←zM p l 0]
 repeat (first|refine QG ?_|refine QY ?_)
 repeat refine QS ?_
 refine QP ?_
 refine jo rfl (IndexL_v l p fid caps hc hl h) ?_
 refine QM (by conv=>lhs;simp[-List.map_set,QV]) ?_
 refine QN ?_
 repeat (first|refine QG ?_|refine QY ?_)
 exact ja hwf rfl rfl
theorem IndexI_v (l:List (Int)) (p:Int→Bool) (fid:FuncId) (caps:List V) (hc:jU Tryz.prog fid=true) (hl:l.length<2^63) (h : ∀ x∈l,VPure Tryz.prog fid ([vint x]++caps) (.bool (p x))) :
  VPure Tryz.prog 84 [vl (vint) l, .func fid caps] (vint (qq p l 0)):=by
 intro S
 refine jb (c:=jf Tryz.f84) Tryz.func84 rfl rfl (by simp [Tryz.ntmps84]) ?_
 rw [Tryz.ntmps84]
 intro hwf
 repeat (first|refine QG ?_|refine QY ?_)
 repeat refine QS ?_
 refine jd [0,1,7,8] rfl (fun c σ S' => ∃ (k:Nat),k≤l.length∧c=l.length-k∧qq p (l.drop k) k=qq p l 0∧σ=[(0,vl (vint) l),(1, .func fid caps),(7,vnat l.length),(8,vnat k)]∧S'=St S [] []) l.length ?_ ?_
 ·exact ⟨0,by omega,rfl,rfl,by simp [Fr.only],rfl⟩
 ·rintro c σ T ⟨k,hk,rfl,hd,rfl,rfl⟩
  by_cases hkt:k<l.length
  ·have hst:qq p (l.drop k) k=if p l[k] then (k:Int) else qq p (l.drop (k+1)) (k+1):=by rw [List.drop_eq_getElem_cons hkt,qq]
   have hw:=jn hkt hl
   repeat (first|refine QG ?_|refine QY ?_ (r:=by conv=>lhs;simp[-List.map_set,QV,hkt]))
   repeat refine QS ?_
   refine QP ?_ (r:=by conv=>lhs;simp[-List.map_set,QV,hkt])
   refine qO rfl hc rfl (h _ (List.getElem_mem hkt)) ?_
   refine QM (by conv=>lhs;simp[-List.map_set,QV]) ?_
   refine QN ?_
   cases hp:p l[k] with
   | true =>
    rw [hp] at hst
    repeat (first|refine QG ?_|refine QY ?_ (r:=by conv=>lhs;simp[-List.map_set,QV,hp]))
    exact ja hwf (by rw [←hd,hst]; rfl) rfl
   | false =>
    rw [hp] at hst
    repeat (first|refine QG ?_|refine QY ?_ (r:=by conv=>lhs;simp[-List.map_set,QV,hp]))
    show jv _ _ _ _ _ _ _
    exact again ⟨Nat.sub_lt_sub_left hkt (Nat.lt_succ_self k),k+1,hkt,rfl,by rw [←hd,hst]; rfl,by simp [Fr.only,hw],rfl⟩
  ·have e:l.drop k=[]:=by rw [List.drop_eq_nil_iff]; omega
   rw [e] at hd
   repeat (first|refine QG ?_|refine QY ?_ (r:=by conv=>lhs;simp[-List.map_set,QV,hkt]))
   exact ja hwf (by rw [←hd]; rfl) rfl
theorem AnyI_v (l:List (Int)) (p:Int→Bool) (fid:FuncId) (caps:List V) (hc:jU Tryz.prog fid=true) (hl:l.length<2^63) (h : ∀ x∈l,VPure Tryz.prog fid ([vint x]++caps) (.bool (p x))) :
  VPure Tryz.prog 32 [vl (vint) l, .func fid caps] (.bool (l.any p)):=by
 intro S
 refine jb (c:=jf Tryz.f32) Tryz.func32 rfl rfl (by simp [Tryz.ntmps32]) ?_
 rw [Tryz.ntmps32]
 intro hwf
 rw [←zM p l 0]
 repeat (first|refine QG ?_|refine QY ?_)
 repeat refine QS ?_
 refine QP ?_
 refine jo rfl (IndexI_v l p fid caps hc hl h) ?_
 refine QM (by conv=>lhs;simp[-List.map_set,QV]) ?_
 refine QN ?_
 repeat (first|refine QG ?_|refine QY ?_)
 exact ja hwf rfl rfl
theorem IndexB_v (l:List (Ss.Block)) (p:Ss.Block→Bool) (fid:FuncId) (caps:List V) (hc:jU Tryz.prog fid=true) (hl:l.length<2^63) (h : ∀ x∈l,VPure Tryz.prog fid ([je x]++caps) (.bool (p x))) :
  VPure Tryz.prog 102 [vl (je) l, .func fid caps] (vint (qq p l 0)):=by
 intro S
 refine jb (c:=jf Tryz.f102) Tryz.func102 rfl rfl (by simp [Tryz.ntmps102]) ?_
 rw [Tryz.ntmps102]
 intro hwf
 repeat (first|refine QG ?_|refine QY ?_)
 repeat refine QS ?_
 refine jd [0,1,7,8] rfl (fun c σ S' => ∃ (k:Nat),k≤l.length∧c=l.length-k∧qq p (l.drop k) k=qq p l 0∧σ=[(0,vl (je) l),(1, .func fid caps),(7,vnat l.length),(8,vnat k)]∧S'=St S [] []) l.length ?_ ?_
 ·exact ⟨0,by omega,rfl,rfl,by simp [Fr.only],rfl⟩
 ·rintro c σ T ⟨k,hk,rfl,hd,rfl,rfl⟩
  by_cases hkt:k<l.length
  ·have hst:qq p (l.drop k) k=if p l[k] then (k:Int) else qq p (l.drop (k+1)) (k+1):=by rw [List.drop_eq_getElem_cons hkt,qq]
   have hw:=jn hkt hl
   repeat (first|refine QG ?_|refine QY ?_ (r:=by conv=>lhs;simp[-List.map_set,QV,hkt]))
   repeat refine QS ?_
   refine QP ?_ (r:=by conv=>lhs;simp[-List.map_set,QV,hkt])
   refine qO rfl hc rfl (h _ (List.getElem_mem hkt)) ?_
   refine QM (by conv=>lhs;simp[-List.map_set,QV]) ?_
   refine QN ?_
   cases hp:p l[k] with
   | true =>
    rw [hp] at hst
    repeat (first|refine QG ?_|refine QY ?_ (r:=by conv=>lhs;simp[-List.map_set,QV,hp]))
    exact ja hwf (by rw [←hd,hst]; rfl) rfl
   | false =>
    rw [hp] at hst
    repeat (first|refine QG ?_|refine QY ?_ (r:=by conv=>lhs;simp[-List.map_set,QV,hp]))
    show jv _ _ _ _ _ _ _
    exact again ⟨Nat.sub_lt_sub_left hkt (Nat.lt_succ_self k),k+1,hkt,rfl,by rw [←hd,hst]; rfl,by simp [Fr.only,hw],rfl⟩
  ·have e:l.drop k=[]:=by rw [List.drop_eq_nil_iff]; omega
   rw [e] at hd
   repeat (first|refine QG ?_|refine QY ?_ (r:=by conv=>lhs;simp[-List.map_set,QV,hkt]))
   exact ja hwf (by rw [←hd]; rfl) rfl
theorem AnyB_v (l:List (Ss.Block)) (p:Ss.Block→Bool) (fid:FuncId) (caps:List V) (hc:jU Tryz.prog fid=true) (hl:l.length<2^63) (h : ∀ x∈l,VPure Tryz.prog fid ([je x]++caps) (.bool (p x))) :
  VPure Tryz.prog 67 [vl (je) l, .func fid caps] (.bool (l.any p)):=by
 intro S
 refine jb (c:=jf Tryz.f67) Tryz.func67 rfl rfl (by simp [Tryz.ntmps67]) ?_
 rw [Tryz.ntmps67]
 intro hwf
 rw [←zM p l 0]
 repeat (first|refine QG ?_|refine QY ?_)
 repeat refine QS ?_
 refine QP ?_
 refine jo rfl (IndexB_v l p fid caps hc hl h) ?_
 refine QM (by conv=>lhs;simp[-List.map_set,QV]) ?_
 refine QN ?_
 repeat (first|refine QG ?_|refine QY ?_)
 exact ja hwf rfl rfl
theorem IndexS_v (l:List (Ss.Sig)) (p:Ss.Sig→Bool) (fid:FuncId) (caps:List V) (hc:jU Tryz.prog fid=true) (hl:l.length<2^63) (h : ∀ x∈l,VPure Tryz.prog fid ([jO x]++caps) (.bool (p x))) :
  VPure Tryz.prog 127 [vl (jO) l, .func fid caps] (vint (qq p l 0)):=by
 intro S
 refine jb (c:=jf Tryz.f127) Tryz.func127 rfl rfl (by simp [Tryz.ntmps127]) ?_
 rw [Tryz.ntmps127]
 intro hwf
 repeat (first|refine QG ?_|refine QY ?_)
 repeat refine QS ?_
 refine jd [0,1,7,8] rfl (fun c σ S' => ∃ (k:Nat),k≤l.length∧c=l.length-k∧qq p (l.drop k) k=qq p l 0∧σ=[(0,vl (jO) l),(1, .func fid caps),(7,vnat l.length),(8,vnat k)]∧S'=St S [] []) l.length ?_ ?_
 ·exact ⟨0,by omega,rfl,rfl,by simp [Fr.only],rfl⟩
 ·rintro c σ T ⟨k,hk,rfl,hd,rfl,rfl⟩
  by_cases hkt:k<l.length
  ·have hst:qq p (l.drop k) k=if p l[k] then (k:Int) else qq p (l.drop (k+1)) (k+1):=by rw [List.drop_eq_getElem_cons hkt,qq]
   have hw:=jn hkt hl
   repeat (first|refine QG ?_|refine QY ?_ (r:=by conv=>lhs;simp[-List.map_set,QV,hkt]))
   repeat refine QS ?_
   refine QP ?_ (r:=by conv=>lhs;simp[-List.map_set,QV,hkt])
   refine qO rfl hc rfl (h _ (List.getElem_mem hkt)) ?_
   refine QM (by conv=>lhs;simp[-List.map_set,QV]) ?_
   refine QN ?_
   cases hp:p l[k] with
   | true =>
    rw [hp] at hst
    repeat (first|refine QG ?_|refine QY ?_ (r:=by conv=>lhs;simp[-List.map_set,QV,hp]))
    exact ja hwf (by rw [←hd,hst]; rfl) rfl
   | false =>
    rw [hp] at hst
    repeat (first|refine QG ?_|refine QY ?_ (r:=by conv=>lhs;simp[-List.map_set,QV,hp]))
    show jv _ _ _ _ _ _ _
    exact again ⟨Nat.sub_lt_sub_left hkt (Nat.lt_succ_self k),k+1,hkt,rfl,by rw [←hd,hst]; rfl,by simp [Fr.only,hw],rfl⟩
  ·have e:l.drop k=[]:=by rw [List.drop_eq_nil_iff]; omega
   rw [e] at hd
   repeat (first|refine QG ?_|refine QY ?_ (r:=by conv=>lhs;simp[-List.map_set,QV,hkt]))
   exact ja hwf (by rw [←hd]; rfl) rfl
theorem AnyS_v (l:List (Ss.Sig)) (p:Ss.Sig→Bool) (fid:FuncId) (caps:List V) (hc:jU Tryz.prog fid=true) (hl:l.length<2^63) (h : ∀ x∈l,VPure Tryz.prog fid ([jO x]++caps) (.bool (p x))) :
  VPure Tryz.prog 97 [vl (jO) l, .func fid caps] (.bool (l.any p)):=by
 intro S
 refine jb (c:=jf Tryz.f97) Tryz.func97 rfl rfl (by simp [Tryz.ntmps97]) ?_
 rw [Tryz.ntmps97]
 intro hwf
 rw [←zM p l 0]
 repeat (first|refine QG ?_|refine QY ?_)
 repeat refine QS ?_
 refine QP ?_
 refine jo rfl (IndexS_v l p fid caps hc hl h) ?_
 refine QM (by conv=>lhs;simp[-List.map_set,QV]) ?_
 refine QN ?_
 repeat (first|refine QG ?_|refine QY ?_)
 exact ja hwf rfl rfl
theorem IndexN_v (l:List (Ss.Ins)) (p:Ss.Ins→Bool) (fid:FuncId) (caps:List V) (hc:jU Tryz.prog fid=true) (hl:l.length<2^63) (h : ∀ x∈l,VPure Tryz.prog fid ([jt x]++caps) (.bool (p x))) :
  VPure Tryz.prog 145 [vl (jt) l, .func fid caps] (vint (qq p l 0)):=by
 intro S
 refine jb (c:=jf Tryz.f145) Tryz.func145 rfl rfl (by simp [Tryz.ntmps145]) ?_
 rw [Tryz.ntmps145]
 intro hwf
 repeat (first|refine QG ?_|refine QY ?_)
 repeat refine QS ?_
 refine jd [0,1,7,8] rfl (fun c σ S' => ∃ (k:Nat),k≤l.length∧c=l.length-k∧qq p (l.drop k) k=qq p l 0∧σ=[(0,vl (jt) l),(1, .func fid caps),(7,vnat l.length),(8,vnat k)]∧S'=St S [] []) l.length ?_ ?_
 ·exact ⟨0,by omega,rfl,rfl,by simp [Fr.only],rfl⟩
 ·rintro c σ T ⟨k,hk,rfl,hd,rfl,rfl⟩
  by_cases hkt:k<l.length
  ·have hst:qq p (l.drop k) k=if p l[k] then (k:Int) else qq p (l.drop (k+1)) (k+1):=by rw [List.drop_eq_getElem_cons hkt,qq]
   have hw:=jn hkt hl
   repeat (first|refine QG ?_|refine QY ?_ (r:=by conv=>lhs;simp[-List.map_set,QV,hkt]))
   repeat refine QS ?_
   refine QP ?_ (r:=by conv=>lhs;simp[-List.map_set,QV,hkt])
   refine qO rfl hc rfl (h _ (List.getElem_mem hkt)) ?_
   refine QM (by conv=>lhs;simp[-List.map_set,QV]) ?_
   refine QN ?_
   cases hp:p l[k] with
   | true =>
    rw [hp] at hst
    repeat (first|refine QG ?_|refine QY ?_ (r:=by conv=>lhs;simp[-List.map_set,QV,hp]))
    exact ja hwf (by rw [←hd,hst]; rfl) rfl
   | false =>
    rw [hp] at hst
    repeat (first|refine QG ?_|refine QY ?_ (r:=by conv=>lhs;simp[-List.map_set,QV,hp]))
    show jv _ _ _ _ _ _ _
    exact again ⟨Nat.sub_lt_sub_left hkt (Nat.lt_succ_self k),k+1,hkt,rfl,by rw [←hd,hst]; rfl,by simp [Fr.only,hw],rfl⟩
  ·have e:l.drop k=[]:=by rw [List.drop_eq_nil_iff]; omega
   rw [e] at hd
   repeat (first|refine QG ?_|refine QY ?_ (r:=by conv=>lhs;simp[-List.map_set,QV,hkt]))
   exact ja hwf (by rw [←hd]; rfl) rfl
theorem AnyN_v (l:List (Ss.Ins)) (p:Ss.Ins→Bool) (fid:FuncId) (caps:List V) (hc:jU Tryz.prog fid=true) (hl:l.length<2^63) (h : ∀ x∈l,VPure Tryz.prog fid ([jt x]++caps) (.bool (p x))) :
  VPure Tryz.prog 131 [vl (jt) l, .func fid caps] (.bool (l.any p)):=by
 intro S
 refine jb (c:=jf Tryz.f131) Tryz.func131 rfl rfl (by simp [Tryz.ntmps131]) ?_
 rw [Tryz.ntmps131]
 intro hwf
 rw [←zM p l 0]
 repeat (first|refine QG ?_|refine QY ?_)
 repeat refine QS ?_
 refine QP ?_
 refine jo rfl (IndexN_v l p fid caps hc hl h) ?_
 refine QM (by conv=>lhs;simp[-List.map_set,QV]) ?_
 refine QN ?_
 repeat (first|refine QG ?_|refine QY ?_)
 exact ja hwf rfl rfl
end Go.Vw
