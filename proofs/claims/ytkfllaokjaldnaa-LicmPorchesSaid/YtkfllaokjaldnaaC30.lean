import Derived.Test.YtkfllaokjaldnaaC11
import Derived.Test.YtkfllaokjaldnaaC24
import Derived.Test.YtkfllaokjaldnaaC29
import Derived.Test.YtkfllaokjaldnaaC28
import Derived.Test.YtkfllaokjaldnaaC26
/-
  Part of the proof (texts LLoops, LRLoops, LAll, LRunP, LAliveP, LThaw).
-/
set_option linter.unusedVariables false
set_option linter.unusedSimpArgs false
namespace Go.Vw
open Go.Proofs Go.RowKit
set_option maxRecDepth 10000
set_option maxHeartbeats 16000000
def jJ (x:Nat × List Nat):V := .agg [vnat x.1,vl vnat x.2]
theorem KU (x:Nat × List Nat):(jJ x).cells=[vnat x.1,vl vnat x.2]:=by simp [jJ,V.cells]
theorem Zo (x:Nat × List Nat):(jJ x).cells.length=2:=by rw [KU]; rfl
theorem Jd (x:Nat × List Nat):(jJ x).closed=true:=rfl
theorem ju (f:Nat→Nat) (ls:List (Nat × List Nat)):V.renL f (jt jJ ls)=jt jJ ls:=Zh Jd f ls
theorem jv (p:Nat→Bool) (ls:List (Nat × List Nat)):V.idsL p (jt jJ ls)=true:=Zj Jd p ls
theorem zm (f:Nat→Nat) (n:Nat) (b:Bool):V.renL f (List.replicate n (V.bool b))=List.replicate n (V.bool b):=by
 have:=YN f (List.replicate n b)
 simpa using this
theorem zq (p:Nat→Bool) (n:Nat) (b:Bool):V.idsL p (List.replicate n (V.bool b))=true:=by
 have:=Zg p (List.replicate n b)
 simpa using this
theorem few {u t:Nat} (hu:u≤256) (ht:t≤1048576):u*(1048576+1)+t≤1073741824:=by omega
theorem few_len {M:Nat} {inn:List Bool} {td:List Nat} {n:Nat} (h:G.todoM M inn (td++[n])≤1073741824):td.length+1≤1073741824:=by
 simp only [G.todoM,List.length_append,List.length_cons,List.length_nil] at h
 have:=Nat.zero_le (G.unmet inn*(M+1))
 omega
theorem few_less {M:Nat} {inn:List Bool} {td:List Nat} {n:Nat}:G.todoM M inn td<G.todoM M inn (td++[n]):=by
 simp [G.todoM]
def Few (inn:List Bool) (todo:List Nat):Prop:=G.todoM (1048576) inn todo≤1073741824
theorem gLoopsErr_v (g:List (List Int)) (h:Fits g) (hr:G.right g=false):VPure Try.prog 17 [vl (vl vint) g] (.tuple [vl jJ [],vint 1]):=by
 intro S
 have e:G.err g=1:=by simp [G.err,hr]
 refine ja (c:=jf Try.f17) Try.func17 rfl rfl (by simp [Try.ntmps17]) ?_
 rw [Try.ntmps17]
 intro hwf
 repeat (first|refine QG ?_|refine QY ?_)
 repeat refine QS ?_
 refine QP ?_
 refine jm rfl (JR g h) ?_
 refine QM (by conv=>lhs;simp[-List.map_set,QV]) ?_
 refine QN ?_
 repeat (first|refine QG ?_|refine QY ?_ (r:=by conv=>lhs;simp[-List.map_set,QV,e]))
 exact jp (l:=[]) hwf ((Ghost.tuple [] [vint 1] (Ghost.nils_list _)).toB _) rfl
theorem gLoops_v (g:List (List Nat)) (hg:G.Ok g) (near:List Int) (fr:List (List Nat)) (cn:VPure Try.prog 38 [vl (vl vnat) g] (.tuple [vl vint near,vint 0])) (cf:VPure Try.prog 39 [vl (vl vnat) g] (.tuple [vl (vl vnat) fr,vint 0]))
  (hnl:near.length=g.length) (hfl:fr.length=g.length) (hfm : ∀ r∈fr,r.length≤1048576) (hfe : ∀ r∈fr, ∀ x∈r,x<g.length) :
  VPure Try.prog 17 [vl (vl vnat) g] (.tuple [vl jJ (G.loopsTo near fr g.length g.length),vint 0]):=by
 intro S
 refine ja (c:=jf Try.f17) Try.func17 rfl rfl (by simp [Try.ntmps17]) ?_
 rw [Try.ntmps17]
 intro hwf
 have hm:=hg.max
 have hp:=hg.pos
 have hb1:g.length*1≤140737488355328:=by omega
 have hb0:g.length≤140737488355328:=by omega
 repeat (first|refine QG ?_|refine QY ?_)
 repeat refine QS ?_
 refine QP ?_
 refine jm rfl (cn) ?_
 refine QM (by conv=>lhs;simp[-List.map_set,QV]) ?_
 refine QN ?_
 repeat (first|refine QG ?_|refine QY ?_)
 repeat refine QS ?_
 refine QP ?_
 refine jm rfl (cf) ?_
 refine QM (by conv=>lhs;simp[-List.map_set,QV]) ?_
 refine QN ?_
 repeat refine QS ?_
 refine QP ?_
 refine QN ?_
 refine Ja 8 2 rfl (by conv=>lhs; simp [Fr.set]) ?_
 repeat (first|refine QG ?_|refine QY ?_)
 repeat refine QS ?_
 refine je [0,4,6,8,32,33] rfl (fun c σ S' => ∃ h:Nat,h≤g.length∧c=g.length-h∧σ=[(0,vl (vl vnat) g),(4,vl vint near),(6,vl (vl vnat) fr),(8, .slice (lid S.nx 0) 0 (G.loopsTo near fr g.length h).length),(32,vnat g.length),(33,vnat h)]∧S'=St S [] [some (2,jt jJ (G.loopsTo near fr g.length h))]) g.length ?_ ?_
 ·exact ⟨0,by omega,rfl,by simp [Fr.only,G.loopsTo],by simp [G.loopsTo,jt]⟩
 ·rintro c σ T ⟨h,hh,rfl,rfl,rfl⟩
  by_cases hht:h<g.length
  ·have hw:IntKind.i64.wrap ((h:Int)+1)=(h:Int)+1:=wrap_i64 (by omega) (by omega)
   have hhn:h<near.length:=by omega
   have hhf:h<fr.length:=by omega
   have hnd:near.getD h 0=near[h]:=by simp [hhn]
   have hfd:fr.getD h []=fr[h]:=by simp [hhf]
   have hrow:=hfm _ (List.getElem_mem hhf)
   have hrowe:=hfe _ (List.getElem_mem hhf)
   have hst:G.loopsTo near fr g.length (h+1)=if (0<h∧near[h]<0)∨G.backs near h fr[h]=[] then G.loopsTo near fr g.length h else G.loopsTo near fr g.length h++[(h,G.picked (G.loopIn fr h (G.backs near h fr[h]) g.length) g.length)]:=by
    simp only [G.loopsTo,hnd,hfd]
   have hlo:=G.loopsTo_len near fr g.length h
   generalize G.loopsTo near fr g.length h=ls at *
   by_cases hskip:0<h∧near[h]<0
   ·rw [if_pos (.inl hskip)] at hst
    obtain ⟨h1,h2⟩:=hskip
    have h1':(0:Int)<(h:Int):=by omega
    repeat (first|refine QG ?_|refine QY ?_ (r:=by conv=>lhs;simp[-List.map_set,QV,hht,hhn,h1,h1',h2]))
    show jC _ _ _ _ _ _ _
    exact again ⟨Nat.sub_lt_sub_left hht (Nat.lt_succ_self h),h+1,hht,rfl,by rw [hst]; simp [Fr.only,hw],by rw [hst]⟩
   ·have hge:0<h → ¬ near[h]<0:=fun h1 h2=>hskip ⟨h1,h2⟩
    repeat (first|refine QG ?_|refine QY ?_ (r:=by conv=>lhs;simp[-List.map_set,QV,hht]))
    repeat refine QS ?_
    refine Zz (0<h) [0,4,6,8,9,32,33,44] rfl (by conv=>lhs; reduce) (fun hyes=>⟨_,by conv=>lhs; simp [-List.map_set,QV,hyes,hhn,(hge hyes)],by conv=>lhs; simp [Fr.only]⟩) (fun hno=>⟨_,by conv=>lhs; simp [-List.map_set,QV,hno,hhn],by conv=>lhs; simp [Fr.only]⟩) ?_
    repeat (first|refine QG ?_|refine QY ?_ (r:=by conv=>lhs;simp[-List.map_set,QV,hb1,hb0,hhf]))
    refine Ja 11 1 rfl (by conv=>lhs; simp [Fr.set]) ?_
    repeat (first|refine QG ?_|refine QY ?_ (r:=by conv=>lhs;simp[-List.map_set,QV,hhf]))
    generalize hts:G.backs near h fr[h]=ts at *
    have htsl:ts.length≤fr[h].length:=by rw [←hts]; exact List.length_filter_le _ _
    repeat refine QS ?_
    refine je [0,4,6,8,9,10,11,32,33,51,52,53] rfl (fun c σ S' => ∃ (k:Nat) (todo:List Nat),k≤fr[h].length∧c=fr[h].length-k∧todo++G.backs near h (fr[h].drop k)=ts∧σ=[(0,vl (vl vnat) g),(4,vl vint near),(6,vl (vl vnat) fr),(8, .slice (lid S.nx 0) 0 ls.length),(9,vnat h),(10, .slice (lid S.nx 1) 0 g.length),(11, .slice (lid S.nx 2) 0 todo.length),(32,vnat g.length),(33,vnat h),(51,vl vnat fr[h]),(52,vnat fr[h].length),(53,vnat k)]∧S'=St S [] [some (2,jt jJ ls),some (1,(List.replicate g.length false).map V.bool),some (1,todo.map vnat)]) fr[h].length ?_ ?_
    ·exact ⟨0,[],by omega,rfl,by simpa using hts,by simp [Fr.only],by simp⟩
    ·rintro c σ T ⟨k,todo,hk,rfl,hdo,rfl,rfl⟩
     have htdl:todo.length≤ts.length:=by rw [←hdo]; simp
     by_cases hkt:k<fr[h].length
     ·have hwk:IntKind.i64.wrap ((k:Int)+1)=(k:Int)+1:=wrap_i64 (by omega) (by omega)
      rw [List.drop_eq_getElem_cons hkt] at hdo
      generalize hpe:fr[h][k]=p at hdo
      have hd:=Zx near h p (by omega)
      repeat (first|refine QG ?_|refine QY ?_ (r:=by conv=>lhs;simp[-List.map_set,QV,hkt,hpe]))
      repeat refine QS ?_
      refine QP ?_
      refine jm rfl (hd) ?_
      refine QM (by conv=>lhs;simp[-List.map_set,QV]) ?_
      refine QN ?_
      cases hb:G.dominates near h p with
      | true =>
       have hc8:(todo.length+1)*8≤140737488355328:=by omega
       have hc1:todo.length+1≤140737488355328:=by omega
       have hdo':(todo++[p])++G.backs near h (fr[h].drop (k+1))=ts:=by
        rw [←hdo]; simp [G.backs,hb]
       repeat (first|refine QG ?_|refine QY ?_ (r:=by conv=>lhs;simp[-List.map_set,QV,hb,hc8,hc1]))
       refine qn [0,1,4] (by conv=>lhs; simp [Fr.only]) hwf (by decide) (by simp [-List.map_set,ju,jv,zm,zq]) (by conv=>lhs; simp [-List.map_set,ju,jv,zm,zq]) (by conv=>lhs; simp [-List.map_set,ju,jv,zm,zq]) (by conv=>lhs; simp [-List.map_set,ju,jv,zm,zq]) ⟨?_,k+1,todo++[p],hkt,rfl,hdo',by simp [hwk],by simp⟩
       omega
      | false =>
       have hdo':todo++G.backs near h (fr[h].drop (k+1))=ts:=by
        rw [←hdo]; simp [G.backs,hb]
       repeat (first|refine QG ?_|refine QY ?_ (r:=by conv=>lhs;simp[-List.map_set,QV,hb]))
       show jC _ _ _ _ _ _ _
       exact again ⟨Nat.sub_lt_sub_left hkt (Nat.lt_succ_self k),k+1,todo,hkt,rfl,hdo',by simp [Fr.only,hwk],by simp⟩
     ·have hke:k=fr[h].length:=by omega
      subst hke
      simp only [List.drop_length] at hdo
      have hts':todo=ts:=by simpa [G.backs] using hdo
      subst hts'
      by_cases hemp:todo=[]
      ·rw [if_pos (.inr hemp)] at hst
       subst hemp
       repeat (first|refine QG ?_|refine QY ?_ (r:=by conv=>lhs;simp[-List.map_set,QV,hkt]))
       refine qn [0] (by conv=>lhs; simp [Fr.only]) hwf (by decide) (by simp [-List.map_set,ju,jv,zm,zq]) (by conv=>lhs; simp [-List.map_set,ju,jv,zm,zq]) (by conv=>lhs; simp [-List.map_set,ju,jv,zm,zq]) (by conv=>lhs; simp [-List.map_set,ju,jv,zm,zq]) ⟨?_,h+1,hht,rfl,by rw [hst]; simp [hw],by rw [hst]⟩
       omega
      ·rw [if_neg (by rintro (h1 | h1); exact hskip h1; exact hemp h1)] at hst
       have hlen0 : ¬ todo.length=0:=fun e=>hemp (List.eq_nil_of_length_eq_zero e)
       have hlt : ∀ t∈todo,t<g.length:=fun t ht=>hrowe t (by rw [←hts] at ht; exact (List.mem_filter.1 ht).1)
       have hS0:=G.Srch.start (fr:=fr) hht hlt
       repeat (first|refine QG ?_|refine QY ?_ (r:=by conv=>lhs;simp[-List.map_set,QV,hkt,hlen0,hht]))
       have hum:G.unmet ((List.replicate g.length false).set h true)≤g.length:=by
        have:=List.count_le_length (a:=false) (l:=(List.replicate g.length false).set h true)
        simpa [G.unmet] using this
       have hm0:G.todoM (1048576) ((List.replicate g.length false).set h true) todo≤1073741824:=by
        exact few (by omega) (by omega)
       repeat refine QS ?_
       refine je [0,4,6,8,9,10,11,32,33] rfl (fun c σ S' => ∃ (inn:List Bool) (td:List Nat),G.Srch fr h todo g.length inn td∧c=G.todoM (1048576) inn td∧c≤1073741824∧σ=[(0,vl (vl vnat) g),(4,vl vint near),(6,vl (vl vnat) fr),(8, .slice (lid S.nx 0) 0 ls.length),(9,vnat h),(10, .slice (lid S.nx 1) 0 g.length),(11, .slice (lid S.nx 2) 0 td.length),(32,vnat g.length),(33,vnat h)]∧S'=St S [] [some (2,jt jJ ls),some (1,inn.map V.bool),some (1,td.map vnat)]) (G.todoM (1048576) ((List.replicate g.length false).set h true) todo) ?_ ?_
       ·exact ⟨_,_,hS0,rfl,hm0,by simp [Fr.only],by simp [List.map_set]⟩
       ·rintro c σ T ⟨inn,td,hS,rfl,hcm,rfl,rfl⟩
        have hil:=hS.len
        rcases List.eq_nil_or_concat td with rfl | ⟨td,n,rfl⟩
        ·have hie:=G.loopIn_eq hS
         rw [←hie] at hst
         repeat refine QS ?_
         refine QP ?_
         refine QN ?_
         repeat refine QS ?_
         refine jN rfl rfl rfl ?_
         repeat refine QS ?_
         refine qo 4 rfl rfl ?_
         repeat refine QS ?_
         refine QP ?_
         refine QN ?_
         apply jx
         ·exact Reach.voidCell 1 (k:=3) (i:=1) (by simp) rfl rfl
         simp only [List.cons_append,List.nil_append,List.set_cons_succ,List.set_cons_zero,List.length_cons,List.length_nil,Nat.reduceAdd]
         repeat (first|refine QG ?_|refine QY ?_)
         repeat refine QS ?_
         refine je [0,4,6,8,15,32,33,102,103,104] rfl (fun c σ S' => ∃ k:Nat,k≤g.length∧c=g.length-k∧σ=[(0,vl (vl vnat) g),(4,vl vint near),(6,vl (vl vnat) fr),(8, .slice (lid S.nx 0) 0 ls.length),(15, .ptr (lid S.nx 3) 0),(32,vnat g.length),(33,vnat h),(102, .slice (lid S.nx 1) 0 g.length),(103,vnat g.length),(104,vnat k)]∧S'=St S [] [some (2,jt jJ ls),some (1,inn.map V.bool),some (1,[]),some (2,[vnat h, .slice (lid S.nx 4) 0 (G.picked inn k).length]),some (1,(G.picked inn k).map vnat)]) g.length ?_ ?_
         ·exact ⟨0,by omega,rfl,by simp [Fr.only],by simp [G.picked]⟩
         ·rintro c σ T ⟨k,hk,rfl,rfl,rfl⟩
          have hpl:=G.picked_len inn k
          by_cases hkt:k<g.length
          ·have hwk:IntKind.i64.wrap ((k:Int)+1)=(k:Int)+1:=wrap_i64 (by omega) (by omega)
           have hki:k<inn.length:=by omega
           obtain ⟨x,hx⟩ : ∃ x,inn[k]=x:=⟨_,rfl⟩
           have hxd:inn.getD k false=x:=by simp [hki,hx]
           have hps:G.picked inn (k+1)=if x=true then G.picked inn k++[k] else G.picked inn k:=by simp only [G.picked,hxd]
           have hc8:((G.picked inn k).length+1)*8≤140737488355328:=by omega
           have hc1:(G.picked inn k).length+1≤140737488355328:=by omega
           generalize G.picked inn k=pk at *
           cases x with
           | true =>
            repeat (first|refine QG ?_|refine QY ?_ (r:=by conv=>lhs;simp[-List.map_set,QV,hkt,hki,hx,hc8,hc1]))
            refine qn [0,1,2,3,6] (by conv=>lhs; simp [Fr.only]) hwf (by decide) (by simp [-List.map_set,ju,jv]) (by conv=>lhs; simp [-List.map_set,ju,jv]) (by conv=>lhs; simp [-List.map_set,ju,jv]) (by conv=>lhs; simp [-List.map_set,ju,jv]) ⟨?_,k+1,hkt,rfl,by simp [hwk],by rw [hps]; simp⟩
            omega
           | false =>
            repeat (first|refine QG ?_|refine QY ?_ (r:=by conv=>lhs;simp[-List.map_set,QV,hkt,hki,hx,hc8,hc1]))
            show jC _ _ _ _ _ _ _
            exact again ⟨Nat.sub_lt_sub_left hkt (Nat.lt_succ_self k),k+1,hkt,rfl,by simp [Fr.only,hwk],by rw [hps]; simp⟩
          ·have hke:k=g.length:=by omega
           subst hke
           generalize G.picked inn g.length=pk at *
           repeat refine QS ?_
           refine QP ?_ (r:=by conv=>lhs;simp[-List.map_set,QV,hkt])
           refine QN ?_
           repeat refine QS ?_
           refine jN rfl rfl rfl ?_
           repeat refine QS ?_
           refine qo 6 rfl rfl ?_
           apply jx
           ·exact Reach.frzCell (k:=3) (j:=4) (i:=1) (n:=pk.length) (cells':=pk.map vnat) (by omega) (by simp) (by simp) rfl rfl rfl (qi vnat (fun _=>rfl) _) (by simp)
           simp only [List.set_cons_succ,List.set_cons_zero]
           have hfl2:ls.length*2=(jt jJ ls).length:=by rw [Zi Zo]
           have hc8:(ls.length+1)*32≤140737488355328:=by omega
           have hc1:ls.length+1≤140737488355328:=by omega
           have hsnoc:jt jJ (ls++[(h,pk)])=jt jJ ls++[vnat h,V.list (pk.map vnat)]:=by rw [Ka,KU]; rfl
           repeat (first|refine QG ?_|refine QY ?_ (r:=by conv=>lhs;simp[-List.map_set,QV,hfl2,hc8,hc1,rep0]))
           refine qn [6] (by conv=>lhs; simp [Fr.only]) hwf (by decide) (by simp [-List.map_set,ju,jv]) (by conv=>lhs; simp [-List.map_set,ju,jv]) (by conv=>lhs; simp [-List.map_set,ju,jv]) (by conv=>lhs; simp [-List.map_set,ju,jv]) ⟨?_,h+1,hht,rfl,by rw [hst]; simp [hw],by rw [hst,hsnoc]; simp⟩
           omega
        ·rw [List.concat_eq_append] at *
         have hn:=hS.lt n (by simp)
         have hni:n<inn.length:=by omega
         have hnf:n<fr.length:=by omega
         have hfn:fr.getD n []=fr[n]:=by simp [hnf]
         have hrn:=hfm _ (List.getElem_mem hnf)
         have htl:td.length+1≤1073741824:=few_len hcm
         have hw1:IntKind.i64.wrap ((td.length:Int)+1-1)=(td.length:Int):=by
          rw [wrap_i64 (by omega) (by omega)]; omega
         have hw2:IntKind.i64.wrap (td.length:Int)=(td.length:Int):=wrap_i64 (by omega) (by omega)
         have h0:(0:Int)<(td.length:Int)+1:=by omega
         have h1:(td.length:Int)<(td.length:Int)+1:=by omega
         have h2:(td.length:Int)≤(td.length:Int)+1:=by omega
         have hsub : ∀ t∈td,t∈td++[n]:=fun t ht=>by simp [ht]
         have hre : ∀ t∈td++[n],t=n∨t∈td:=fun t ht=>by
          rcases List.mem_append.1 ht with h | h
          ·exact .inr h
          ·simp at h; exact .inl h
         repeat refine QS ?_
         refine QP ?_ (r:=by conv=>lhs;simp[-List.map_set,QV,h0])
         refine QN ?_
         repeat refine QS ?_
         refine qm rfl rfl rfl ?_
         repeat refine QS ?_
         refine jK rfl ?_
         repeat refine QS ?_
         refine jR 5 rfl rfl ?_
         repeat refine QS ?_
         refine QP ?_ (r:=by conv=>lhs;simp[-List.map_set,QV,hw1,hw2,h0,h1])
         refine QN ?_
         repeat refine QS ?_
         refine QP ?_ (r:=by conv=>lhs;simp[-List.map_set,QV,hw1,hw2,h0,h1,h2])
         refine QN ?_
         refine vw_trim 11 td.length rfl (by simp) rfl (by conv=>lhs; simp [List.set_cons_zero,List.set_cons_succ]) ?_
         obtain ⟨x,hx⟩ : ∃ x,inn[n]=x:=⟨_,rfl⟩
         have hxd:inn.getD n false=x:=by simp [hni,hx]
         cases x with
         | true =>
          have hS':=hS.seen hxd hsub hre
          repeat (first|refine QG ?_|refine QY ?_ (r:=by conv=>lhs;simp[-List.map_set,QV,hn,hni,hx]))
          refine qn [0,1,2] (by conv=>lhs; simp [Fr.only]) hwf (by decide) (by simp [-List.map_set,ju,jv]) (by conv=>lhs; simp [-List.map_set,ju,jv]) (by conv=>lhs; simp [-List.map_set,ju,jv]) (by conv=>lhs; simp [-List.map_set,ju,jv]) ⟨?_,inn,td,hS',rfl,Nat.le_trans (Nat.le_of_lt few_less) hcm,by simp,by simp⟩
          exact few_less
         | false =>
          have hS':=hS.take (todo':=td++fr[n]) (by simp) (by rw [hfn]; exact hfe _ (List.getElem_mem hnf)) hxd (fun t ht=>by
           rcases List.mem_append.1 ht with h | h
           ·exact .inl (by simp [h])
           ·exact .inr (by rw [hfn]; exact h)) (fun t ht=>by
           rcases hre t ht with h | h
           ·exact .inl h
           ·exact .inr (by simp [h])) (fun t ht=>by rw [hfn] at ht; simp [ht])
          have hmm:=G.todoM_take (M:=1048576) (todo:=td++[n]) (todo':=td++fr[n]) hni hx hrn (by simp; omega)
          have hc8:(td.length+fr[n].length)*8≤140737488355328:=by omega
          have hc1:td.length+fr[n].length≤140737488355328:=by omega
          repeat (first|refine QG ?_|refine QY ?_ (r:=by conv=>lhs;simp[-List.map_set,QV,hn,hni,hx,hnf,YV,nc_vnat,hc8,hc1,flatC_vnat]))
          refine qn [0,1,3] (by conv=>lhs; simp [Fr.only]) hwf (by decide) (by simp [-List.map_set,ju,jv]) (by conv=>lhs; simp [-List.map_set,ju,jv]) (by conv=>lhs; simp [-List.map_set,ju,jv]) (by conv=>lhs; simp [-List.map_set,ju,jv]) ⟨?_,_,_,hS',rfl,Nat.le_trans (Nat.le_of_lt hmm) hcm,by simp,by simp⟩
          exact hmm
  ·have hhe:h=g.length:=by omega
   subst hhe
   repeat (first|refine QG ?_|refine QY ?_ (r:=by conv=>lhs;simp[-List.map_set,QV,hht]))
   exact jp hwf ((Ghost.tuple [] [vint 0] (frzSt (k:=0) Zo Jd _ (by simp) rfl)).toB _) rfl
end Go.Vw

namespace Go.Vw
open Go.Proofs Go.RowKit
set_option maxRecDepth 10000
set_option maxHeartbeats 16000000
end Go.Vw

namespace Go.Vw
open Go.Proofs Go.RowKit
set_option maxRecDepth 10000
set_option maxHeartbeats 8000000
namespace G
theorem Jn (near:List Int) (fr:List (List Nat)) (N:Nat) : ∀ k, ∀ x∈loopsTo near fr N k,x.2.length≤N
 | 0,x,h=>by simp [loopsTo] at h
 | k+1,x,h=>by
  simp only [loopsTo] at h
  split at h
  ·exact Jn near fr N k x h
  ·rcases List.mem_append.1 h with h | h
   ·exact Jn near fr N k x h
   ·simp at h
    rw [h]
    exact picked_len _ N
noncomputable def loopsI (g:List (List Int)):List (Nat × List Nat):=if right g then loopsTo (rNear (nats g)) (froms (nats g)) (nats g).length (nats g).length else []
theorem loopsI_len (g:List (List Int)):(loopsI g).length≤256:=by
 simp only [loopsI]
 split
 ·rename_i h
  have:=(right_ok h).max
  have:=loopsTo_len (rNear (nats g)) (froms (nats g)) (nats g).length (nats g).length
  omega
 ·simp
theorem loopsI_nodes (g:List (List Int)) : ∀ x∈loopsI g,x.2.length≤256:=by
 simp only [loopsI]
 split
 ·rename_i h
  have h1:=(right_ok h).max
  intro x hx
  have:=Jn _ _ _ _ x hx
  omega
 ·simp
theorem froms_few {g:List (List Nat)} (hg:Ok g) : ∀ r∈froms g,r.length≤1048576:=by
 intro r hr
 have k1:=Ks _ _ r hr
 have k2:=edges_len hg.row 0
 have k3:=hg.max
 rw [total_rep] at k1
 omega
theorem froms_lt {g:List (List Nat)} (hg:Ok g) : ∀ r∈froms g, ∀ x∈r,x<g.length:=by
 intro r hr x hx
 obtain ⟨i,hi,rfl⟩:=List.getElem_of_mem hr
 have hig:i<g.length:=by rw [froms_length] at hi; exact hi
 have:=(mem_froms hg i x hig).1 (by simpa [hi] using hx)
 exact this.1
end G
theorem LoopsAll_v (g:List (List Int)) (h:Fits g):VPure Try.prog 17 [vl (vl vint) g] (.tuple [vl jJ (G.loopsI g),vint (G.err g)]):=by
 cases hr:G.right g with
 | false =>
  simp only [G.loopsI,G.err,hr]
  exact gLoopsErr_v g h hr
 | true =>
  have c1:=JR g h
  have c2:=FromAll_v g h
  simp only [G.loopsI,G.nearI,G.fromI,G.err,hr,if_true] at c1 c2 ⊢
  rw [G.right_enc hr] at c1 c2 ⊢
  have hg:=G.right_ok hr
  exact gLoops_v (G.nats g) hg _ _ c1 c2 (G.rNear_ok hg).len (G.froms_length _) (G.froms_few hg) (G.froms_lt hg)
end Go.Vw

namespace Ss
open Go.Vw.G
def tabOf (hm:List Int) (v:Int):Int:=hm.getD v.toNat 0
theorem licTo_more {e:Env} {f:Fn} (h:check e f=true) {k:Nat} (hk:wt f<k) (j:Nat):Kx (k+j) f=Kx k f:=by
 have add : ∀ (k:Nat) (f:Fn),Kx (k+j) f=Kx j (Kx k f):=by
  intro k
  induction k with
  | zero=>intro f; rw [Nat.zero_add]; rfl
  | succ k ih =>
   intro f
   rw [show k+1+j=k+j+1 by omega]
   cases hf:first f.blocks (qj f) (lps f.blocks) with
   | none=>rw [Jo _ hf,Jo _ hf,Jo _ hf]
   | some m =>
    obtain ⟨p,n,i⟩:=m
    rw [Yj _ hf,Yj _ hf,ih]
 rw [add,Jo _ (lic_end k f h hk)]
theorem licF_step {e:Env} {f:Fn} (h:check e f=true) {p n i:Nat} (hf:first f.blocks (qj f) (lps f.blocks)=some (p,n,i)):licF (moved f p n i)=licF f:=by
 obtain ⟨h1,h2,h3⟩:=step_ok h hf
 unfold licF
 rw [Yj _ hf]
 obtain ⟨j,hj⟩ : ∃ j,wt f=wt (moved f p n i)+1+j:=⟨wt f-(wt (moved f p n i)+1),by omega⟩
 rw [hj]
 exact (licTo_more h1 (Nat.lt_succ_self _) j).symm
structure LOk (e:Env) (f g:Fn) (hm:List Int):Prop where
 chk:check e g=true
 fits:g.Fits
 fin:licF g=licF f
 sig:g.sig=f.sig
 types:g.types=f.types
 succs:Ss.succs g.blocks=Ss.succs f.blocks
 len:hm.length=f.types.length
 home : ∀ v∈allL g.blocks,tabOf hm v=qj g v
theorem LOk.first {e:Env} {f g:Fn} {hm:List Int} (h:LOk e f g hm):Ss.first g.blocks (tabOf hm) (lps f.blocks)=Ss.first g.blocks (qj g) (lps g.blocks):=by
 have e1:lps g.blocks=lps f.blocks:=by unfold lps; rw [h.succs]
 rw [e1]
 refine Zl (fun n x hx a ha => ?_) _
 have hb:g.blocks.getD n default∈g.blocks∨g.blocks.getD n default=default:=by
  rw [List.getD_eq_getElem?_getD]
  cases hn:g.blocks[n]? with
  | none=>exact .inr rfl
  | some b=>exact .inl (List.mem_of_getElem? hn)
 rcases hb with hb | hb
 ·exact h.home a (arg_made h.chk _ hb x hx a ha)
 ·rw [hb] at hx
  cases hx
theorem LOk.start {e:Env} {f:Fn} (h:check e f=true) (hf:f.Fits):LOk e f f (homesI f):=⟨h,hf,rfl,rfl,rfl,rfl,homesI_len f,fun v hv=>homes_home h v hv⟩
theorem LOk.end {e:Env} {f g:Fn} {hm:List Int} (h:LOk e f g hm) (hf:Ss.first g.blocks (tabOf hm) (lps f.blocks)=none):g=licF f:=by
 rw [h.first] at hf
 have:=Jo (wt g+1) hf
 rw [←h.fin]; exact this.symm
theorem LOk.step {e:Env} {f g:Fn} {hm:List Int} (h:LOk e f g hm) {p n i:Nat} (hf:Ss.first g.blocks (tabOf hm) (lps f.blocks)=some (p,n,i)) :
  ∃ (hp:p<g.blocks.length) (hn:n<g.blocks.length) (hi:i<g.blocks[n].code.length) (o:Nat),p≠n∧g.blocks[n].code[i].outs=[(o:Int)]∧o<hm.length∧moveAt g.blocks p n i=(g.blocks.set n (cutAt g.blocks[n] i)).set p (endWith g.blocks[p] g.blocks[n].code[i])∧LOk e f (moved g p n i) (hm.set o (p:Int))∧wt (moved g p n i)<wt g:=by
 rw [h.first] at hf
 obtain ⟨bp,bn,x,hm',hx,hc,hr⟩:=jaO h.chk hf
 obtain ⟨s1,s2,s3⟩:=step_ok h.chk hf
 have hd:=check_dok h.chk
 obtain ⟨hp,ep⟩:=List.getElem?_eq_some_iff.1 hm'.hp
 obtain ⟨hn,en⟩:=List.getElem?_eq_some_iff.1 hm'.hn
 obtain ⟨hi,ei⟩:=List.getElem?_eq_some_iff.1 hm'.hi
 have hbm:bn∈g.blocks:=List.mem_of_getElem? hm'.hn
 have hxm:x∈bn.code:=List.mem_of_getElem? hm'.hi
 obtain ⟨o,ho⟩:=hd.one bn hbm x hxm hx
 have hoi:=hd.outs bn hbm x hxm o (by rw [ho]; simp)
 rw [h.types] at hoi
 have heq:=hm'.eq
 subst en
 subst ep
 subst ei
 refine ⟨hp,hn,hi,o.toNat,hm'.ne,by rw [ho]; congr 1; have:=hoi.1; omega,by rw [h.len]; have:=hoi.1; have:=hoi.2; omega,heq, ?_,s3⟩
 refine ⟨s1,step_fits h.chk h.fits hf,(licF_step h.chk hf).trans h.fin,h.sig,h.types,s2.trans h.succs,by rw [List.length_set]; exact h.len,fun v hv => ?_⟩
 have hv2:v∈allL g.blocks:=hm'.all.mem_iff.1 hv
 have hvi:=all_in hd v hv2
 rw [h.types] at hvi
 rw [move_home h.chk hm' s1 v hv2,ho]
 unfold tabOf
 by_cases e1:v=o
 ·subst e1
  rw [if_pos (by simp),List.getD_eq_getElem?_getD,List.getElem?_set_self (by rw [h.len]; have:=hvi.1; have:=hvi.2; omega)]; rfl
 ·rw [if_neg (by simpa using e1),List.getD_eq_getElem?_getD,List.getElem?_set_ne (by have:=hvi.1; have:=hoi.1; omega), ←List.getD_eq_getElem?_getD]
  exact h.home v hv2
end Ss

namespace Ss
open Go.Vw.G
def smallL:Fn:=⟨⟨[127,127],[]⟩,[127,127,127],[⟨[0,1],[⟨258,0,[],[]⟩],⟨1,0,[⟨1,[]⟩],[]⟩⟩,⟨[],[⟨258,0,[],[]⟩,⟨106,0,[0,1],[2]⟩],⟨1,0,[⟨1,[]⟩],[]⟩⟩]⟩
def smallL':Fn:=⟨⟨[127,127],[]⟩,[127,127,127],[⟨[0,1],[⟨258,0,[],[]⟩,⟨106,0,[0,1],[2]⟩],⟨1,0,[⟨1,[]⟩],[]⟩⟩,⟨[],[⟨258,0,[],[]⟩],⟨1,0,[⟨1,[]⟩],[]⟩⟩]⟩
def envL:Env:=⟨[],0,[],[],false⟩
theorem YG:defsOf smallL=some [⟨true,0, -1⟩,⟨true,0, -1⟩,⟨true,1,1⟩]:=by decide
theorem smallL_defs':defsOf smallL'=some [⟨true,0, -1⟩,⟨true,0, -1⟩,⟨true,0,1⟩]:=by decide
theorem JG:succs smallL.blocks=[[1],[1]]:=by decide
theorem jas:succs smallL'.blocks=[[1],[1]]:=by decide
theorem smallL_near:nearI [[1],[1]]=[-1,0]:=by decide
theorem smallL_rings:rings smallL.blocks [[1],[1]]=false:=by
 simp [rings,smallL,tickB,ringM,ringW,List.range_succ]
theorem smallL_shape:shapeOk smallL=true:=by
 have h1:Go.Vw.G.right [[1],[1]]=true:=by decide
 have h2:Go.Vw.G.ordI [[1],[1]]=[0,1]:=by decide
 have h3:Go.Vw.G.nats [[1],[1]]=[[1],[1]]:=rfl
 simp only [shapeOk,JG,h1,h2,h3,smallL_rings]
 decide
theorem JH:check envL smallL=true:=by
 have h1:checkHead envL smallL=true:=by decide
 have hn:numSig 106=([127,127],127,true):=by decide
 have hf : ∀ n o,form envL 106 n o=⟨[127,127],[127],0,true⟩:=fun n o=>by
  have e0:form envL 106 n o=formNum envL 106:=by simp [form]
  rw [e0,formNum,hn]
 have hf2 : ∀ n o,form envL 258 n o=⟨[],[],0,true⟩:=fun n o=>by simp [form]
 simp only [check,h1,YG,smallL_shape,Bool.true_and]
 rw [JG,smallL_near]
 simp [smallL,checkBlocks,checkCode,insOk,hf,hf2,insOut,typesOf,asks,Go.Vw.eqF,termOk,termHead,termTail,branches,askOk,edgeOk]
 decide
theorem smallL_froms:froms [[1],[1]]=[[],[0,1]]:=by decide
theorem YF:loopsTo (rNear [[1],[1]]) (froms [[1],[1]]) 2 2=[(1,[1])]:=by
 have hr:rNear [[1],[1]]=[-1,0]:=by decide
 have hb:backs [-1,0] 1 [0,1]=[1]:=by decide
 have hB : ∀ n,Bk [[],[0,1]] 1 [1] n→n=1:=by
  intro n h
  induction h with
  | start hn=>simpa using hn
  | step _ hn _ ih=>exact absurd ih hn
 have hl:loopIn [[],[0,1]] 1 [1] 2=[false,true]:=by
  have h0 : ¬ (0=1∨Bk [[],[0,1]] 1 [1] 0):=by
   rintro (h | h)
   ·omega
   ·have:=hB 0 h; omega
  have h1 : ¬ Bk [[],[0,1]] 1 [1] 0:=fun h=>h0 (.inr h)
  simp [loopIn,List.range_succ,h1]
 have hb0:backs [-1,0] 0 ([[],[0,1]].getD 0 [])=[]:=rfl
 have hb1:backs [-1,0] 1 ([[],[0,1]].getD 1 [])=[1]:=hb
 rw [hr,smallL_froms,loopsTo,hb1,loopsTo,hb0,loopsTo,hl]
 simp [picked]
theorem smallL_lps:lps smallL.blocks=[(1,[1])]:=by
 have h3:nats [[1],[1]]=[[1],[1]]:=rfl
 rw [lps,JG,h3]; exact YF
theorem smallL_lps':lps smallL'.blocks=[(1,[1])]:=by
 have h3:nats [[1],[1]]=[[1],[1]]:=rfl
 rw [lps,jas,h3]; exact YF
theorem smallL_small:smallL.small=true:=check_small JH
theorem smallL_porch:porchF smallL 1 [1]=some 0:=by
 rw [porchF,if_pos smallL_small]; decide
theorem smallL_first:first smallL.blocks (qj smallL) (lps smallL.blocks)=some (0,1,1):=by
 rw [smallL_lps]
 have e:qj smallL=fun v=>(([⟨true,0, -1⟩,⟨true,0, -1⟩,⟨true,1,1⟩]:List Def).getD v.toNat default).block:=by funext v; rw [qj,YG]; rfl
 rw [e]; decide
theorem jat:first smallL'.blocks (qj smallL') (lps smallL'.blocks)=none:=by
 rw [smallL_lps']
 have e:qj smallL'=fun v=>(([⟨true,0, -1⟩,⟨true,0, -1⟩,⟨true,0,1⟩]:List Def).getD v.toNat default).block:=by funext v; rw [qj,smallL_defs']; rfl
 rw [e]; decide
theorem smallL_lic:licF smallL=smallL':=by
 have h:=licF_step JH smallL_first
 have e:moved smallL 0 1 1=smallL':=by decide
 rw [e] at h
 rw [←h]
 exact Jo _ jat
theorem smallL_out:licOut envL smallL=(smallL',0):=by rw [licOut_t JH,smallL_lic]
theorem smallL_fits:smallL.Fits:=by
 simp [smallL,Fn.Fits,Sig.Fits,Ints,Block.Fits,Ins.Fits,Term.Fits,Edge.Fits,I64]
theorem envL_fits:envL.Fits:=by
 simp [envL,Env.Fits,Ints,I64]
end Ss

namespace Go.Vw
open Go.RowKit
def flat1:V→Bool
 | .bool _ | .int _ _ | .nils | .slice _ _ _=>true
 | _=>false
def flatV:V→Bool
 | .tuple xs=>xs.all flat1
 | x=>flat1 x
def KH (n:Nat):V→V
 | .slice o off len => .slice (n+o) off len
 | x=>x
def ZM (n:Nat):V→V
 | .tuple xs => .tuple (xs.map (KH n))
 | x=>KH n x
def plus (S T:Store):Store:=⟨fun o=>if o<S.nx then S.get o else (T.get (o-S.nx)).map fun c=>(c.1,c.2.map (KH S.nx)),S.nx+T.nx⟩
def joinB (n:Nat) (β β2:Objs):Objs:=fun o=>if o<n then β o else β2 (o-n)
theorem Wj {m m2:Imm} {β β2:Objs} {n:Nat} {x:V} {v:Value} (hf:flat1 x=true) (h:Rep m2 β2 x v):Rep m (joinB n β β2) (KH n x) v:=by
 have hj : ∀ o,joinB n β β2 (n+o)=β2 o:=fun o=>by
  unfold joinB; rw [if_neg (by omega),Nat.add_sub_cancel_left]
 cases h with
 | imm h=>cases h with
  | bool b=>exact .imm (.bool b)
  | int k i=>exact .imm (.int k i)
  | nils a=>exact .imm (.nils a)
  | str | nilp | nilf | nilm | agg | list0 | list | ref=>simp [flat1] at hf
 | sliceDead o off len v h h1=>exact .sliceDead _ off len v ((hj o).trans h) h1
 | sliceVoid o off a h=>exact .sliceVoid _ off a ((hj o).trans h)
 | slice o off len b base s n' cap a h hc hcm ha=>exact .slice _ off len b base s n' cap a ((hj o).trans h) hc hcm ha
 | agg | tuple | func | ptrDead | ptr | mapDead | map | junk=>simp [flat1] at hf
theorem rep_shift {m m2:Imm} {β β2:Objs} {n:Nat} {x:V} {v:Value} (hf:flatV x=true) (h:Rep m2 β2 x v):Rep m (joinB n β β2) (ZM n x) v:=by
 by_cases ht : ∃ xs,x = .tuple xs
 ·obtain ⟨xs,rfl⟩:=ht
  simp only [flatV,List.all_eq_true] at hf
  cases h with
  | imm h=>cases h
  | tuple xs vs hl hr =>
   refine .tuple _ vs (by simpa using hl) fun i y u hy hu => ?_
   simp only [List.getElem?_map,Option.map_eq_some_iff] at hy
   obtain ⟨z,hz,rfl⟩:=hy
   exact Wj (hf z (List.mem_of_getElem? hz)) (hr i z u hz hu)
 ·have e1:flatV x=flat1 x:=by cases x<;>first | rfl | exact absurd ⟨_,rfl⟩ ht
  have e2:ZM n x=KH n x:=by cases x<;>first | rfl | exact absurd ⟨_,rfl⟩ ht
  rw [e2]
  exact Wj (e1▸hf) h
theorem VCalls.thaw {P:Program} {f:FuncId} {xs xs':List V} {S S':Store} {Q:V→Store→Prop} (h:VCalls P f xs' ⟨fun _=>none,0⟩ Q) (hg:GhostArgs xs S xs' S') (hcl : ∀ x∈xs',x.closed=true)
  (hfl : ∀ r T,Q r T→flatV r=true ∧ ∀ o c,T.get o=some c → ∀ x∈c.2,flat1 x=true):VCalls P f xs S fun r T => ∃ r0 T0,Q r0 T0∧r=ZM S.nx r0∧T=plus S T0:=by
 intro m β w vs hS hr
 obtain ⟨m1,β1,h1,h2,h3⟩:=hg m β w vs hS hr
 have h0:Holds ⟨fun _=>none,0⟩ m1 (fun _ => .fresh) w :=
  ⟨h1.imm,fun o b hb=>by simp [Loc.block?] at hb,fun o o' b hb=>by simp [Loc.block?] at hb,fun o=>by simp,fun o _=>rfl,fun o ho=>absurd ho (Nat.not_lt_zero _),fun o c hc=>by cases hc⟩
 have hr0:RepL m1 (fun _ => .fresh) xs' vs:=⟨h3.1,fun i x v hx hv => .imm ((h3.2 i x v hx hv).closed (hcl x (List.mem_of_getElem? hx)))⟩
 refine (h m1 _ w vs h0 hr0).mono ?_
 rintro e w' ⟨v,x,T0,m2,β2,he,hQ,k1,k2,k3⟩
 obtain ⟨hf1,hf2⟩:=hfl x T0 hQ
 have hheap : ∀ b,b<w.heap.size→w'.heap[b]? = w.heap[b]? := by
  intro b hb
  cases hm:m1 b with
  | some ob=>rw [h1.imm b ob hm,k2.imm b ob (k3.imm b ob hm)]
  | none=>exact (k3.keep b hb hm fun o=>by simp [Loc.block?]).1
 have hnob : ∀ b,b<w.heap.size → ∀ o,(β2 o).block? ≠ some b:=by
  intro b hb o
  cases hm:m1 b with
  | some ob =>
   intro hc
   have:=k2.apart o b hc
   rw [k3.imm b ob hm] at this; cases this
  | none=>exact (k3.keep b hb hm fun o=>by simp [Loc.block?]).2.2 o
 have hlt : ∀ {b:Nat} {ob:Obj},w.heap[b]? = some ob→b<w.heap.size:=by
  intro b ob hb
  rcases Nat.lt_or_ge b w.heap.size with h | h
  ·exact h
  ·rw [Array.getElem?_eq_none h] at hb; cases hb
 have hsome : ∀ {b:Nat} {ob:Obj},w.heap[b]? = some ob→w'.heap[b]? = some ob:=fun {b ob} hb=>by rw [hheap b (hlt hb),hb]
 have hblk : ∀ o b,(β o).block? = some b→b<w.heap.size:=by
  intro o b hb
  have hon:o<S.nx:=by
   rcases Nat.lt_or_ge o S.nx with h | h
   ·exact h
   ·rw [(hS.fresh o).2 h] at hb; cases hb
  cases hg:S.get o with
  | none=>rw [hS.dead o hon hg] at hb; cases hb
  | some c =>
   have hl:=hS.live o c hg
   cases hβ:β o with
   | fresh=>rw [hβ] at hb; cases hb
   | dead=>rw [hβ] at hb; cases hb
   | void=>rw [hβ] at hb; cases hb
   | lies b' base s n =>
    rw [hβ] at hl hb
    cases hb
    obtain ⟨_,arr,T,e1,_⟩:=hl
    exact hlt e1
   | mp b' =>
    rw [hβ] at hl hb
    cases hb
    obtain ⟨es,clock,e1,_⟩:=hl
    exact hlt e1
 have jl : ∀ {o},o<S.nx→joinB S.nx β β2 o=β o:=fun h=>if_pos h
 have jr : ∀ {o}, ¬ o<S.nx→joinB S.nx β β2 o=β2 (o-S.nx):=fun h=>if_neg h
 have hstep:Step β (joinB S.nx β β2):=fun o ho=>by
  have hon:o<S.nx:=by
   rcases Nat.lt_or_ge o S.nx with h | h
   ·exact h
   ·exact absurd ((hS.fresh o).2 h) ho
  exact .inl (jl hon)
 refine ⟨v,ZM S.nx x,plus S T0,m,joinB S.nx β β2,he,⟨x,T0,hQ,rfl,rfl⟩,rep_shift hf1 k1,⟨fun b o hb=>hsome (hS.imm b o hb),fun o b hb => ?_,fun o o' b hb hb' => ?_,fun o => ?_,fun o ho => ?_,fun o ho hn => ?_,fun o c hc => ?_⟩,⟨fun _ _ h=>h,hstep,k3.size,fun b hb hm hβ=>⟨hheap b hb,hm,fun o => ?_⟩,k3.os.trans (by rfl),k3.tape,k3.output⟩⟩
 ·by_cases hon:o<S.nx
  ·rw [jl hon] at hb; exact hS.apart o b hb
  ·rw [jr hon] at hb
   have h5:=k2.apart _ b hb
   cases hm:m b with
   | none=>rfl
   | some ob=>rw [k3.imm b ob (h2.imm b ob hm)] at h5; cases h5
 ·by_cases hon:o<S.nx
  ·rw [jl hon] at hb
   by_cases hon':o'<S.nx
   ·rw [jl hon'] at hb'; exact hS.inj o o' b hb hb'
   ·rw [jr hon'] at hb'; exact absurd hb' (hnob b (hblk o b hb) _)
  ·rw [jr hon] at hb
   by_cases hon':o'<S.nx
   ·rw [jl hon'] at hb'; exact absurd hb (hnob b (hblk o' b hb') _)
   ·rw [jr hon'] at hb'
    have:=k2.inj _ _ b hb hb'
    omega
 ·show _↔S.nx+T0.nx≤o
  by_cases hon:o<S.nx
  ·rw [jl hon,hS.fresh]; omega
  ·rw [jr hon,k2.fresh]; omega
 ·have ho':S.nx+T0.nx≤o:=ho
  show (if o<S.nx then S.get o else (T0.get (o-S.nx)).map _)=none
  rw [if_neg (by omega),k2.gone _ (by omega)]; rfl
 ·have ho':o<S.nx+T0.nx:=ho
  have hn':(if o<S.nx then S.get o else (T0.get (o-S.nx)).map fun c=>(c.1,c.2.map (KH S.nx)))=none:=hn
  by_cases hon:o<S.nx
  ·rw [if_pos hon] at hn'
   rw [jl hon]; exact hS.dead o hon hn'
  ·rw [if_neg hon,Option.map_eq_none_iff] at hn'
   rw [jr hon]; exact k2.dead _ (by omega) hn'
 ·have hc':(if o<S.nx then S.get o else (T0.get (o-S.nx)).map fun c=>(c.1,c.2.map (KH S.nx)))=some c:=hc
  by_cases hon:o<S.nx
  ·rw [if_pos hon] at hc'
   rw [jl hon]
   have hl:=hS.live o c hc'
   cases hβ:β o with
   | fresh=>rw [hβ] at hl; exact hl.elim
   | dead=>rw [hβ] at hl; exact hl.elim
   | void=>rw [hβ] at hl; exact hl
   | lies b base s n =>
    rw [hβ] at hl
    obtain ⟨e0,arr,T,e1,e2,e3,e4⟩:=hl
    refine ⟨e0,arr,T,hsome e1,e2,e3,fun i x hx => ?_⟩
    obtain ⟨v,a1,a2,a3⟩:=e4 i x hx
    exact ⟨v,a1,a2.mono (fun _ _ h=>h) hstep,a3⟩
   | mp b =>
    rw [hβ] at hl
    obtain ⟨es,clock,e1,e2,e3⟩:=hl
    refine ⟨es,clock,hsome e1,e2,fun i x en hx hen => ?_⟩
    obtain ⟨k,v,a1,a2,a3⟩:=e3 i x en hx hen
    exact ⟨k,v,a1,a2,a3.mono (fun _ _ h=>h) hstep⟩
  ·rw [if_neg hon] at hc'
   rw [jr hon]
   obtain ⟨c0,hc0,rfl⟩:=Option.map_eq_some_iff.1 hc'
   have hl:=k2.live _ c0 hc0
   have hfc:=hf2 _ c0 hc0
   cases hβ:β2 (o-S.nx) with
   | fresh=>rw [hβ] at hl; exact hl.elim
   | dead=>rw [hβ] at hl; exact hl.elim
   | void =>
    rw [hβ] at hl
    have hl':c0.2=[]:=hl
    show c0.2.map _=[]
    rw [hl']; rfl
   | lies b base s n =>
    rw [hβ] at hl
    obtain ⟨e0,arr,T,e1,e2,e3,e4⟩:=hl
    refine ⟨e0,arr,T,e1,e2,by simpa using e3,fun i x hx => ?_⟩
    simp only [List.getElem?_map,Option.map_eq_some_iff] at hx
    obtain ⟨y,hy,rfl⟩:=hx
    obtain ⟨v,a1,a2,a3⟩:=e4 i y hy
    exact ⟨v,a1,Wj (hfc y (List.mem_of_getElem? hy)) a2,a3⟩
   | mp b =>
    rw [hβ] at hl
    obtain ⟨es,clock,e1,e2,e3⟩:=hl
    have:c0.2=[]:=by
     cases hcl:c0.2 with
     | nil=>rfl
     | cons y r =>
      rw [hcl] at e2
      have hlt:0<es.size:=by rw [←e2]; simp
      obtain ⟨k,v,a1,_⟩:=e3 0 y es[0] (by rw [hcl]; rfl) (by simp [hlt])
      have:=hfc y (by rw [hcl]; simp)
      rw [a1] at this
      simp [flat1] at this
    refine ⟨es,clock,e1,by simpa using e2,fun i x en hx _ => ?_⟩
    rw [this] at hx
    simp at hx
 ·by_cases hon:o<S.nx
  ·rw [jl hon]; exact hβ o
  ·rw [jr hon]; exact hnob b hb _
end Go.Vw
