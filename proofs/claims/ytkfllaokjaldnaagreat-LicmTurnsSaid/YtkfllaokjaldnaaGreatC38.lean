import Derived.Test.YtkfllaokjaldnaaGreatC11
import Derived.Test.YtkfllaokjaldnaaGreatC35
import Derived.Test.YtkfllaokjaldnaaGreatC37
/-
  Part of the proof (texts LLoops, LRLoops, LAll, LRunP).
-/
set_option linter.unusedVariables false
set_option linter.unusedSimpArgs false
namespace Go.Vw
open Go.Proofs Go.RowKit
set_option maxRecDepth 10000
set_option maxHeartbeats 16000000
def jB (x:Nat × List Nat):V := .agg [vnat x.1,vl vnat x.2]
theorem Kd (x:Nat × List Nat):(jB x).cells=[vnat x.1,vl vnat x.2]:=by simp [jB,V.cells]
theorem Kc (x:Nat × List Nat):(jB x).cells.length=2:=by rw [Kd]; rfl
theorem Ja (x:Nat × List Nat):(jB x).closed=true:=rfl
theorem jp (f:Nat→Nat) (ls:List (Nat × List Nat)):V.renL f (jh jB ls)=jh jB ls:=JQ Ja f ls
theorem jq (p:Nat→Bool) (ls:List (Nat × List Nat)):V.idsL p (jh jB ls)=true:=JR Ja p ls
theorem qr (f:Nat→Nat) (n:Nat) (b:Bool):V.renL f (List.replicate n (V.bool b))=List.replicate n (V.bool b):=by
 have:=ZW f (List.replicate n b);simpa using this
theorem qv (p:Nat→Bool) (n:Nat) (b:Bool):V.idsL p (List.replicate n (V.bool b))=true:=by
 have:=jaw p (List.replicate n b);simpa using this
theorem few {u t:Nat} (hu:u≤256) (ht:t≤1048576):u*(1048576+1)+t≤1073741824:=by omega
theorem few_len {M:Nat} {inn:List Bool} {td:List Nat} {n:Nat} (h:G.todoM M inn (td++[n])≤1073741824):td.length+1≤1073741824:=by
 simp only [G.todoM,List.length_append,List.length_cons,List.length_nil] at h;have:=Nat.zero_le (G.unmet inn*(M+1));omega
theorem few_less {M:Nat} {inn:List Bool} {td:List Nat} {n:Nat}:G.todoM M inn td<G.todoM M inn (td++[n]):=by
 simp [G.todoM]
def Few (inn:List Bool) (todo:List Nat):Prop:=G.todoM (1048576) inn todo≤1073741824
theorem gLoopsErr_v (g:List (List Int)) (h:Fits g) (hr:G.right g=false):VPure Tryz.prog 25 [vl (vl vint) g] (.tuple [vl jB [],vint 1]):=by
 intro S;have e:G.err g=1:=by simp [G.err,hr]
 refine jb (c:=jg Tryz.f25) Tryz.func25 rfl rfl (by simp [Tryz.ntmps25]) ?_;rw [Tryz.ntmps25];intro hwf
 repeat first|refine QG ?_|refine QY ?_
 repeat refine QS ?_
 refine QP ?_;refine jn rfl (KF g h) ?_;refine QW ?_
 repeat first|refine QG ?_|refine QY ?_ (r:=by conv=>lhs;simp[-List.map_set,QV,e])
 exact ji (l:=[]) hwf ((Ghost.tuple [] [vint 1] (Ghost.nils_list _)).toB _) rfl
theorem gLoops_v (g:List (List Nat)) (hg:G.Ok g) (near:List Int) (fr:List (List Nat)) (cn:VPure Tryz.prog 77 [vl (vl vnat) g] (.tuple [vl vint near,vint 0])) (cf:VPure Tryz.prog 78 [vl (vl vnat) g] (.tuple [vl (vl vnat) fr,vint 0]))
  (hnl:near.length=g.length) (hfl:fr.length=g.length) (hfm : ∀ r∈fr,r.length≤1048576) (hfe : ∀ r∈fr, ∀ x∈r,x<g.length) :
  VPure Tryz.prog 25 [vl (vl vnat) g] (.tuple [vl jB (G.loopsTo near fr g.length g.length),vint 0]):=by
 intro S;refine jb (c:=jg Tryz.f25) Tryz.func25 rfl rfl (by simp [Tryz.ntmps25]) ?_;rw [Tryz.ntmps25];intro hwf;have hm:=hg.max;have hp:=hg.pos;have hb1:g.length*1≤140737488355328:=by omega
 have hb0:g.length≤140737488355328:=by omega
 repeat first|refine QG ?_|refine QY ?_
 repeat refine QS ?_
 refine QP ?_;refine jn rfl (cn) ?_;refine QW ?_
 repeat first|refine QG ?_|refine QY ?_
 repeat refine QS ?_
 refine QP ?_;refine jn rfl (cf) ?_;refine QW ?_
 repeat refine QS ?_
 refine QY ?_;refine qW 8 2 rfl (by conv=>lhs; simp [Fr.set]) ?_
 repeat first|refine QG ?_|refine QY ?_
 repeat refine QS ?_
 refine je [0,4,6,8,32,33] rfl (fun c σ S' => ∃ h:Nat,h≤g.length∧c=g.length-h∧σ=[(0,vl (vl vnat) g),(4,vl vint near),(6,vl (vl vnat) fr),(8, .slice (lid S.nx 0) 0 (G.loopsTo near fr g.length h).length),(32,vnat g.length),(33,vnat h)]∧S'=St S [] [some (2,jh jB (G.loopsTo near fr g.length h))]) g.length ?_ ?_
 ·exact ⟨0,by omega,rfl,by simp [Fr.only,G.loopsTo],by simp [G.loopsTo,jh]⟩
 ·rintro c σ T ⟨h,hh,rfl,rfl,rfl⟩
  by_cases hht:h<g.length
  ·have hw:IntKind.i64.wrap ((h:Int)+1)=(h:Int)+1:=wrap_i64 (by omega) (by omega);have hhn:h<near.length:=by omega
   have hhf:h<fr.length:=by omega
   have hnd:near.getD h 0=near[h]:=by simp [hhn]
   have hfd:fr.getD h []=fr[h]:=by simp [hhf]
   have hrow:=hfm _ (List.getElem_mem hhf);have hrowe:=hfe _ (List.getElem_mem hhf);have hst:G.loopsTo near fr g.length (h+1)=if (0<h∧near[h]<0)∨G.backs near h fr[h]=[] then G.loopsTo near fr g.length h else G.loopsTo near fr g.length h++[(h,G.picked (G.loopIn fr h (G.backs near h fr[h]) g.length) g.length)]:=by
    simp only [G.loopsTo,hnd,hfd]
   have hlo:=G.loopsTo_len near fr g.length h;generalize G.loopsTo near fr g.length h=ls at *
   by_cases hskip:0<h∧near[h]<0
   ·rw [if_pos (.inl hskip)] at hst;obtain ⟨h1,h2⟩:=hskip;have h1':(0:Int)<(h:Int):=by omega
    repeat first|refine QG ?_|refine QY ?_ (r:=by conv=>lhs;simp[-List.map_set,QV,hht,hhn,h1,h1',h2])
    show jx _ _ _ _ _ _ _;exact again ⟨Nat.sub_lt_sub_left hht (Nat.lt_succ_self h),h+1,hht,rfl,by rw [hst]; simp [Fr.only,hw],by rw [hst]⟩
   ·have hge:0<h → ¬ near[h]<0:=fun h1 h2=>hskip ⟨h1,h2⟩
    repeat first|refine QG ?_|refine QY ?_ (r:=by conv=>lhs;simp[-List.map_set,QV,hht])
    repeat refine QS ?_
    refine jaS (0<h) [0,4,6,8,9,32,33,44] rfl (by conv=>lhs; reduce) (fun hyes=>⟨_,by conv=>lhs; simp [-List.map_set,QV,hyes,hhn,(hge hyes)],by conv=>lhs; simp [Fr.only]⟩) (fun hno=>⟨_,by conv=>lhs; simp [-List.map_set,QV,hno,hhn],by conv=>lhs; simp [Fr.only]⟩) ?_
    repeat first|refine QG ?_|refine QY ?_ (r:=by conv=>lhs;simp[-List.map_set,QV,hb1,hb0,hhf])
    refine qW 11 1 rfl (by conv=>lhs; simp [Fr.set]) ?_
    repeat first|refine QG ?_|refine QY ?_ (r:=by conv=>lhs;simp[-List.map_set,QV,hhf])
    generalize hts:G.backs near h fr[h]=ts at *
    have htsl:ts.length≤fr[h].length:=by rw [←hts]; exact List.length_filter_le _ _
    repeat refine QS ?_
    refine je [0,4,6,8,9,10,11,32,33,51,52,53] rfl (fun c σ S' => ∃ (k:Nat) (todo:List Nat),k≤fr[h].length∧c=fr[h].length-k∧todo++G.backs near h (fr[h].drop k)=ts∧σ=[(0,vl (vl vnat) g),(4,vl vint near),(6,vl (vl vnat) fr),(8, .slice (lid S.nx 0) 0 ls.length),(9,vnat h),(10, .slice (lid S.nx 1) 0 g.length),(11, .slice (lid S.nx 2) 0 todo.length),(32,vnat g.length),(33,vnat h),(51,vl vnat fr[h]),(52,vnat fr[h].length),(53,vnat k)]∧S'=St S [] [some (2,jh jB ls),some (1,(List.replicate g.length false).map V.bool),some (1,todo.map vnat)]) fr[h].length ?_ ?_
    ·exact ⟨0,[],by omega,rfl,by simpa using hts,by simp [Fr.only],by simp⟩
    ·rintro c σ T ⟨k,todo,hk,rfl,hdo,rfl,rfl⟩;have htdl:todo.length≤ts.length:=by rw [←hdo]; simp
     by_cases hkt:k<fr[h].length
     ·have hwk:IntKind.i64.wrap ((k:Int)+1)=(k:Int)+1:=wrap_i64 (by omega) (by omega);rw [List.drop_eq_getElem_cons hkt] at hdo;generalize hpe:fr[h][k]=p at hdo;have hd:=jaQ near h p (by omega)
      repeat first|refine QG ?_|refine QY ?_ (r:=by conv=>lhs;simp[-List.map_set,QV,hkt,hpe])
      repeat refine QS ?_
      refine QP ?_;refine jn rfl (hd) ?_;refine QW ?_
      cases hb:G.dominates near h p with
      | true =>
       have hc8:(todo.length+1)*8≤140737488355328:=by omega
       have hc1:todo.length+1≤140737488355328:=by omega
       have hdo':(todo++[p])++G.backs near h (fr[h].drop (k+1))=ts:=by
        rw [←hdo]; simp [G.backs,hb]
       repeat first|refine QG ?_|refine QY ?_ (r:=by conv=>lhs;simp[-List.map_set,QV,hb,hc8,hc1])
       refine jS [0,1,4] (by conv=>lhs; simp [Fr.only]) hwf (by decide) (by simp [-List.map_set,jp,jq,qr,qv]) (by conv=>lhs; simp [-List.map_set,jp,jq,qr,qv]) (by conv=>lhs; simp [-List.map_set,jp,jq,qr,qv]) (by conv=>lhs; simp [-List.map_set,jp,jq,qr,qv]) ⟨?_,k+1,todo++[p],hkt,rfl,hdo',by simp [hwk],by simp⟩;omega
      | false =>
       have hdo':todo++G.backs near h (fr[h].drop (k+1))=ts:=by
        rw [←hdo]; simp [G.backs,hb]
       repeat first|refine QG ?_|refine QY ?_ (r:=by conv=>lhs;simp[-List.map_set,QV,hb])
       show jx _ _ _ _ _ _ _;exact again ⟨Nat.sub_lt_sub_left hkt (Nat.lt_succ_self k),k+1,todo,hkt,rfl,hdo',by simp [Fr.only,hwk],by simp⟩
     ·have hke:k=fr[h].length:=by omega
      subst hke;simp only [List.drop_length] at hdo;have hts':todo=ts:=by simpa [G.backs] using hdo
      subst hts'
      by_cases hemp:todo=[]
      ·rw [if_pos (.inr hemp)] at hst;subst hemp
       repeat first|refine QG ?_|refine QY ?_ (r:=by conv=>lhs;simp[-List.map_set,QV,hkt])
       refine jS [0] (by conv=>lhs; simp [Fr.only]) hwf (by decide) (by simp [-List.map_set,jp,jq,qr,qv]) (by conv=>lhs; simp [-List.map_set,jp,jq,qr,qv]) (by conv=>lhs; simp [-List.map_set,jp,jq,qr,qv]) (by conv=>lhs; simp [-List.map_set,jp,jq,qr,qv]) ⟨?_,h+1,hht,rfl,by rw [hst]; simp [hw],by rw [hst]⟩;omega
      ·rw [if_neg (by rintro (h1 | h1); exact hskip h1; exact hemp h1)] at hst;have hlen0 : ¬ todo.length=0:=fun e=>hemp (List.eq_nil_of_length_eq_zero e)
       have hlt : ∀ t∈todo,t<g.length:=fun t ht=>hrowe t (by rw [←hts] at ht; exact (List.mem_filter.1 ht).1)
       have hS0:=G.Srch.start (fr:=fr) hht hlt
       repeat first|refine QG ?_|refine QY ?_ (r:=by conv=>lhs;simp[-List.map_set,QV,hkt,hlen0,hht])
       have hum:G.unmet ((List.replicate g.length false).set h true)≤g.length:=by
        have:=List.count_le_length (a:=false) (l:=(List.replicate g.length false).set h true);simpa [G.unmet] using this
       have hm0:G.todoM (1048576) ((List.replicate g.length false).set h true) todo≤1073741824:=by
        exact few (by omega) (by omega)
       repeat refine QS ?_
       refine je [0,4,6,8,9,10,11,32,33] rfl (fun c σ S' => ∃ (inn:List Bool) (td:List Nat),G.Srch fr h todo g.length inn td∧c=G.todoM (1048576) inn td∧c≤1073741824∧σ=[(0,vl (vl vnat) g),(4,vl vint near),(6,vl (vl vnat) fr),(8, .slice (lid S.nx 0) 0 ls.length),(9,vnat h),(10, .slice (lid S.nx 1) 0 g.length),(11, .slice (lid S.nx 2) 0 td.length),(32,vnat g.length),(33,vnat h)]∧S'=St S [] [some (2,jh jB ls),some (1,inn.map V.bool),some (1,td.map vnat)]) (G.todoM (1048576) ((List.replicate g.length false).set h true) todo) ?_ ?_
       ·exact ⟨_,_,hS0,rfl,hm0,by simp [Fr.only],by simp [List.map_set]⟩
       ·rintro c σ T ⟨inn,td,hS,rfl,hcm,rfl,rfl⟩;have hil:=hS.len;rcases List.eq_nil_or_concat td with rfl | ⟨td,n,rfl⟩
        ·have hie:=G.loopIn_eq hS;rw [←hie] at hst
         repeat refine QS ?_
         refine QY ?_
         repeat refine QS ?_
         refine jI rfl rfl rfl ?_
         repeat refine QS ?_
         refine jP 4 rfl rfl ?_
         repeat refine QS ?_
         refine QY ?_
         apply ju
         ·exact Reach.voidCell 1 (k:=3) (i:=1) (by simp) rfl rfl
         simp only [List.cons_append,List.nil_append,List.set_cons_succ,List.set_cons_zero,List.length_cons,List.length_nil,Nat.reduceAdd]
         repeat first|refine QG ?_|refine QY ?_
         repeat refine QS ?_
         refine je [0,4,6,8,15,32,33,102,103,104] rfl (fun c σ S' => ∃ k:Nat,k≤g.length∧c=g.length-k∧σ=[(0,vl (vl vnat) g),(4,vl vint near),(6,vl (vl vnat) fr),(8, .slice (lid S.nx 0) 0 ls.length),(15, .ptr (lid S.nx 3) 0),(32,vnat g.length),(33,vnat h),(102, .slice (lid S.nx 1) 0 g.length),(103,vnat g.length),(104,vnat k)]∧S'=St S [] [some (2,jh jB ls),some (1,inn.map V.bool),some (1,[]),some (2,[vnat h, .slice (lid S.nx 4) 0 (G.picked inn k).length]),some (1,(G.picked inn k).map vnat)]) g.length ?_ ?_
         ·exact ⟨0,by omega,rfl,by simp [Fr.only],by simp [G.picked]⟩
         ·rintro c σ T ⟨k,hk,rfl,rfl,rfl⟩;have hpl:=G.picked_len inn k
          by_cases hkt:k<g.length
          ·have hwk:IntKind.i64.wrap ((k:Int)+1)=(k:Int)+1:=wrap_i64 (by omega) (by omega);have hki:k<inn.length:=by omega
           obtain ⟨x,hx⟩ : ∃ x,inn[k]=x:=⟨_,rfl⟩
           have hxd:inn.getD k false=x:=by simp [hki,hx]
           have hps:G.picked inn (k+1)=if x=true then G.picked inn k++[k] else G.picked inn k:=by simp only [G.picked,hxd]
           have hc8:((G.picked inn k).length+1)*8≤140737488355328:=by omega
           have hc1:(G.picked inn k).length+1≤140737488355328:=by omega
           generalize G.picked inn k=pk at *
           cases x with
           | true =>
            repeat first|refine QG ?_|refine QY ?_ (r:=by conv=>lhs;simp[-List.map_set,QV,hkt,hki,hx,hc8,hc1])
            refine jS [0,1,2,3,6] (by conv=>lhs; simp [Fr.only]) hwf (by decide) (by simp [-List.map_set,jp,jq]) (by conv=>lhs; simp [-List.map_set,jp,jq]) (by conv=>lhs; simp [-List.map_set,jp,jq]) (by conv=>lhs; simp [-List.map_set,jp,jq]) ⟨?_,k+1,hkt,rfl,by simp [hwk],by rw [hps]; simp⟩;omega
           | false =>
            repeat first|refine QG ?_|refine QY ?_ (r:=by conv=>lhs;simp[-List.map_set,QV,hkt,hki,hx,hc8,hc1])
            show jx _ _ _ _ _ _ _;exact again ⟨Nat.sub_lt_sub_left hkt (Nat.lt_succ_self k),k+1,hkt,rfl,by simp [Fr.only,hwk],by rw [hps]; simp⟩
          ·have hke:k=g.length:=by omega
           subst hke;generalize G.picked inn g.length=pk at *
           repeat refine QS ?_
           refine QY ?_ (r:=by conv=>lhs;simp[-List.map_set,QV,hkt])
           repeat refine QS ?_
           refine jI rfl rfl rfl ?_
           repeat refine QS ?_
           refine jP 6 rfl rfl ?_
           apply ju
           ·exact Reach.frzCell (k:=3) (j:=4) (i:=1) (n:=pk.length) (cells':=pk.map vnat) (by omega) (by simp) (by simp) rfl rfl rfl (jG vnat (fun _=>rfl) _) (by simp)
           simp only [List.set_cons_succ,List.set_cons_zero];have hfl2:ls.length*2=(jh jB ls).length:=by rw [zP Kc]
           have hc8:(ls.length+1)*32≤140737488355328:=by omega
           have hc1:ls.length+1≤140737488355328:=by omega
           have hsnoc:jh jB (ls++[(h,pk)])=jh jB ls++[vnat h,V.list (pk.map vnat)]:=by rw [zw,Kd]; rfl
           repeat first|refine QG ?_|refine QY ?_ (r:=by conv=>lhs;simp[-List.map_set,QV,hfl2,hc8,hc1,rep0])
           refine jS [6] (by conv=>lhs; simp [Fr.only]) hwf (by decide) (by simp [-List.map_set,jp,jq]) (by conv=>lhs; simp [-List.map_set,jp,jq]) (by conv=>lhs; simp [-List.map_set,jp,jq]) (by conv=>lhs; simp [-List.map_set,jp,jq]) ⟨?_,h+1,hht,rfl,by rw [hst]; simp [hw],by rw [hst,hsnoc]; simp⟩;omega
        ·rw [List.concat_eq_append] at *
         have hn:=hS.lt n (by simp);have hni:n<inn.length:=by omega
         have hnf:n<fr.length:=by omega
         have hfn:fr.getD n []=fr[n]:=by simp [hnf]
         have hrn:=hfm _ (List.getElem_mem hnf);have htl:td.length+1≤1073741824:=few_len hcm;have hw1:IntKind.i64.wrap ((td.length:Int)+1-1)=(td.length:Int):=by
          rw [wrap_i64 (by omega) (by omega)]; omega
         have hw2:IntKind.i64.wrap (td.length:Int)=(td.length:Int):=wrap_i64 (by omega) (by omega);have h0:(0:Int)<(td.length:Int)+1:=by omega
         have h1:(td.length:Int)<(td.length:Int)+1:=by omega
         have h2:(td.length:Int)≤(td.length:Int)+1:=by omega
         have hsub : ∀ t∈td,t∈td++[n]:=fun t ht=>by simp [ht]
         have hre : ∀ t∈td++[n],t=n∨t∈td:=fun t ht=>by
          rcases List.mem_append.1 ht with h | h
          ·exact .inr h
          ·simp at h; exact .inl h
         repeat refine QS ?_
         refine QY ?_ (r:=by conv=>lhs;simp[-List.map_set,QV,h0])
         repeat refine QS ?_
         refine jH rfl rfl rfl ?_
         repeat refine QS ?_
         refine jD rfl ?_
         repeat refine QS ?_
         refine jL 5 rfl rfl ?_
         repeat refine QS ?_
         refine QY ?_ (r:=by conv=>lhs;simp[-List.map_set,QV,hw1,hw2,h0,h1])
         repeat refine QS ?_
         refine QY ?_ (r:=by conv=>lhs;simp[-List.map_set,QV,hw1,hw2,h0,h1,h2]);refine vw_trim 11 td.length rfl (by simp) rfl (by conv=>lhs; simp [List.set_cons_zero,List.set_cons_succ]) ?_;obtain ⟨x,hx⟩ : ∃ x,inn[n]=x:=⟨_,rfl⟩
         have hxd:inn.getD n false=x:=by simp [hni,hx]
         cases x with
         | true =>
          have hS':=hS.seen hxd hsub hre
          repeat first|refine QG ?_|refine QY ?_ (r:=by conv=>lhs;simp[-List.map_set,QV,hn,hni,hx])
          refine jS [0,1,2] (by conv=>lhs; simp [Fr.only]) hwf (by decide) (by simp [-List.map_set,jp,jq]) (by conv=>lhs; simp [-List.map_set,jp,jq]) (by conv=>lhs; simp [-List.map_set,jp,jq]) (by conv=>lhs; simp [-List.map_set,jp,jq]) ⟨?_,inn,td,hS',rfl,Nat.le_trans (Nat.le_of_lt few_less) hcm,by simp,by simp⟩;exact few_less
         | false =>
          have hS':=hS.take (todo':=td++fr[n]) (by simp) (by rw [hfn]; exact hfe _ (List.getElem_mem hnf)) hxd (fun t ht=>by
           rcases List.mem_append.1 ht with h | h
           ·exact .inl (by simp [h])
           ·exact .inr (by rw [hfn]; exact h)) (fun t ht=>by
           rcases hre t ht with h | h
           ·exact .inl h
           ·exact .inr (by simp [h])) (fun t ht=>by rw [hfn] at ht; simp [ht])
          have hmm:=G.todoM_take (M:=1048576) (todo:=td++[n]) (todo':=td++fr[n]) hni hx hrn (by simp; omega);have hc8:(td.length+fr[n].length)*8≤140737488355328:=by omega
          have hc1:td.length+fr[n].length≤140737488355328:=by omega
          repeat first|refine QG ?_|refine QY ?_ (r:=by conv=>lhs;simp[-List.map_set,QV,hn,hni,hx,hnf,jaj,nc_vnat,hc8,hc1,flatC_vnat])
          refine jS [0,1,3] (by conv=>lhs; simp [Fr.only]) hwf (by decide) (by simp [-List.map_set,jp,jq]) (by conv=>lhs; simp [-List.map_set,jp,jq]) (by conv=>lhs; simp [-List.map_set,jp,jq]) (by conv=>lhs; simp [-List.map_set,jp,jq]) ⟨?_,_,_,hS',rfl,Nat.le_trans (Nat.le_of_lt hmm) hcm,by simp,by simp⟩;exact hmm
  ·have hhe:h=g.length:=by omega
   subst hhe
   repeat first|refine QG ?_|refine QY ?_ (r:=by conv=>lhs;simp[-List.map_set,QV,hht])
   exact ji hwf ((Ghost.tuple [] [vint 0] (frzSt (k:=0) Kc Ja _ (by simp) rfl)).toB _) rfl
end Go.Vw

namespace Go.Vw
open Go.Proofs Go.RowKit
set_option maxRecDepth 10000
set_option maxHeartbeats 16000000
theorem opAppend_off {S:Store} {o off len:Nat} {pre cells:List V} {l:List Nat} (ho:S.get o=some (1,pre++cells)) (hp:pre.length=off) (hl:cells.length=len) (hb:(len+l.length)*8≤140737488355328) (hb1:len+l.length≤140737488355328) :
  qe 1 8 S (.slice o off len) (vl vnat l)=some (.slice S.nx 0 (len+l.length),(S.del o).add (1,cells++l.map vnat)):=by
 subst hp; subst hl;have e1:jX 1 S (vl vnat l)=some (l.map vnat,l.length):=by
  have h1:(l.map vnat).all (fun x=>x.ncells==1)=true:=by simp [vnat,V.ncells]
  have h2:(l.map vnat).flatMap V.cells=l.map vnat:=by
   clear hb hb1 h1
   induction l with
   | nil=>rfl
   | cons x l ih=>simp only [List.map_cons,List.flatMap_cons,ih]; rfl
  simp only [jX,vl,h1,if_true,h2,List.length_map]
 simp [qe,e1,ho,hb,hb1]
theorem rLoopsErr_v (g:List (List Int)) (h:Fits g) (hr:G.right g=false):VPure Tryz.prog 19 [vl (vl vint) g] (.tuple [vl jB [],vint 1]):=by
 intro S;have e:G.err g=1:=by simp [G.err,hr]
 refine jb (c:=jg Tryz.f19) Tryz.func19 rfl rfl (by simp [Tryz.ntmps19]) ?_;rw [Tryz.ntmps19];intro hwf
 repeat first|refine QG ?_|refine QY ?_
 repeat refine QS ?_
 refine QP ?_;refine jn rfl (jbJ g h) ?_;refine QW ?_
 repeat first|refine QG ?_|refine QY ?_ (r:=by conv=>lhs;simp[-List.map_set,QV,e])
 exact ji (l:=[]) hwf ((Ghost.tuple [] [vint 1] (Ghost.nils_list _)).toB _) rfl
theorem rLoops_v (g:List (List Nat)) (hg:G.Ok g) (t:List (List Bool)) (fr:List (List Nat)) (ct:VPure Tryz.prog 59 [vl (vl vnat) g] (vl (vl V.bool) t)) (cf:VPure Tryz.prog 58 [vl (vl vnat) g] (.tuple [vl (vl vnat) fr,vint 0]))
  (htl:t.length=g.length) (htr : ∀ a (ha:a<t.length),t[a].length=g.length) (hfl:fr.length=g.length) (hfm : ∀ r∈fr,r.length≤1048576) (hfe : ∀ r∈fr, ∀ x∈r,x<g.length) :
  VPure Tryz.prog 19 [vl (vl vnat) g] (.tuple [vl jB (G.rloopsTo t fr g.length g.length),vint 0]):=by
 intro S;refine jb (c:=jg Tryz.f19) Tryz.func19 rfl rfl (by simp [Tryz.ntmps19]) ?_;rw [Tryz.ntmps19];intro hwf;have hm:=hg.max;have hp:=hg.pos;have hb1:g.length*1≤140737488355328:=by omega
 have hb0:g.length≤140737488355328:=by omega
 repeat first|refine QG ?_|refine QY ?_
 repeat refine QS ?_
 refine QP ?_;refine jn rfl (cf) ?_;refine QW ?_
 repeat first|refine QG ?_|refine QY ?_
 repeat refine QS ?_
 refine QP ?_;refine jn rfl (ct) ?_;refine QW ?_
 repeat refine QS ?_
 refine QY ?_;refine qW 7 2 rfl (by conv=>lhs; simp [Fr.set]) ?_
 repeat first|refine QG ?_|refine QY ?_
 repeat refine QS ?_
 refine je [0,4,6,7,8] rfl (fun c σ S' => ∃ h:Nat,h≤g.length∧c=g.length-h∧σ=[(0,vl (vl vnat) g),(4,vl (vl vnat) fr),(6,vl (vl V.bool) t),(7, .slice (lid S.nx 0) 0 (G.rloopsTo t fr g.length h).length),(8,vnat h)]∧S'=St S [] [some (2,jh jB (G.rloopsTo t fr g.length h))]) g.length ?_ ?_
 ·exact ⟨0,by omega,rfl,by simp [Fr.only,G.rloopsTo],by simp [G.rloopsTo,jh]⟩
 ·rintro c σ T ⟨h,hh,rfl,rfl,rfl⟩
  by_cases hht:h<g.length
  ·have hw:IntKind.i64.wrap ((h:Int)+1)=(h:Int)+1:=wrap_i64 (by omega) (by omega);have hhf:h<fr.length:=by omega
   have hhtb:h<t.length:=by omega
   have htrl:=htr h hhtb;have hfd:fr.getD h []=fr[h]:=by simp [hhf]
   have hrow:=hfm _ (List.getElem_mem hhf);have hrowe:=hfe _ (List.getElem_mem hhf);have hst:G.rloopsTo t fr g.length (h+1)=if G.rbacks t h fr[h]=[] then G.rloopsTo t fr g.length h else G.rloopsTo t fr g.length h++[(h,G.picked (G.loopIn fr h (G.rbacks t h fr[h]) g.length) g.length)]:=by
    simp only [G.rloopsTo,hfd]
   have hlo:=G.rloopsTo_len t fr g.length h;generalize G.rloopsTo t fr g.length h=ls at *
   repeat first|refine QG ?_|refine QY ?_ (r:=by conv=>lhs;simp[-List.map_set,QV,hht,hb1,hb0])
   refine qW 10 1 rfl (by conv=>lhs; simp [Fr.set]) ?_
   repeat first|refine QG ?_|refine QY ?_
   generalize hts:G.rbacks t h fr[h]=ts at *
   have htsl:ts.length≤fr[h].length:=by rw [←hts]; exact List.length_filter_le _ _
   repeat refine QS ?_
   refine je [0,4,6,7,8,9,10,11] rfl (fun c σ S' => ∃ (k:Nat) (todo:List Nat),k≤fr[h].length∧c=fr[h].length-k∧todo++G.rbacks t h (fr[h].drop k)=ts∧σ=[(0,vl (vl vnat) g),(4,vl (vl vnat) fr),(6,vl (vl V.bool) t),(7, .slice (lid S.nx 0) 0 ls.length),(8,vnat h),(9, .slice (lid S.nx 1) 0 g.length),(10, .slice (lid S.nx 2) 0 todo.length),(11,vnat k)]∧S'=St S [] [some (2,jh jB ls),some (1,(List.replicate g.length false).map V.bool),some (1,todo.map vnat)]) fr[h].length ?_ ?_
   ·exact ⟨0,[],by omega,rfl,by simpa using hts,by simp [Fr.only],by simp⟩
   ·rintro c σ T ⟨k,todo,hk,rfl,hdo,rfl,rfl⟩;have htdl:todo.length≤ts.length:=by rw [←hdo]; simp
    by_cases hkt:k<fr[h].length
    ·have hwk:IntKind.i64.wrap ((k:Int)+1)=(k:Int)+1:=wrap_i64 (by omega) (by omega);rw [List.drop_eq_getElem_cons hkt] at hdo;have hpl:=hrowe _ (List.getElem_mem hkt);generalize hpe:fr[h][k]=p at hdo hpl;have hptl:p<t[h].length:=by omega
     obtain ⟨b,hbe⟩ : ∃ b,t[h][p]=b:=⟨_,rfl⟩
     have hb:G.tabAt t h p=b:=by simp [G.tabAt,hhtb,hptl,hbe]
     repeat first|refine QG ?_|refine QY ?_ (r:=by conv=>lhs;simp[-List.map_set,QV,hkt,hhf])
     cases b with
     | true =>
      have hc8:(todo.length+1)*8≤140737488355328:=by omega
      have hc1:todo.length+1≤140737488355328:=by omega
      have hdo':(todo++[p])++G.rbacks t h (fr[h].drop (k+1))=ts:=by
       rw [←hdo]; simp [G.rbacks,hb]
      repeat first|refine QG ?_|refine QY ?_ (r:=by conv=>lhs;simp[-List.map_set,QV,hkt,hpe,hhf,hhtb,hptl,hbe,hc8,hc1])
      refine jS [0,1,4] (by conv=>lhs; simp [Fr.only]) hwf (by decide) (by simp [-List.map_set,jp,jq,qr,qv]) (by conv=>lhs; simp [-List.map_set,jp,jq,qr,qv]) (by conv=>lhs; simp [-List.map_set,jp,jq,qr,qv]) (by conv=>lhs; simp [-List.map_set,jp,jq,qr,qv]) ⟨?_,k+1,todo++[p],hkt,rfl,hdo',by simp [hwk],by simp⟩;omega
     | false =>
      have hdo':todo++G.rbacks t h (fr[h].drop (k+1))=ts:=by
       rw [←hdo]; simp [G.rbacks,hb]
      repeat first|refine QG ?_|refine QY ?_ (r:=by conv=>lhs;simp[-List.map_set,QV,hkt,hpe,hhf,hhtb,hptl,hbe])
      show jx _ _ _ _ _ _ _;exact again ⟨Nat.sub_lt_sub_left hkt (Nat.lt_succ_self k),k+1,todo,hkt,rfl,hdo',by simp [Fr.only,hwk],by simp⟩
    ·have hke:k=fr[h].length:=by omega
     subst hke;simp only [List.drop_length] at hdo;have hts':todo=ts:=by simpa [G.rbacks] using hdo
     subst hts'
     by_cases hemp:todo=[]
     ·rw [if_pos hemp] at hst;subst hemp
      repeat first|refine QG ?_|refine QY ?_ (r:=by conv=>lhs;simp[-List.map_set,QV,hkt,hhf])
      refine jS [0] (by conv=>lhs; simp [Fr.only]) hwf (by decide) (by simp [-List.map_set,jp,jq,qr,qv]) (by conv=>lhs; simp [-List.map_set,jp,jq,qr,qv]) (by conv=>lhs; simp [-List.map_set,jp,jq,qr,qv]) (by conv=>lhs; simp [-List.map_set,jp,jq,qr,qv]) ⟨?_,h+1,hht,rfl,by rw [hst]; simp [hw],by rw [hst]⟩;omega
     ·rw [if_neg hemp] at hst;have hlen0 : ¬ todo.length=0:=fun e=>hemp (List.eq_nil_of_length_eq_zero e)
      have hlt : ∀ t∈todo,t<g.length:=fun t ht=>hrowe t (by rw [←hts] at ht; exact (List.mem_filter.1 ht).1)
      have hS0:=G.Srch.start (fr:=fr) hht hlt;have hum:G.unmet ((List.replicate g.length false).set h true)≤g.length:=by
       have:=List.count_le_length (a:=false) (l:=(List.replicate g.length false).set h true);simpa [G.unmet] using this
      have hm0:G.todoM (1048576) ((List.replicate g.length false).set h true) todo≤1073741824:=by
       exact few (by omega) (by omega)
      repeat first|refine QG ?_|refine QY ?_ (r:=by conv=>lhs;simp[-List.map_set,QV,hkt,hhf,hlen0,hht])
      repeat refine QS ?_
      refine je [0,4,6,7,8,9,10] rfl (fun c σ S' => ∃ (inn:List Bool) (pre td:List Nat),G.Srch fr h todo g.length inn td∧c=G.todoM (1048576) inn td∧c≤1073741824∧σ=[(0,vl (vl vnat) g),(4,vl (vl vnat) fr),(6,vl (vl V.bool) t),(7, .slice (lid S.nx 0) 0 ls.length),(8,vnat h),(9, .slice (lid S.nx 1) 0 g.length),(10, .slice (lid S.nx 2) pre.length td.length)]∧S'=St S [] [some (2,jh jB ls),some (1,inn.map V.bool),some (1,pre.map vnat++td.map vnat)]) (G.todoM (1048576) ((List.replicate g.length false).set h true) todo) ?_ ?_
      ·exact ⟨_,[],_,hS0,rfl,hm0,by simp [Fr.only],by simp [List.map_set]⟩
      ·rintro c σ T ⟨inn,pre,td,hS,rfl,hcm,rfl,rfl⟩;have hil:=hS.len
       cases td with
       | nil =>
        have hie:=G.loopIn_eq hS;rw [←hie] at hst
        repeat refine QS ?_
        refine QY ?_
        repeat refine QS ?_
        refine jI rfl rfl rfl ?_
        repeat refine QS ?_
        refine jP 4 rfl rfl ?_
        repeat refine QS ?_
        refine QY ?_
        apply ju
        ·exact Reach.voidCell 1 (k:=3) (i:=1) (by simp) rfl rfl
        simp only [List.cons_append,List.nil_append,List.set_cons_succ,List.set_cons_zero,List.length_cons,List.length_nil,Nat.reduceAdd]
        repeat first|refine QG ?_|refine QY ?_
        repeat refine QS ?_
        refine je [0,4,6,7,8,9,13,14] rfl (fun c σ S' => ∃ k:Nat,k≤g.length∧c=g.length-k∧σ=[(0,vl (vl vnat) g),(4,vl (vl vnat) fr),(6,vl (vl V.bool) t),(7, .slice (lid S.nx 0) 0 ls.length),(8,vnat h),(9, .slice (lid S.nx 1) 0 g.length),(13, .ptr (lid S.nx 3) 0),(14,vnat k)]∧S'=St S [] [some (2,jh jB ls),some (1,inn.map V.bool),some (1,pre.map vnat),some (2,[vnat h, .slice (lid S.nx 4) 0 (G.picked inn k).length]),some (1,(G.picked inn k).map vnat)]) g.length ?_ ?_
        ·exact ⟨0,by omega,rfl,by simp [Fr.only],by simp [G.picked]⟩
        ·rintro c σ T ⟨k,hk,rfl,rfl,rfl⟩;have hpl:=G.picked_len inn k
         by_cases hkt:k<g.length
         ·have hwk:IntKind.i64.wrap ((k:Int)+1)=(k:Int)+1:=wrap_i64 (by omega) (by omega);have hki:k<inn.length:=by omega
          obtain ⟨x,hx⟩ : ∃ x,inn[k]=x:=⟨_,rfl⟩
          have hxd:inn.getD k false=x:=by simp [hki,hx]
          have hps:G.picked inn (k+1)=if x=true then G.picked inn k++[k] else G.picked inn k:=by simp only [G.picked,hxd]
          have hc8:((G.picked inn k).length+1)*8≤140737488355328:=by omega
          have hc1:(G.picked inn k).length+1≤140737488355328:=by omega
          generalize G.picked inn k=pk at *
          cases x with
          | true =>
           repeat first|refine QG ?_|refine QY ?_ (r:=by conv=>lhs;simp[-List.map_set,QV,hkt,hki,hx,hc8,hc1])
           refine jS [0,1,2,3,6] (by conv=>lhs; simp [Fr.only]) hwf (by decide) (by simp [-List.map_set,jp,jq]) (by conv=>lhs; simp [-List.map_set,jp,jq]) (by conv=>lhs; simp [-List.map_set,jp,jq]) (by conv=>lhs; simp [-List.map_set,jp,jq]) ⟨?_,k+1,hkt,rfl,by simp [hwk],by rw [hps]; simp⟩;omega
          | false =>
           repeat first|refine QG ?_|refine QY ?_ (r:=by conv=>lhs;simp[-List.map_set,QV,hkt,hki,hx,hc8,hc1])
           show jx _ _ _ _ _ _ _;exact again ⟨Nat.sub_lt_sub_left hkt (Nat.lt_succ_self k),k+1,hkt,rfl,by simp [Fr.only,hwk],by rw [hps]; simp⟩
         ·have hke:k=g.length:=by omega
          subst hke;generalize G.picked inn g.length=pk at *
          repeat refine QS ?_
          refine QY ?_ (r:=by conv=>lhs;simp[-List.map_set,QV,hkt])
          repeat refine QS ?_
          refine jI rfl rfl rfl ?_
          repeat refine QS ?_
          refine jP 6 rfl rfl ?_
          apply ju
          ·exact Reach.frzCell (k:=3) (j:=4) (i:=1) (n:=pk.length) (cells':=pk.map vnat) (by omega) (by simp) (by simp) rfl rfl rfl (jG vnat (fun _=>rfl) _) (by simp)
          simp only [List.set_cons_succ,List.set_cons_zero];have hfl2:ls.length*2=(jh jB ls).length:=by rw [zP Kc]
          have hc8:(ls.length+1)*32≤140737488355328:=by omega
          have hc1:ls.length+1≤140737488355328:=by omega
          have hsnoc:jh jB (ls++[(h,pk)])=jh jB ls++[vnat h,V.list (pk.map vnat)]:=by rw [zw,Kd]; rfl
          repeat first|refine QG ?_|refine QY ?_ (r:=by conv=>lhs;simp[-List.map_set,QV,hfl2,hc8,hc1,rep0])
          refine jS [6] (by conv=>lhs; simp [Fr.only]) hwf (by decide) (by simp [-List.map_set,jp,jq]) (by conv=>lhs; simp [-List.map_set,jp,jq]) (by conv=>lhs; simp [-List.map_set,jp,jq]) (by conv=>lhs; simp [-List.map_set,jp,jq]) ⟨?_,h+1,hht,rfl,by rw [hst]; simp [hw],by rw [hst,hsnoc]; simp⟩;omega
       | cons n td =>
        have hn:=hS.lt n (by simp);have hni:n<inn.length:=by omega
        have hnf:n<fr.length:=by omega
        have hfn:fr.getD n []=fr[n]:=by simp [hnf]
        have hrn:=hfm _ (List.getElem_mem hnf);have htl:td.length+1≤1073741824:=by
         have:G.todoM (1048576) inn (td++[n])=G.todoM (1048576) inn (n::td):=by simp [G.todoM]
         rw [←this] at hcm;exact few_len hcm
        have h0:(0:Int)<(td.length:Int)+1:=by omega
        have h2:(1:Int)≤(td.length:Int)+1:=by omega
        have hsub : ∀ t∈td,t∈n::td:=fun t ht=>by simp [ht]
        have hre : ∀ t∈n::td,t=n∨t∈td:=fun t ht=>by simpa using ht
        have hless:G.todoM (1048576) inn td<G.todoM (1048576) inn (n::td):=by simp [G.todoM]
        have hpre:(pre.map vnat++(n::td).map vnat)=((pre++[n]).map vnat++td.map vnat):=by simp
        obtain ⟨x,hx⟩ : ∃ x,inn[n]=x:=⟨_,rfl⟩
        have hxd:inn.getD n false=x:=by simp [hni,hx]
        cases x with
        | true =>
         have hS':=hS.seen hxd hsub hre
         repeat first|refine QG ?_|refine QY ?_ (r:=by conv=>lhs;simp[-List.map_set,QV,h0,h2,hn,hni,hx])
         show jx _ _ _ _ _ _ _;exact again ⟨hless,inn,pre++[n],td,hS',rfl,Nat.le_trans (Nat.le_of_lt hless) hcm,by simp [Fr.only],by rw [←hpre]; simp⟩
        | false =>
         have hS':=hS.take (todo':=td++fr[n]) (by simp) (by rw [hfn]; exact hfe _ (List.getElem_mem hnf)) hxd (fun t ht=>by
          rcases List.mem_append.1 ht with h | h
          ·exact .inl (by simp [h])
          ·exact .inr (by rw [hfn]; exact h)) (fun t ht=>by
          rcases hre t ht with h | h
          ·exact .inl h
          ·exact .inr (by simp [h])) (fun t ht=>by rw [hfn] at ht; simp [ht])
         have hmm:=G.todoM_take (M:=1048576) (todo:=n::td) (todo':=td++fr[n]) hni hx hrn (by simp; omega);have hc8:(td.length+fr[n].length)*8≤140737488355328:=by omega
         have hc1:td.length+fr[n].length≤140737488355328:=by omega
         have hap:=opAppend_off (S:=St S [] [some (2,jh jB ls),some (1,(inn.set n true).map V.bool),some (1,pre.map vnat++V.int .i64 (n:Int)::td.map vnat)]) (o:=lid S.nx 2) (off:=pre.length+1) (len:=td.length) (pre:=pre.map vnat++[vnat n]) (cells:=td.map vnat) (l:=fr[n]) (by simp [jC]) (by simp) (by simp) hc8 hc1
         repeat first|refine QG ?_|refine QY ?_ (r:=by conv=>lhs;simp[-List.map_set,QV,h0,h2,hn,hni,hx])
         repeat refine QS ?_
         refine QY ?_ (r:=by conv=>lhs;simp[-List.map_set,QV,hnf,hap])
         repeat first|refine QG ?_|refine QY ?_
         refine jS [0,1,3] (by conv=>lhs; simp [Fr.only]) hwf (by decide) (by simp [-List.map_set,jp,jq]) (by conv=>lhs; simp [-List.map_set,jp,jq]) (by conv=>lhs; simp [-List.map_set,jp,jq]) (by conv=>lhs; simp [-List.map_set,jp,jq]) ⟨?_,_,[],_,hS',rfl,Nat.le_trans (Nat.le_of_lt hmm) hcm,by simp,by simp⟩;exact hmm
  ·have hhe:h=g.length:=by omega
   subst hhe
   repeat first|refine QG ?_|refine QY ?_ (r:=by conv=>lhs;simp[-List.map_set,QV,hht])
   exact ji hwf ((Ghost.tuple [] [vint 0] (frzSt (k:=0) Kc Ja _ (by simp) rfl)).toB _) rfl
end Go.Vw

namespace Go.Vw
open Go.Proofs Go.RowKit
set_option maxRecDepth 10000
set_option maxHeartbeats 8000000
namespace G
theorem Ka (near:List Int) (fr:List (List Nat)) (N:Nat) : ∀ k, ∀ x∈loopsTo near fr N k,x.2.length≤N
 | 0,x,h=>by simp [loopsTo] at h
 | k+1,x,h=>by
  simp only [loopsTo] at h;split at h
  ·exact Ka near fr N k x h
  ·rcases List.mem_append.1 h with h | h
   ·exact Ka near fr N k x h
   ·simp at h;rw [h];exact picked_len _ N
noncomputable def loopsI (g:List (List Int)):List (Nat × List Nat):=if right g then loopsTo (rNear (nats g)) (froms (nats g)) (nats g).length (nats g).length else []
theorem loopsI_len (g:List (List Int)):(loopsI g).length≤256:=by
 simp only [loopsI];split
 ·rename_i h;have:=(right_ok h).max;have:=loopsTo_len (rNear (nats g)) (froms (nats g)) (nats g).length (nats g).length;omega
 ·simp
theorem loopsI_nodes (g:List (List Int)) : ∀ x∈loopsI g,x.2.length≤256:=by
 simp only [loopsI];split
 ·rename_i h;have h1:=(right_ok h).max;intro x hx;have:=Ka _ _ _ _ x hx;omega
 ·simp
theorem froms_few {g:List (List Nat)} (hg:Ok g) : ∀ r∈froms g,r.length≤1048576:=by
 intro r hr;have k1:=Wh _ _ r hr;have k2:=edges_len hg.row 0;have k3:=hg.max;rw [total_rep] at k1;omega
theorem froms_lt {g:List (List Nat)} (hg:Ok g) : ∀ r∈froms g, ∀ x∈r,x<g.length:=by
 intro r hr x hx;obtain ⟨i,hi,rfl⟩:=List.getElem_of_mem hr;have hig:i<g.length:=by rw [froms_length] at hi; exact hi
 have:=(mem_froms hg i x hig).1 (by simpa [hi] using hx);exact this.1
end G
theorem LoopsAll_v (g:List (List Int)) (h:Fits g):VPure Tryz.prog 25 [vl (vl vint) g] (.tuple [vl jB (G.loopsI g),vint (G.err g)]):=by
 cases hr:G.right g with
 | false =>
  simp only [G.loopsI,G.err,hr];exact gLoopsErr_v g h hr
 | true =>
  have c1:=KF g h;have c2:=FromAll_v g h;simp only [G.loopsI,G.nearI,G.fromI,G.err,hr,if_true] at c1 c2 ⊢;rw [G.right_enc hr] at c1 c2 ⊢;have hg:=G.right_ok hr;exact gLoops_v (G.nats g) hg _ _ c1 c2 (G.rNear_ok hg).len (G.froms_length _) (G.froms_few hg) (G.froms_lt hg)
theorem RLoopsAll_v (g:List (List Int)) (h:Fits g):VPure Tryz.prog 19 [vl (vl vint) g] (.tuple [vl jB (G.loopsI g),vint (G.err g)]):=by
 cases hr:G.right g with
 | false =>
  simp only [G.loopsI,G.err,hr];exact rLoopsErr_v g h hr
 | true =>
  have c2:=jbJ g h;simp only [G.loopsI,G.fromI,G.err,hr,if_true] at c2 ⊢;rw [G.right_enc hr] at c2 ⊢;have hg:=G.right_ok hr;rw [←G.loops_eq hg _ (Nat.le_refl _)];refine rLoops_v (G.nats g) hg _ _ (Table_v _ hg) c2 ?_ ?_ (G.froms_length _) (G.froms_few hg) (G.froms_lt hg)
  ·simp [G.table]
  ·intro a ha;simp only [G.table,G.tableRow,List.getElem_map];split<;>simp
end Go.Vw

namespace Ss
open Go.Vw.G
def tabOf (hm:List Int) (v:Int):Int:=hm.getD v.toNat 0
theorem licTo_more {e:Env} {f:Fn} (h:check e f=true) {k:Nat} (hk:wt f<k) (j:Nat):Ky (k+j) f=Ky k f:=by
 have add : ∀ (k:Nat) (f:Fn),Ky (k+j) f=Ky j (Ky k f):=by
  intro k
  induction k with
  | zero=>intro f; rw [Nat.zero_add]; rfl
  | succ k ih =>
   intro f;rw [show k+1+j=k+j+1 by omega]
   cases hf:first f.blocks (homeOf f) (lps f.blocks) with
   | none=>rw [Jn _ hf,Jn _ hf,Jn _ hf]
   | some m =>
    obtain ⟨p,n,i⟩:=m;rw [WL _ hf,WL _ hf,ih]
 rw [add,Jn _ (lic_end k f h hk)]
theorem jap {e:Env} {f:Fn} (h:check e f=true) {p n i:Nat} (hf:first f.blocks (homeOf f) (lps f.blocks)=some (p,n,i)):licF (moved f p n i)=licF f:=by
 obtain ⟨h1,h2,h3⟩:=ZN h hf;unfold licF;rw [WL _ hf];obtain ⟨j,hj⟩ : ∃ j,wt f=wt (moved f p n i)+1+j:=⟨wt f-(wt (moved f p n i)+1),by omega⟩
 rw [hj];exact (licTo_more h1 (Nat.lt_succ_self _) j).symm
structure LOk (e:Env) (f g:Fn) (hm:List Int):Prop where
 chk:check e g=true
 fits:g.Fits
 fin:licF g=licF f
 sig:g.sig=f.sig
 types:g.types=f.types
 succs:Ss.succs g.blocks=Ss.succs f.blocks
 len:hm.length=f.types.length
 home : ∀ v∈allL g.blocks,tabOf hm v=homeOf g v
theorem LOk.first {e:Env} {f g:Fn} {hm:List Int} (h:LOk e f g hm):Ss.first g.blocks (tabOf hm) (lps f.blocks)=Ss.first g.blocks (homeOf g) (lps g.blocks):=by
 have e1:lps g.blocks=lps f.blocks:=by unfold lps; rw [h.succs]
 rw [e1];refine Wm (fun n x hx a ha => ?_) _;have hb:g.blocks.getD n default∈g.blocks∨g.blocks.getD n default=default:=by
  rw [List.getD_eq_getElem?_getD]
  cases hn:g.blocks[n]? with
  | none=>exact .inr rfl
  | some b=>exact .inl (List.mem_of_getElem? hn)
 rcases hb with hb | hb
 ·exact h.home a (arg_made h.chk _ hb x hx a ha)
 ·rw [hb] at hx
  cases hx
theorem LOk.start {e:Env} {f:Fn} (h:check e f=true) (hf:f.Fits):LOk e f f (homesI f):=⟨h,hf,rfl,rfl,rfl,rfl,homesI_len f,fun v hv=>homes_home h v hv⟩
theorem LOk.end {e:Env} {f g:Fn} {hm:List Int} (h:LOk e f g hm) (hf:Ss.first g.blocks (tabOf hm) (lps f.blocks)=none):g=licF f:=by
 rw [h.first] at hf;have:=Jn (wt g+1) hf;rw [←h.fin]; exact this.symm
theorem LOk.step {e:Env} {f g:Fn} {hm:List Int} (h:LOk e f g hm) {p n i:Nat} (hf:Ss.first g.blocks (tabOf hm) (lps f.blocks)=some (p,n,i)) :
  ∃ (hp:p<g.blocks.length) (hn:n<g.blocks.length) (hi:i<g.blocks[n].code.length) (o:Nat),p≠n∧g.blocks[n].code[i].outs=[(o:Int)]∧o<hm.length∧moveAt g.blocks p n i=(g.blocks.set n (cutAt g.blocks[n] i)).set p (endWith g.blocks[p] g.blocks[n].code[i])∧LOk e f (moved g p n i) (hm.set o (p:Int))∧wt (moved g p n i)<wt g:=by
 rw [h.first] at hf;obtain ⟨bp,bn,x,hm',hx,hc,hr⟩:=Zv h.chk hf;obtain ⟨s1,s2,s3⟩:=ZN h.chk hf;have hd:=check_dok h.chk;obtain ⟨hp,ep⟩:=List.getElem?_eq_some_iff.1 hm'.hp;obtain ⟨hn,en⟩:=List.getElem?_eq_some_iff.1 hm'.hn;obtain ⟨hi,ei⟩:=List.getElem?_eq_some_iff.1 hm'.hi;have hbm:bn∈g.blocks:=List.mem_of_getElem? hm'.hn;have hxm:x∈bn.code:=List.mem_of_getElem? hm'.hi;obtain ⟨o,ho⟩:=hd.one bn hbm x hxm hx;have hoi:=hd.outs bn hbm x hxm o (by rw [ho]; simp);rw [h.types] at hoi;have heq:=hm'.eq;subst en;subst ep;subst ei;refine ⟨hp,hn,hi,o.toNat,hm'.ne,by rw [ho]; congr 1; have:=hoi.1; omega,by rw [h.len]; have:=hoi.1; have:=hoi.2; omega,heq, ?_,s3⟩;refine ⟨s1,ZO h.chk h.fits hf,(jap h.chk hf).trans h.fin,h.sig,h.types,s2.trans h.succs,by rw [List.length_set]; exact h.len,fun v hv => ?_⟩;have hv2:v∈allL g.blocks:=hm'.all.mem_iff.1 hv;have hvi:=all_in hd v hv2;rw [h.types] at hvi
 rw [move_home h.chk hm' s1 v hv2,ho];unfold tabOf
 by_cases e1:v=o
 ·subst e1;rw [if_pos (by simp),List.getD_eq_getElem?_getD,List.getElem?_set_self (by rw [h.len]; have:=hvi.1; have:=hvi.2; omega)]; rfl
 ·rw [if_neg (by simpa using e1),List.getD_eq_getElem?_getD,List.getElem?_set_ne (by have:=hvi.1; have:=hoi.1; omega), ←List.getD_eq_getElem?_getD];exact h.home v hv2
end Ss
