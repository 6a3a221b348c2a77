import Derived.Test.YtkfllaokjaldnaaGreatC11
import Derived.Test.YtkfllaokjaldnaaGreatC27
import Derived.Test.YtkfllaokjaldnaaGreatC32
import Derived.Test.YtkfllaokjaldnaaGreatC31
import Derived.Test.YtkfllaokjaldnaaGreatC13
import Derived.Test.YtkfllaokjaldnaaGreatProg
import Derived.WalkKit
import Derived.Deep.RegionLaw
import Derived.Lib.SliceRun
import Derived.Test.YtkfllaokjaldnaaGreatC4
import Derived.Test.YtkfllaokjaldnaaGreatC10
/-
  Part of the proof (texts LLoops, LRLoops, LAll, LRunP, LDelM, LDel).
-/
set_option linter.unusedVariables false
set_option linter.unusedSimpArgs false
namespace Go.Vw
open Go.Proofs Go.RowKit
set_option maxRecDepth 10000
set_option maxHeartbeats 16000000
def qb (x:Nat × List Nat):V := .agg [vnat x.1,vl vnat x.2]
theorem Wx (x:Nat × List Nat):(qb x).cells=[vnat x.1,vl vnat x.2]:=by simp [qb,V.cells]
theorem ZX (x:Nat × List Nat):(qb x).cells.length=2:=by rw [Wx]; rfl
theorem Jv (x:Nat × List Nat):(qb x).closed=true:=rfl
theorem jz (f:Nat→Nat) (ls:List (Nat × List Nat)):V.renL f (jq qb ls)=jq qb ls:=Wr Jv f ls
theorem jA (p:Nat→Bool) (ls:List (Nat × List Nat)):V.idsL p (jq qb ls)=true:=Ws Jv p ls
theorem zH (f:Nat→Nat) (n:Nat) (b:Bool):V.renL f (List.replicate n (V.bool b))=List.replicate n (V.bool b):=by
 have:=Zu f (List.replicate n b)
 simpa using this
theorem zK (p:Nat→Bool) (n:Nat) (b:Bool):V.idsL p (List.replicate n (V.bool b))=true:=by
 have:=ZQ p (List.replicate n b)
 simpa using this
theorem few {u t:Nat} (hu:u≤256) (ht:t≤1048576):u*(1048576+1)+t≤1073741824:=by omega
theorem few_len {M:Nat} {inn:List Bool} {td:List Nat} {n:Nat} (h:G.todoM M inn (td++[n])≤1073741824):td.length+1≤1073741824:=by
 simp only [G.todoM,List.length_append,List.length_cons,List.length_nil] at h
 have:=Nat.zero_le (G.unmet inn*(M+1))
 omega
theorem few_less {M:Nat} {inn:List Bool} {td:List Nat} {n:Nat}:G.todoM M inn td<G.todoM M inn (td++[n]):=by
 simp [G.todoM]
def Few (inn:List Bool) (todo:List Nat):Prop:=G.todoM (1048576) inn todo≤1073741824
theorem gLoopsErr_v (g:List (List Int)) (h:Fits g) (hr:G.right g=false):VPure Tryz.prog 25 [vl (vl vint) g] (.tuple [vl qb [],vint 1]):=by
 intro S
 have e:G.err g=1:=by simp [G.err,hr]
 refine jb (c:=jf Tryz.f25) Tryz.func25 rfl rfl (by simp [Tryz.ntmps25]) ?_
 rw [Tryz.ntmps25]
 intro hwf
 repeat (first|refine QG ?_|refine QY ?_)
 repeat refine QS ?_
 refine QP ?_
 refine jn rfl (Kr g h) ?_
 refine QM (by conv=>lhs;simp[-List.map_set,QV]) ?_
 refine QN ?_
 repeat (first|refine QG ?_|refine QY ?_ (r:=by conv=>lhs;simp[-List.map_set,QV,e]))
 exact jh (l:=[]) hwf ((Ghost.tuple [] [vint 1] (Ghost.nils_list _)).toB _) rfl
theorem gLoops_v (g:List (List Nat)) (hg:G.Ok g) (near:List Int) (fr:List (List Nat)) (cn:VPure Tryz.prog 77 [vl (vl vnat) g] (.tuple [vl vint near,vint 0])) (cf:VPure Tryz.prog 78 [vl (vl vnat) g] (.tuple [vl (vl vnat) fr,vint 0]))
  (hnl:near.length=g.length) (hfl:fr.length=g.length) (hfm : ∀ r∈fr,r.length≤1048576) (hfe : ∀ r∈fr, ∀ x∈r,x<g.length) :
  VPure Tryz.prog 25 [vl (vl vnat) g] (.tuple [vl qb (G.loopsTo near fr g.length g.length),vint 0]):=by
 intro S
 refine jb (c:=jf Tryz.f25) Tryz.func25 rfl rfl (by simp [Tryz.ntmps25]) ?_
 rw [Tryz.ntmps25]
 intro hwf
 have hm:=hg.max
 have hp:=hg.pos
 have hb1:g.length*1≤140737488355328:=by omega
 have hb0:g.length≤140737488355328:=by omega
 repeat (first|refine QG ?_|refine QY ?_)
 repeat refine QS ?_
 refine QP ?_
 refine jn rfl (cn) ?_
 refine QM (by conv=>lhs;simp[-List.map_set,QV]) ?_
 refine QN ?_
 repeat (first|refine QG ?_|refine QY ?_)
 repeat refine QS ?_
 refine QP ?_
 refine jn rfl (cf) ?_
 refine QM (by conv=>lhs;simp[-List.map_set,QV]) ?_
 refine QN ?_
 repeat refine QS ?_
 refine QP ?_
 refine QN ?_
 refine zd 8 2 rfl (by conv=>lhs; simp [Fr.set]) ?_
 repeat (first|refine QG ?_|refine QY ?_)
 repeat refine QS ?_
 refine je [0,4,6,8,32,33] rfl (fun c σ S' => ∃ h:Nat,h≤g.length∧c=g.length-h∧σ=[(0,vl (vl vnat) g),(4,vl vint near),(6,vl (vl vnat) fr),(8, .slice (lid S.nx 0) 0 (G.loopsTo near fr g.length h).length),(32,vnat g.length),(33,vnat h)]∧S'=St S [] [some (2,jq qb (G.loopsTo near fr g.length h))]) g.length ?_ ?_
 ·exact ⟨0,by omega,rfl,by simp [Fr.only,G.loopsTo],by simp [G.loopsTo,jq]⟩
 ·rintro c σ T ⟨h,hh,rfl,rfl,rfl⟩
  by_cases hht:h<g.length
  ·have hw:IntKind.i64.wrap ((h:Int)+1)=(h:Int)+1:=wrap_i64 (by omega) (by omega)
   have hhn:h<near.length:=by omega
   have hhf:h<fr.length:=by omega
   have hnd:near.getD h 0=near[h]:=by simp [hhn]
   have hfd:fr.getD h []=fr[h]:=by simp [hhf]
   have hrow:=hfm _ (List.getElem_mem hhf)
   have hrowe:=hfe _ (List.getElem_mem hhf)
   have hst:G.loopsTo near fr g.length (h+1)=if (0<h∧near[h]<0)∨G.backs near h fr[h]=[] then G.loopsTo near fr g.length h else G.loopsTo near fr g.length h++[(h,G.picked (G.loopIn fr h (G.backs near h fr[h]) g.length) g.length)]:=by
    simp only [G.loopsTo,hnd,hfd]
   have hlo:=G.loopsTo_len near fr g.length h
   generalize G.loopsTo near fr g.length h=ls at *
   by_cases hskip:0<h∧near[h]<0
   ·rw [if_pos (.inl hskip)] at hst
    obtain ⟨h1,h2⟩:=hskip
    have h1':(0:Int)<(h:Int):=by omega
    repeat (first|refine QG ?_|refine QY ?_ (r:=by conv=>lhs;simp[-List.map_set,QV,hht,hhn,h1,h1',h2]))
    show jy _ _ _ _ _ _ _
    exact again ⟨Nat.sub_lt_sub_left hht (Nat.lt_succ_self h),h+1,hht,rfl,by rw [hst]; simp [Fr.only,hw],by rw [hst]⟩
   ·have hge:0<h → ¬ near[h]<0:=fun h1 h2=>hskip ⟨h1,h2⟩
    repeat (first|refine QG ?_|refine QY ?_ (r:=by conv=>lhs;simp[-List.map_set,QV,hht]))
    repeat refine QS ?_
    refine jal (0<h) [0,4,6,8,9,32,33,44] rfl (by conv=>lhs; reduce) (fun hyes=>⟨_,by conv=>lhs; simp [-List.map_set,QV,hyes,hhn,(hge hyes)],by conv=>lhs; simp [Fr.only]⟩) (fun hno=>⟨_,by conv=>lhs; simp [-List.map_set,QV,hno,hhn],by conv=>lhs; simp [Fr.only]⟩) ?_
    repeat (first|refine QG ?_|refine QY ?_ (r:=by conv=>lhs;simp[-List.map_set,QV,hb1,hb0,hhf]))
    refine zd 11 1 rfl (by conv=>lhs; simp [Fr.set]) ?_
    repeat (first|refine QG ?_|refine QY ?_ (r:=by conv=>lhs;simp[-List.map_set,QV,hhf]))
    generalize hts:G.backs near h fr[h]=ts at *
    have htsl:ts.length≤fr[h].length:=by rw [←hts]; exact List.length_filter_le _ _
    repeat refine QS ?_
    refine je [0,4,6,8,9,10,11,32,33,51,52,53] rfl (fun c σ S' => ∃ (k:Nat) (todo:List Nat),k≤fr[h].length∧c=fr[h].length-k∧todo++G.backs near h (fr[h].drop k)=ts∧σ=[(0,vl (vl vnat) g),(4,vl vint near),(6,vl (vl vnat) fr),(8, .slice (lid S.nx 0) 0 ls.length),(9,vnat h),(10, .slice (lid S.nx 1) 0 g.length),(11, .slice (lid S.nx 2) 0 todo.length),(32,vnat g.length),(33,vnat h),(51,vl vnat fr[h]),(52,vnat fr[h].length),(53,vnat k)]∧S'=St S [] [some (2,jq qb ls),some (1,(List.replicate g.length false).map V.bool),some (1,todo.map vnat)]) fr[h].length ?_ ?_
    ·exact ⟨0,[],by omega,rfl,by simpa using hts,by simp [Fr.only],by simp⟩
    ·rintro c σ T ⟨k,todo,hk,rfl,hdo,rfl,rfl⟩
     have htdl:todo.length≤ts.length:=by rw [←hdo]; simp
     by_cases hkt:k<fr[h].length
     ·have hwk:IntKind.i64.wrap ((k:Int)+1)=(k:Int)+1:=wrap_i64 (by omega) (by omega)
      rw [List.drop_eq_getElem_cons hkt] at hdo
      generalize hpe:fr[h][k]=p at hdo
      have hd:=jaj near h p (by omega)
      repeat (first|refine QG ?_|refine QY ?_ (r:=by conv=>lhs;simp[-List.map_set,QV,hkt,hpe]))
      repeat refine QS ?_
      refine QP ?_
      refine jn rfl (hd) ?_
      refine QM (by conv=>lhs;simp[-List.map_set,QV]) ?_
      refine QN ?_
      cases hb:G.dominates near h p with
      | true =>
       have hc8:(todo.length+1)*8≤140737488355328:=by omega
       have hc1:todo.length+1≤140737488355328:=by omega
       have hdo':(todo++[p])++G.backs near h (fr[h].drop (k+1))=ts:=by
        rw [←hdo]; simp [G.backs,hb]
       repeat (first|refine QG ?_|refine QY ?_ (r:=by conv=>lhs;simp[-List.map_set,QV,hb,hc8,hc1]))
       refine qi [0,1,4] (by conv=>lhs; simp [Fr.only]) hwf (by decide) (by simp [-List.map_set,jz,jA,zH,zK]) (by conv=>lhs; simp [-List.map_set,jz,jA,zH,zK]) (by conv=>lhs; simp [-List.map_set,jz,jA,zH,zK]) (by conv=>lhs; simp [-List.map_set,jz,jA,zH,zK]) ⟨?_,k+1,todo++[p],hkt,rfl,hdo',by simp [hwk],by simp⟩
       omega
      | false =>
       have hdo':todo++G.backs near h (fr[h].drop (k+1))=ts:=by
        rw [←hdo]; simp [G.backs,hb]
       repeat (first|refine QG ?_|refine QY ?_ (r:=by conv=>lhs;simp[-List.map_set,QV,hb]))
       show jy _ _ _ _ _ _ _
       exact again ⟨Nat.sub_lt_sub_left hkt (Nat.lt_succ_self k),k+1,todo,hkt,rfl,hdo',by simp [Fr.only,hwk],by simp⟩
     ·have hke:k=fr[h].length:=by omega
      subst hke
      simp only [List.drop_length] at hdo
      have hts':todo=ts:=by simpa [G.backs] using hdo
      subst hts'
      by_cases hemp:todo=[]
      ·rw [if_pos (.inr hemp)] at hst
       subst hemp
       repeat (first|refine QG ?_|refine QY ?_ (r:=by conv=>lhs;simp[-List.map_set,QV,hkt]))
       refine qi [0] (by conv=>lhs; simp [Fr.only]) hwf (by decide) (by simp [-List.map_set,jz,jA,zH,zK]) (by conv=>lhs; simp [-List.map_set,jz,jA,zH,zK]) (by conv=>lhs; simp [-List.map_set,jz,jA,zH,zK]) (by conv=>lhs; simp [-List.map_set,jz,jA,zH,zK]) ⟨?_,h+1,hht,rfl,by rw [hst]; simp [hw],by rw [hst]⟩
       omega
      ·rw [if_neg (by rintro (h1 | h1); exact hskip h1; exact hemp h1)] at hst
       have hlen0 : ¬ todo.length=0:=fun e=>hemp (List.eq_nil_of_length_eq_zero e)
       have hlt : ∀ t∈todo,t<g.length:=fun t ht=>hrowe t (by rw [←hts] at ht; exact (List.mem_filter.1 ht).1)
       have hS0:=G.Srch.start (fr:=fr) hht hlt
       repeat (first|refine QG ?_|refine QY ?_ (r:=by conv=>lhs;simp[-List.map_set,QV,hkt,hlen0,hht]))
       have hum:G.unmet ((List.replicate g.length false).set h true)≤g.length:=by
        have:=List.count_le_length (a:=false) (l:=(List.replicate g.length false).set h true)
        simpa [G.unmet] using this
       have hm0:G.todoM (1048576) ((List.replicate g.length false).set h true) todo≤1073741824:=by
        exact few (by omega) (by omega)
       repeat refine QS ?_
       refine je [0,4,6,8,9,10,11,32,33] rfl (fun c σ S' => ∃ (inn:List Bool) (td:List Nat),G.Srch fr h todo g.length inn td∧c=G.todoM (1048576) inn td∧c≤1073741824∧σ=[(0,vl (vl vnat) g),(4,vl vint near),(6,vl (vl vnat) fr),(8, .slice (lid S.nx 0) 0 ls.length),(9,vnat h),(10, .slice (lid S.nx 1) 0 g.length),(11, .slice (lid S.nx 2) 0 td.length),(32,vnat g.length),(33,vnat h)]∧S'=St S [] [some (2,jq qb ls),some (1,inn.map V.bool),some (1,td.map vnat)]) (G.todoM (1048576) ((List.replicate g.length false).set h true) todo) ?_ ?_
       ·exact ⟨_,_,hS0,rfl,hm0,by simp [Fr.only],by simp [List.map_set]⟩
       ·rintro c σ T ⟨inn,td,hS,rfl,hcm,rfl,rfl⟩
        have hil:=hS.len
        rcases List.eq_nil_or_concat td with rfl | ⟨td,n,rfl⟩
        ·have hie:=G.loopIn_eq hS
         rw [←hie] at hst
         repeat refine QS ?_
         refine QP ?_
         refine QN ?_
         repeat refine QS ?_
         refine jF rfl rfl rfl ?_
         repeat refine QS ?_
         refine jN 4 rfl rfl ?_
         repeat refine QS ?_
         refine QP ?_
         refine QN ?_
         apply jt
         ·exact Reach.voidCell 1 (k:=3) (i:=1) (by simp) rfl rfl
         simp only [List.cons_append,List.nil_append,List.set_cons_succ,List.set_cons_zero,List.length_cons,List.length_nil,Nat.reduceAdd]
         repeat (first|refine QG ?_|refine QY ?_)
         repeat refine QS ?_
         refine je [0,4,6,8,15,32,33,102,103,104] rfl (fun c σ S' => ∃ k:Nat,k≤g.length∧c=g.length-k∧σ=[(0,vl (vl vnat) g),(4,vl vint near),(6,vl (vl vnat) fr),(8, .slice (lid S.nx 0) 0 ls.length),(15, .ptr (lid S.nx 3) 0),(32,vnat g.length),(33,vnat h),(102, .slice (lid S.nx 1) 0 g.length),(103,vnat g.length),(104,vnat k)]∧S'=St S [] [some (2,jq qb ls),some (1,inn.map V.bool),some (1,[]),some (2,[vnat h, .slice (lid S.nx 4) 0 (G.picked inn k).length]),some (1,(G.picked inn k).map vnat)]) g.length ?_ ?_
         ·exact ⟨0,by omega,rfl,by simp [Fr.only],by simp [G.picked]⟩
         ·rintro c σ T ⟨k,hk,rfl,rfl,rfl⟩
          have hpl:=G.picked_len inn k
          by_cases hkt:k<g.length
          ·have hwk:IntKind.i64.wrap ((k:Int)+1)=(k:Int)+1:=wrap_i64 (by omega) (by omega)
           have hki:k<inn.length:=by omega
           obtain ⟨x,hx⟩ : ∃ x,inn[k]=x:=⟨_,rfl⟩
           have hxd:inn.getD k false=x:=by simp [hki,hx]
           have hps:G.picked inn (k+1)=if x=true then G.picked inn k++[k] else G.picked inn k:=by simp only [G.picked,hxd]
           have hc8:((G.picked inn k).length+1)*8≤140737488355328:=by omega
           have hc1:(G.picked inn k).length+1≤140737488355328:=by omega
           generalize G.picked inn k=pk at *
           cases x with
           | true =>
            repeat (first|refine QG ?_|refine QY ?_ (r:=by conv=>lhs;simp[-List.map_set,QV,hkt,hki,hx,hc8,hc1]))
            refine qi [0,1,2,3,6] (by conv=>lhs; simp [Fr.only]) hwf (by decide) (by simp [-List.map_set,jz,jA]) (by conv=>lhs; simp [-List.map_set,jz,jA]) (by conv=>lhs; simp [-List.map_set,jz,jA]) (by conv=>lhs; simp [-List.map_set,jz,jA]) ⟨?_,k+1,hkt,rfl,by simp [hwk],by rw [hps]; simp⟩
            omega
           | false =>
            repeat (first|refine QG ?_|refine QY ?_ (r:=by conv=>lhs;simp[-List.map_set,QV,hkt,hki,hx,hc8,hc1]))
            show jy _ _ _ _ _ _ _
            exact again ⟨Nat.sub_lt_sub_left hkt (Nat.lt_succ_self k),k+1,hkt,rfl,by simp [Fr.only,hwk],by rw [hps]; simp⟩
          ·have hke:k=g.length:=by omega
           subst hke
           generalize G.picked inn g.length=pk at *
           repeat refine QS ?_
           refine QP ?_ (r:=by conv=>lhs;simp[-List.map_set,QV,hkt])
           refine QN ?_
           repeat refine QS ?_
           refine jF rfl rfl rfl ?_
           repeat refine QS ?_
           refine jN 6 rfl rfl ?_
           apply jt
           ·exact Reach.frzCell (k:=3) (j:=4) (i:=1) (n:=pk.length) (cells':=pk.map vnat) (by omega) (by simp) (by simp) rfl rfl rfl (jI vnat (fun _=>rfl) _) (by simp)
           simp only [List.set_cons_succ,List.set_cons_zero]
           have hfl2:ls.length*2=(jq qb ls).length:=by rw [Kl ZX]
           have hc8:(ls.length+1)*32≤140737488355328:=by omega
           have hc1:ls.length+1≤140737488355328:=by omega
           have hsnoc:jq qb (ls++[(h,pk)])=jq qb ls++[vnat h,V.list (pk.map vnat)]:=by rw [JA,Wx]; rfl
           repeat (first|refine QG ?_|refine QY ?_ (r:=by conv=>lhs;simp[-List.map_set,QV,hfl2,hc8,hc1,rep0]))
           refine qi [6] (by conv=>lhs; simp [Fr.only]) hwf (by decide) (by simp [-List.map_set,jz,jA]) (by conv=>lhs; simp [-List.map_set,jz,jA]) (by conv=>lhs; simp [-List.map_set,jz,jA]) (by conv=>lhs; simp [-List.map_set,jz,jA]) ⟨?_,h+1,hht,rfl,by rw [hst]; simp [hw],by rw [hst,hsnoc]; simp⟩
           omega
        ·rw [List.concat_eq_append] at *
         have hn:=hS.lt n (by simp)
         have hni:n<inn.length:=by omega
         have hnf:n<fr.length:=by omega
         have hfn:fr.getD n []=fr[n]:=by simp [hnf]
         have hrn:=hfm _ (List.getElem_mem hnf)
         have htl:td.length+1≤1073741824:=few_len hcm
         have hw1:IntKind.i64.wrap ((td.length:Int)+1-1)=(td.length:Int):=by
          rw [wrap_i64 (by omega) (by omega)]; omega
         have hw2:IntKind.i64.wrap (td.length:Int)=(td.length:Int):=wrap_i64 (by omega) (by omega)
         have h0:(0:Int)<(td.length:Int)+1:=by omega
         have h1:(td.length:Int)<(td.length:Int)+1:=by omega
         have h2:(td.length:Int)≤(td.length:Int)+1:=by omega
         have hsub : ∀ t∈td,t∈td++[n]:=fun t ht=>by simp [ht]
         have hre : ∀ t∈td++[n],t=n∨t∈td:=fun t ht=>by
          rcases List.mem_append.1 ht with h | h
          ·exact .inr h
          ·simp at h; exact .inl h
         repeat refine QS ?_
         refine QP ?_ (r:=by conv=>lhs;simp[-List.map_set,QV,h0])
         refine QN ?_
         repeat refine QS ?_
         refine jC rfl rfl rfl ?_
         repeat refine QS ?_
         refine jB rfl ?_
         repeat refine QS ?_
         refine jH 5 rfl rfl ?_
         repeat refine QS ?_
         refine QP ?_ (r:=by conv=>lhs;simp[-List.map_set,QV,hw1,hw2,h0,h1])
         refine QN ?_
         repeat refine QS ?_
         refine QP ?_ (r:=by conv=>lhs;simp[-List.map_set,QV,hw1,hw2,h0,h1,h2])
         refine QN ?_
         refine vw_trim 11 td.length rfl (by simp) rfl (by conv=>lhs; simp [List.set_cons_zero,List.set_cons_succ]) ?_
         obtain ⟨x,hx⟩ : ∃ x,inn[n]=x:=⟨_,rfl⟩
         have hxd:inn.getD n false=x:=by simp [hni,hx]
         cases x with
         | true =>
          have hS':=hS.seen hxd hsub hre
          repeat (first|refine QG ?_|refine QY ?_ (r:=by conv=>lhs;simp[-List.map_set,QV,hn,hni,hx]))
          refine qi [0,1,2] (by conv=>lhs; simp [Fr.only]) hwf (by decide) (by simp [-List.map_set,jz,jA]) (by conv=>lhs; simp [-List.map_set,jz,jA]) (by conv=>lhs; simp [-List.map_set,jz,jA]) (by conv=>lhs; simp [-List.map_set,jz,jA]) ⟨?_,inn,td,hS',rfl,Nat.le_trans (Nat.le_of_lt few_less) hcm,by simp,by simp⟩
          exact few_less
         | false =>
          have hS':=hS.take (todo':=td++fr[n]) (by simp) (by rw [hfn]; exact hfe _ (List.getElem_mem hnf)) hxd (fun t ht=>by
           rcases List.mem_append.1 ht with h | h
           ·exact .inl (by simp [h])
           ·exact .inr (by rw [hfn]; exact h)) (fun t ht=>by
           rcases hre t ht with h | h
           ·exact .inl h
           ·exact .inr (by simp [h])) (fun t ht=>by rw [hfn] at ht; simp [ht])
          have hmm:=G.todoM_take (M:=1048576) (todo:=td++[n]) (todo':=td++fr[n]) hni hx hrn (by simp; omega)
          have hc8:(td.length+fr[n].length)*8≤140737488355328:=by omega
          have hc1:td.length+fr[n].length≤140737488355328:=by omega
          repeat (first|refine QG ?_|refine QY ?_ (r:=by conv=>lhs;simp[-List.map_set,QV,hn,hni,hx,hnf,ZF,nc_vnat,hc8,hc1,flatC_vnat]))
          refine qi [0,1,3] (by conv=>lhs; simp [Fr.only]) hwf (by decide) (by simp [-List.map_set,jz,jA]) (by conv=>lhs; simp [-List.map_set,jz,jA]) (by conv=>lhs; simp [-List.map_set,jz,jA]) (by conv=>lhs; simp [-List.map_set,jz,jA]) ⟨?_,_,_,hS',rfl,Nat.le_trans (Nat.le_of_lt hmm) hcm,by simp,by simp⟩
          exact hmm
  ·have hhe:h=g.length:=by omega
   subst hhe
   repeat (first|refine QG ?_|refine QY ?_ (r:=by conv=>lhs;simp[-List.map_set,QV,hht]))
   exact jh hwf ((Ghost.tuple [] [vint 0] (frzSt (k:=0) ZX Jv _ (by simp) rfl)).toB _) rfl
end Go.Vw

namespace Go.Vw
open Go.Proofs Go.RowKit
set_option maxRecDepth 10000
set_option maxHeartbeats 16000000
end Go.Vw

namespace Go.Vw
open Go.Proofs Go.RowKit
set_option maxRecDepth 10000
set_option maxHeartbeats 8000000
namespace G
theorem JI (near:List Int) (fr:List (List Nat)) (N:Nat) : ∀ k, ∀ x∈loopsTo near fr N k,x.2.length≤N
 | 0,x,h=>by simp [loopsTo] at h
 | k+1,x,h=>by
  simp only [loopsTo] at h
  split at h
  ·exact JI near fr N k x h
  ·rcases List.mem_append.1 h with h | h
   ·exact JI near fr N k x h
   ·simp at h
    rw [h]
    exact picked_len _ N
noncomputable def loopsI (g:List (List Int)):List (Nat × List Nat):=if right g then loopsTo (rNear (nats g)) (froms (nats g)) (nats g).length (nats g).length else []
theorem loopsI_len (g:List (List Int)):(loopsI g).length≤256:=by
 simp only [loopsI]
 split
 ·rename_i h
  have:=(right_ok h).max
  have:=loopsTo_len (rNear (nats g)) (froms (nats g)) (nats g).length (nats g).length
  omega
 ·simp
theorem loopsI_nodes (g:List (List Int)) : ∀ x∈loopsI g,x.2.length≤256:=by
 simp only [loopsI]
 split
 ·rename_i h
  have h1:=(right_ok h).max
  intro x hx
  have:=JI _ _ _ _ x hx
  omega
 ·simp
theorem froms_few {g:List (List Nat)} (hg:Ok g) : ∀ r∈froms g,r.length≤1048576:=by
 intro r hr
 have k1:=KN _ _ r hr
 have k2:=edges_len hg.row 0
 have k3:=hg.max
 rw [total_rep] at k1
 omega
theorem froms_lt {g:List (List Nat)} (hg:Ok g) : ∀ r∈froms g, ∀ x∈r,x<g.length:=by
 intro r hr x hx
 obtain ⟨i,hi,rfl⟩:=List.getElem_of_mem hr
 have hig:i<g.length:=by rw [froms_length] at hi; exact hi
 have:=(mem_froms hg i x hig).1 (by simpa [hi] using hx)
 exact this.1
end G
theorem LoopsAll_v (g:List (List Int)) (h:Fits g):VPure Tryz.prog 25 [vl (vl vint) g] (.tuple [vl qb (G.loopsI g),vint (G.err g)]):=by
 cases hr:G.right g with
 | false =>
  simp only [G.loopsI,G.err,hr]
  exact gLoopsErr_v g h hr
 | true =>
  have c1:=Kr g h
  have c2:=FromAll_v g h
  simp only [G.loopsI,G.nearI,G.fromI,G.err,hr,if_true] at c1 c2 ⊢
  rw [G.right_enc hr] at c1 c2 ⊢
  have hg:=G.right_ok hr
  exact gLoops_v (G.nats g) hg _ _ c1 c2 (G.rNear_ok hg).len (G.froms_length _) (G.froms_few hg) (G.froms_lt hg)
end Go.Vw

namespace Ss
open Go.Vw.G
def tabOf (hm:List Int) (v:Int):Int:=hm.getD v.toNat 0
theorem licTo_more {e:Env} {f:Fn} (h:check e f=true) {k:Nat} (hk:wt f<k) (j:Nat):Kh (k+j) f=Kh k f:=by
 have add : ∀ (k:Nat) (f:Fn),Kh (k+j) f=Kh j (Kh k f):=by
  intro k
  induction k with
  | zero=>intro f; rw [Nat.zero_add]; rfl
  | succ k ih =>
   intro f
   rw [show k+1+j=k+j+1 by omega]
   cases hf:first f.blocks (qr f) (lps f.blocks) with
   | none=>rw [zV _ hf,zV _ hf,zV _ hf]
   | some m =>
    obtain ⟨p,n,i⟩:=m
    rw [Wm _ hf,Wm _ hf,ih]
 rw [add,zV _ (lic_end k f h hk)]
theorem licF_step {e:Env} {f:Fn} (h:check e f=true) {p n i:Nat} (hf:first f.blocks (qr f) (lps f.blocks)=some (p,n,i)):licF (moved f p n i)=licF f:=by
 obtain ⟨h1,h2,h3⟩:=jbg h hf
 unfold licF
 rw [Wm _ hf]
 obtain ⟨j,hj⟩ : ∃ j,wt f=wt (moved f p n i)+1+j:=⟨wt f-(wt (moved f p n i)+1),by omega⟩
 rw [hj]
 exact (licTo_more h1 (Nat.lt_succ_self _) j).symm
structure LOk (e:Env) (f g:Fn) (hm:List Int):Prop where
 chk:check e g=true
 fits:g.Fits
 fin:licF g=licF f
 sig:g.sig=f.sig
 types:g.types=f.types
 succs:Ss.succs g.blocks=Ss.succs f.blocks
 len:hm.length=f.types.length
 home : ∀ v∈allL g.blocks,tabOf hm v=qr g v
theorem LOk.first {e:Env} {f g:Fn} {hm:List Int} (h:LOk e f g hm):Ss.first g.blocks (tabOf hm) (lps f.blocks)=Ss.first g.blocks (qr g) (lps g.blocks):=by
 have e1:lps g.blocks=lps f.blocks:=by unfold lps; rw [h.succs]
 rw [e1]
 refine ZT (fun n x hx a ha => ?_) _
 have hb:g.blocks.getD n default∈g.blocks∨g.blocks.getD n default=default:=by
  rw [List.getD_eq_getElem?_getD]
  cases hn:g.blocks[n]? with
  | none=>exact .inr rfl
  | some b=>exact .inl (List.mem_of_getElem? hn)
 rcases hb with hb | hb
 ·exact h.home a (arg_made h.chk _ hb x hx a ha)
 ·rw [hb] at hx
  cases hx
theorem LOk.start {e:Env} {f:Fn} (h:check e f=true) (hf:f.Fits):LOk e f f (homesI f):=⟨h,hf,rfl,rfl,rfl,rfl,homesI_len f,fun v hv=>homes_home h v hv⟩
theorem LOk.end {e:Env} {f g:Fn} {hm:List Int} (h:LOk e f g hm) (hf:Ss.first g.blocks (tabOf hm) (lps f.blocks)=none):g=licF f:=by
 rw [h.first] at hf
 have:=zV (wt g+1) hf
 rw [←h.fin]; exact this.symm
theorem LOk.step {e:Env} {f g:Fn} {hm:List Int} (h:LOk e f g hm) {p n i:Nat} (hf:Ss.first g.blocks (tabOf hm) (lps f.blocks)=some (p,n,i)) :
  ∃ (hp:p<g.blocks.length) (hn:n<g.blocks.length) (hi:i<g.blocks[n].code.length) (o:Nat),p≠n∧g.blocks[n].code[i].outs=[(o:Int)]∧o<hm.length∧moveAt g.blocks p n i=(g.blocks.set n (cutAt g.blocks[n] i)).set p (endWith g.blocks[p] g.blocks[n].code[i])∧LOk e f (moved g p n i) (hm.set o (p:Int))∧wt (moved g p n i)<wt g:=by
 rw [h.first] at hf
 obtain ⟨bp,bn,x,hm',hx,hc,hr⟩:=jbI h.chk hf
 obtain ⟨s1,s2,s3⟩:=jbg h.chk hf
 have hd:=check_dok h.chk
 obtain ⟨hp,ep⟩:=List.getElem?_eq_some_iff.1 hm'.hp
 obtain ⟨hn,en⟩:=List.getElem?_eq_some_iff.1 hm'.hn
 obtain ⟨hi,ei⟩:=List.getElem?_eq_some_iff.1 hm'.hi
 have hbm:bn∈g.blocks:=List.mem_of_getElem? hm'.hn
 have hxm:x∈bn.code:=List.mem_of_getElem? hm'.hi
 obtain ⟨o,ho⟩:=hd.one bn hbm x hxm hx
 have hoi:=hd.outs bn hbm x hxm o (by rw [ho]; simp)
 rw [h.types] at hoi
 have heq:=hm'.eq
 subst en
 subst ep
 subst ei
 refine ⟨hp,hn,hi,o.toNat,hm'.ne,by rw [ho]; congr 1; have:=hoi.1; omega,by rw [h.len]; have:=hoi.1; have:=hoi.2; omega,heq, ?_,s3⟩
 refine ⟨s1,step_fits h.chk h.fits hf,(licF_step h.chk hf).trans h.fin,h.sig,h.types,s2.trans h.succs,by rw [List.length_set]; exact h.len,fun v hv => ?_⟩
 have hv2:v∈allL g.blocks:=hm'.all.mem_iff.1 hv
 have hvi:=all_in hd v hv2
 rw [h.types] at hvi
 rw [move_home h.chk hm' s1 v hv2,ho]
 unfold tabOf
 by_cases e1:v=o
 ·subst e1
  rw [if_pos (by simp),List.getD_eq_getElem?_getD,List.getElem?_set_self (by rw [h.len]; have:=hvi.1; have:=hvi.2; omega)]; rfl
 ·rw [if_neg (by simpa using e1),List.getD_eq_getElem?_getD,List.getElem?_set_ne (by have:=hvi.1; have:=hoi.1; omega), ←List.getD_eq_getElem?_getD]
  exact h.home v hv2
end Ss

namespace Go.Vw
open Go.Proofs Go.RowKit
theorem insInfo:(Tryz.prog.info? 65).map (fun i=>(i.zero,i.size,i.bytes))=some (some (.agg #[.int .i64 0, .int .u64 0, .slice none 0 0, .slice none 0 0]),4,64):=by kernel_rfl
set_option maxHeartbeats 1600000 in
set_option maxRecDepth 1000000 in
theorem InsDel_calls (b off n cap i:Nat) (cells:List Value) (w:World) (hl:cells.length=n*4) (hi:i<n) (hcap:n≤cap) (hm:cap≤9223372036854775807)
  (hc : ∀ t,t<cells.length→w.cell? ⟨b,off+t,none⟩=cells[t]?) (hf : ∀ t,t<cells.length→w.frozen? ⟨b,off+t,none⟩=false) (h1 : ∀ u∈cells,u.oneCell'=true)
  (W1:World) (hW1:W1=w.drew.setCells b (off+i*4) (cells.drop ((i+1)*4))) (W2:World)
  (hcl : ∀ ty,(Builtin.clear_ #[57] ty #[.slice (some ⟨b,off+(i+(n-(i+1)))*4,none⟩) (n-(i+(n-(i+1)))) (cap-(i+(n-(i+1))))]).run Tryz.prog W1 = .ok (.tuple #[]) W2) :
  Calls Tryz.prog 33 #[.slice (some ⟨b,off,none⟩) n cap, .int .i64 i, .int .i64 ((i:Int)+1)] w fun e w'=>e = .returned (.slice (some ⟨b,off,none⟩) (i+(n-(i+1))) cap)∧w'=W2:=by
 obtain ⟨i0,hi0,hz0,hz1,hz2⟩:=info_parts insInfo
 obtain ⟨news,hnews⟩ : ∃ news,news=cells.drop ((i+1)*4):=⟨_,rfl⟩
 have hlen:news.length=(n-(i+1))*4:=by rw [hnews,List.length_drop,hl]; omega
 have hget : ∀ t,t<(n-(i+1))*4→news[t]? = cells[(i+1)*4+t]? := fun t ht=>by rw [hnews,List.getElem?_drop]
 obtain ⟨A,hA,hsrc⟩ : ∃ A:Addr,(if cap=i+1 then some (⟨b,off,none⟩:Addr) else some ⟨b,off+(i+1)*4,none⟩)=some A∧Hid (∀ t u,news[t]? = some u→w.drew.cell? (A.add t)=some u):=by
  by_cases h:cap=i+1
  ·refine ⟨⟨b,off,none⟩,by simp [h],fun t u hu => ?_⟩
   have h0:news.length=0:=by rw [hlen]; omega
   rw [List.length_eq_zero_iff.1 h0] at hu
   simp at hu
  ·refine ⟨⟨b,off+(i+1)*4,none⟩,by simp [h],fun t u hu => ?_⟩
   have ht:t<(n-(i+1))*4:=by
    have:=(List.getElem?_eq_some_iff.1 hu).1
    rwa [hlen] at this
   rw [hget t ht] at hu
   rw [Addr.add_lit,show off+(i+1)*4+t=off+((i+1)*4+t) by omega]
   exact (hc ((i+1)*4+t) (by omega)).trans hu
 have s1:Hid (news.length=(n-(i+1))*4):=hlen
 have s2:Hid (∀ u∈news,u.oneCell'=true):=by
  intro u hu
  rw [hnews] at hu
  exact h1 u (List.mem_of_mem_drop hu)
 have s3:Hid (∀ t,t<news.length→(w.drew.cell? ⟨b,off+i*4+t,none⟩).isSome=true∧w.drew.frozen? ⟨b,off+i*4+t,none⟩=false):=by
  intro t ht
  rw [hlen] at ht
  rw [Nat.add_assoc]
  have hlt:i*4+t<cells.length:=by omega
  exact ⟨by show (w.cell? _).isSome=true; rw [hc _ hlt,List.getElem?_eq_getElem hlt]; rfl,hf _ hlt⟩
 have hW:Hid (W1=w.drew.setCells b (off+i*4) news):=hW1.trans (by rw [hnews])
 have hic:i≤cap:=by omega
 have hp0:(0:Int)≤(i:Int)+1:=by omega
 have hp1:(i:Int)+1≤(n:Int):=by omega
 have hp2:((i:Int)+1).toNat=i+1:=by omega
 have hp3:(i:Int)≤(i:Int)+1:=by omega
 have hp4 : ¬ (i:Int)=(i:Int)+1:=by omega
 have hp5:(i:Int)+1≤(cap:Int):=by omega
 clear hc hf hget hnews hlen hW1
 go_enter Tryz.func33,Tryz.ntmps33
 go_wp2_with fail
 go_region_law (refine step_append_room rfl (.tmp 22) (.tmp 25) 57 rfl 65 i0 4 Tryz.underlying57 hi0 hz1 b off i cap (by simp [Act.eval,Act.put]) A (n-(i+1)) (cap-(i+1)) news (by simp [Act.eval,Act.put]) s1.out hsrc.out s2.out (by omega) s3.out ?_; rw [←hW.out])
 go_wp2
 go_ret
 exact ⟨rfl,rfl⟩
end Go.Vw

namespace Go.Vw
open Go.Proofs Go.RowKit
theorem zJ {m:Nat} : ∀ {rows:List (List V)},(∀ r∈rows,r.length=m)→rows.flatten.length=rows.length*m
 | [],_=>by simp
 | r::rows,h=>by rw [List.flatten_cons,List.length_append,h r (by simp),zJ fun x hx=>h x (by simp [hx]),List.length_cons,Nat.add_mul,Nat.one_mul,Nat.add_comm]
theorem Yc {m:Nat} : ∀ {rows:List (List V)} (k:Nat),(∀ r∈rows,r.length=m)→rows.flatten.take (k*m)=(rows.take k).flatten
 | [],_,_=>by simp
 | r::rows,0,h=>by simp
 | r::rows,k+1,h=>by
  have hr:=h r (by simp)
  rw [List.flatten_cons,List.take_append,hr,List.take_of_length_le (by rw [hr,Nat.add_mul]; omega),show (k+1)*m-m=k*m by rw [Nat.add_mul]; omega,Yc k fun x hx=>h x (by simp [hx]),List.take_succ_cons,List.flatten_cons]
theorem lflat_drop {m:Nat} {rows:List (List V)} (k:Nat) (h : ∀ r∈rows,r.length=m):rows.flatten.drop (k*m)=(rows.drop k).flatten:=by
 have h1:=List.take_append_drop (k*m) rows.flatten
 rw [Yc k h] at h1
 have h2:rows.flatten=(rows.take k).flatten++(rows.drop k).flatten:=by rw [←List.flatten_append,List.take_append_drop]
 exact List.append_cancel_left (h1.trans h2)
theorem lflat_splice {rows:List (List V)} (h : ∀ r∈rows,r.length=4) {i:Nat} (hi:i<rows.length) {z:List V} (hz:z.length=4) :
  qh (qh rows.flatten (i*4) (rows.flatten.drop ((i+1)*4))) ((rows.length-1)*4) z=(rows.eraseIdx i).flatten++z:=by
 have e0:(rows.eraseIdx i).flatten=(rows.take i).flatten++(rows.drop (i+1)).flatten:=by rw [List.eraseIdx_eq_take_drop_succ,List.flatten_append]
 have l1:((rows.take i).flatten).length=i*4:=by rw [zJ fun r hr=>h r (List.mem_of_mem_take hr),List.length_take,Nat.min_eq_left (by omega)]
 have l2:((rows.drop (i+1)).flatten).length=(rows.length-(i+1))*4:=by rw [zJ fun r hr=>h r (List.mem_of_mem_drop hr),List.length_drop]
 have l3:((rows.take i).flatten++(rows.drop (i+1)).flatten).length=(rows.length-1)*4:=by rw [List.length_append,l1,l2]; omega
 rw [e0]
 unfold qh
 rw [Yc i h,lflat_drop (i+1) h,List.take_append,List.take_of_length_le (by rw [l3]; omega),l3,Nat.sub_self,List.take_zero,List.append_nil]
 have l4:((List.take i rows).flatten++(List.drop (i+1) rows).flatten++List.drop (i*4+(List.drop (i+1) rows).flatten.length) rows.flatten).length=rows.length*4:=by
  rw [List.length_append,l3,List.length_drop,zJ h,l2]; omega
 rw [List.drop_eq_nil_of_le (i:=(rows.length-1)*4+z.length) (by rw [l4,hz]; omega),List.append_nil]
def zIns:List V:=[.int .i64 0, .int .u64 0, .nils, .nils]
theorem clear1 {S:Store} {m:Imm} {β:Objs} {w:World} (hS:Holds S m β w) {o b base s n:Nat} {c:Nat × List V} (ho:S.get o=some c) (hob:β o = .lies b base s n) (off cap:Nat) (hle:off+4≤c.2.length) :
  ∃ w',(∀ ty,(Builtin.clear_ #[57] ty #[.slice (some ⟨b,base+off,none⟩) 1 cap]).run Tryz.prog w = .ok (.tuple #[]) w')∧Holds (S.upd o (c.1,qh c.2 off zIns)) m β w'∧Ext m β w m β w':=by
 obtain ⟨i0,hi0,hz0,hz1,hz2⟩:=info_parts insInfo
 obtain ⟨w',h1,h2,h3⟩:=hS.store (P:=Tryz.prog) ho hob off zIns [.int .i64 0, .int .u64 0, .slice none 0 0, .slice none 0 0]
  (.cons (.imm (.int _ _)) (.cons (.imm (.int _ _)) (.cons (.imm (.nils _)) (.cons (.imm (.nils _)) (.nil _ _))))) (by simp [Value.oneCell']) (by simpa [zIns] using hle)
 refine ⟨w',fun ty => ?_,h2,h3⟩
 have hzv:(zeroValue 65).run Tryz.prog w = .ok (.agg #[.int .i64 0, .int .u64 0, .slice none 0 0, .slice none 0 0]) w:=by simp [zeroValue,typeInfo,hi0,hz0]
 have hzc:(Builtin.zeroCells (Value.agg #[.int .i64 0, .int .u64 0, .slice none 0 0, .slice none 0 0]).cells 1).toList=[.int .i64 0, .int .u64 0, .slice none 0 0, .slice none 0 0]:=by simp [Builtin.zeroCells,Value.cells,List.range_succ]
 simp [Builtin.clear_,run_underlying Tryz.underlying57,Result.andThen,hzv,hzc,h1]
theorem Holds.trim {S:Store} {m:Imm} {β:Objs} {w:World} (hS:Holds S m β w) {o s:Nat} {a z:List V} (hc:S.get o=some (s,a++z)) {b base s2 n2:Nat} (hob:β o = .lies b base s2 n2):Holds (S.upd o (s,a)) m β w:=by
 refine ⟨hS.imm,hS.apart,hS.inj,hS.fresh,fun o' ho' => ?_,fun o' ho' hn => ?_,fun o' c' hc' => ?_⟩
 ·have:=hS.lt hc
  rw [qf]
  have:S.nx≤o':=ho'
  rw [if_neg (by omega)]; exact hS.gone o' ho'
 ·rw [qf] at hn
  by_cases e:o'=o
  ·rw [if_pos e] at hn; cases hn
  ·rw [if_neg e] at hn; exact hS.dead o' ho' hn
 ·rw [qf] at hc'
  by_cases e:o'=o
  ·rw [if_pos e] at hc'
   cases hc'
   subst e
   have hl:=hS.live o' _ hc
   rw [hob] at hl ⊢
   obtain ⟨h1,arr,TT,h2,h3,h4,h5⟩:=hl
   refine ⟨h1,arr,TT,h2,h3, ?_,fun i x hx => ?_⟩
   ·simp only [List.length_append] at h4; simp only; omega
   ·have hi:=(List.getElem?_eq_some_iff.1 hx).1
    exact h5 i x (by simp only; rw [List.getElem?_append_left hi]; exact hx)
  ·rw [if_neg e] at hc'
   exact hS.live o' c' hc'
theorem InsDel_v {S:Store} {oc i:Nat} {rows:List (List V)} (hg:S.get oc=some (4,rows.flatten)) (h4 : ∀ r∈rows,r.length=4) (hi:i<rows.length) :
  VCalls Tryz.prog 33 [.slice oc 0 rows.length,vint i,vint (i+1)] S fun r T=>r = .slice oc 0 (rows.length-1)∧T=S.upd oc (4,(rows.eraseIdx i).flatten):=by
 intro m β w vs hS hr
 obtain ⟨v0,v1,v2,rfl⟩ : ∃ v0 v1 v2,vs=[v0,v1,v2]:=by
  have:=hr.1
  match vs,this with
  | [a,b,c],_=>exact ⟨a,b,c,rfl⟩
 have r0:=hr.2 0 _ _ rfl rfl
 have r1:=hr.2 1 _ _ rfl rfl
 have r2:=hr.2 2 _ _ rfl rfl
 have e1:v1 = .int .i64 i:=by cases r1 with | imm h=>cases h; rfl
 have e2:v2 = .int .i64 ((i:Int)+1):=by cases r2 with | imm h=>cases h; rfl
 subst e1 e2
 obtain ⟨a,cap,rfl,hlc,hcm,hcase⟩:=r0.inv_slice (hS.alive hg)
 rcases hcase with ⟨_,h0,_⟩ | ⟨b,base,s,n,hob,hcase⟩
 ·omega
 rcases hcase with h0 | ⟨rfl,hroom⟩
 ·omega
 have hfl:=zJ h4
 obtain ⟨hs4,arr,TT,ha1,ha2,ha3,ha4⟩:=hS.cells_at hg hob
 simp only at hs4 ha3 ha4
 subst hs4
 obtain ⟨cells,hc1,hc2,hc3,hc4⟩:=Jc ha4 0 (rows.length*4) (by simp [hfl])
 rw [List.drop_zero,List.take_of_length_le (by rw [hfl]; exact Nat.le_refl _)] at hc3
 have hcell : ∀ t,t<cells.length→w.cell? ⟨b,base+0+t,none⟩=cells[t]? := fun t ht=>by
  have:=hc2 t cells[t] (List.getElem?_eq_getElem ht)
  simp [World.cell?,ha1,this,List.getElem?_eq_getElem ht]
  simpa using this
 have hfz : ∀ t,t<cells.length→w.frozen? ⟨b,base+0+t,none⟩=false:=fun t ht=>by simp [World.frozen?,ha1]
 have hdl:(rows.flatten.drop ((i+1)*4)).length=(rows.length-(i+1))*4:=by rw [List.length_drop,hfl]; omega
 have hrd:RepL m β (rows.flatten.drop ((i+1)*4)) (cells.drop ((i+1)*4)):=by
  refine ⟨by rw [List.length_drop,List.length_drop,hc3.1],fun k x v hx hv => ?_⟩
  rw [List.getElem?_drop] at hx hv
  exact hc3.2 _ x v hx hv
 obtain ⟨w1,hst,hS1,hE1⟩:=(hS.drew).store (P:=Tryz.prog) hg hob (i*4) (rows.flatten.drop ((i+1)*4)) (cells.drop ((i+1)*4)) hrd (fun v hv=>hc4 v (List.mem_of_mem_drop hv)) (by simp only; rw [hdl,hfl]; omega)
 have hw1:w1=w.drew.setCells b (base+0+i*4) (cells.drop ((i+1)*4)):=by
  have k:=run_storeCells_cells (P:=Tryz.prog) b (base+i*4) (cells.drop ((i+1)*4)) 0 w.drew
   (fun j hj=>by
    rw [List.length_drop] at hj
    have:=hcell (i*4+j) (by omega)
    show (w.cell? _).isSome=true
    rw [show base+i*4+0+j=base+0+(i*4+j) by omega,this,List.getElem?_eq_getElem (by omega)]; rfl)
   (fun j hj=>by
    rw [List.length_drop] at hj
    have:=hfz (i*4+j) (by omega)
    show w.frozen? _=false
    rw [show base+i*4+0+j=base+0+(i*4+j) by omega]; exact this)
   (fun v hv=>hc4 v (List.mem_of_mem_drop hv))
  rw [hst] at k
  have:=congrArg (fun r=>match r with | .ok _ w=>some w | _=>none) k
  simpa using this
 have hl1:(qh rows.flatten (i*4) (rows.flatten.drop ((i+1)*4))).length=rows.length*4:=by rw [zS _ _ _ (by rw [hdl,hfl]; omega),hfl]
 obtain ⟨w2,hcl,hS2,hE2⟩:=clear1 hS1 (o:=oc) (c:=(4,qh rows.flatten (i*4) (rows.flatten.drop ((i+1)*4)))) (by simp [Store.upd]) hob ((rows.length-1)*4) (cap-(rows.length-1)) (by simp only; rw [hl1]; omega)
 have hn1:i+(rows.length-(i+1))=rows.length-1:=by omega
 have hd:=InsDel_calls b (base+0) rows.length cap i cells w (by rw [hc1]) hi hlc hcm hcell hfz hc4 w1 hw1 w2 (by
  intro ty
  rw [hn1,show rows.length-(rows.length-1)=1 by omega]
  exact hcl ty)
 refine hd.mono ?_
 rintro e w' ⟨rfl,rfl⟩
 refine ⟨_, .slice oc 0 (rows.length-1),_,m,β,rfl,⟨rfl,rfl⟩, ?_, ?_, ?_⟩
 ·rw [hn1]
  exact .slice oc 0 _ b base 4 n cap _ hob (by omega) hcm (.inr ⟨rfl,hroom⟩)
 ·have e3:(S.upd oc (4,qh rows.flatten (i*4) (rows.flatten.drop ((i+1)*4)))).upd oc (4,qh (qh rows.flatten (i*4) (rows.flatten.drop ((i+1)*4))) ((rows.length-1)*4) zIns)=S.upd oc (4,(rows.eraseIdx i).flatten++zIns):=by
   rw [lflat_splice h4 hi rfl]
   refine Store.ext' (funext fun o2 => ?_) rfl
   simp only [Store.upd]
   split<;>rfl
  rw [e3] at hS2
  have h:=hS2.trim (o:=oc) (s:=4) (a:=(rows.eraseIdx i).flatten) (z:=zIns) (by simp [Store.upd]) hob
  have e5:(S.upd oc (4,(rows.eraseIdx i).flatten++zIns)).upd oc (4,(rows.eraseIdx i).flatten)=S.upd oc (4,(rows.eraseIdx i).flatten):=by
   refine Store.ext' (funext fun o2 => ?_) rfl
   simp only [Store.upd]
   split<;>rfl
  rw [←e5]
  exact h
 ·exact (Ext.drew m β w).trans (hE1.trans hE2)
end Go.Vw
