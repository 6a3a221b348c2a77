import Derived.Test.YtkfllaokjaldnaaGreatC11
import Derived.Test.YtkfllaokjaldnaaGreatC30
import Derived.Test.YtkfllaokjaldnaaGreatC29
import Derived.Test.YtkfllaokjaldnaaGreatC28
import Derived.Test.YtkfllaokjaldnaaGreatC26
import Derived.Test.YtkfllaokjaldnaaGreatC27
/-
  Part of the proof (texts LRLoops, LAll, LRunP, LAliveP, LThaw, DRowV).
-/
set_option linter.unusedVariables false
set_option linter.unusedSimpArgs false
namespace Go.Vw
open Go.Proofs Go.RowKit
set_option maxRecDepth 10000
set_option maxHeartbeats 16000000
theorem opAppend_off {S:Store} {o off len:Nat} {pre cells:List V} {l:List Nat} (ho:S.get o=some (1,pre++cells)) (hp:pre.length=off) (hl:cells.length=len) (hb:(len+l.length)*8≤140737488355328) (hb1:len+l.length≤140737488355328) :
  qy 1 8 S (.slice o off len) (vl vnat l)=some (.slice S.nx 0 (len+l.length),(S.del o).add (1,cells++l.map vnat)):=by
 subst hp; subst hl
 have e1:qg 1 S (vl vnat l)=some (l.map vnat,l.length):=by
  have h1:(l.map vnat).all (fun x=>x.ncells==1)=true:=by simp [vnat,V.ncells]
  have h2:(l.map vnat).flatMap V.cells=l.map vnat:=by
   clear hb hb1 h1
   induction l with
   | nil=>rfl
   | cons x l ih=>simp only [List.map_cons,List.flatMap_cons,ih]; rfl
  simp only [qg,vl,h1,if_true,h2,List.length_map]
 simp [qy,e1,ho,hb,hb1]
theorem rLoopsErr_v (g:List (List Int)) (h:Fits g) (hr:G.right g=false):VPure Tryz.prog 19 [vl (vl vint) g] (.tuple [vl jA [],vint 1]):=by
 intro S
 have e:G.err g=1:=by simp [G.err,hr]
 refine jb (c:=jf Tryz.f19) Tryz.func19 rfl rfl (by simp [Tryz.ntmps19]) ?_
 rw [Tryz.ntmps19]
 intro hwf
 repeat (first|refine QG ?_|refine QY ?_)
 repeat refine QS ?_
 refine QP ?_
 refine jo rfl (jbi g h) ?_
 refine QM (by conv=>lhs;simp[-List.map_set,QV]) ?_
 refine QN ?_
 repeat (first|refine QG ?_|refine QY ?_ (r:=by conv=>lhs;simp[-List.map_set,QV,e]))
 exact jh (l:=[]) hwf ((Ghost.tuple [] [vint 1] (Ghost.nils_list _)).toB _) rfl
theorem rLoops_v (g:List (List Nat)) (hg:G.Ok g) (t:List (List Bool)) (fr:List (List Nat)) (ct:VPure Tryz.prog 59 [vl (vl vnat) g] (vl (vl V.bool) t)) (cf:VPure Tryz.prog 58 [vl (vl vnat) g] (.tuple [vl (vl vnat) fr,vint 0]))
  (htl:t.length=g.length) (htr : ∀ a (ha:a<t.length),t[a].length=g.length) (hfl:fr.length=g.length) (hfm : ∀ r∈fr,r.length≤1048576) (hfe : ∀ r∈fr, ∀ x∈r,x<g.length) :
  VPure Tryz.prog 19 [vl (vl vnat) g] (.tuple [vl jA (G.rloopsTo t fr g.length g.length),vint 0]):=by
 intro S
 refine jb (c:=jf Tryz.f19) Tryz.func19 rfl rfl (by simp [Tryz.ntmps19]) ?_
 rw [Tryz.ntmps19]
 intro hwf
 have hm:=hg.max
 have hp:=hg.pos
 have hb1:g.length*1≤140737488355328:=by omega
 have hb0:g.length≤140737488355328:=by omega
 repeat (first|refine QG ?_|refine QY ?_)
 repeat refine QS ?_
 refine QP ?_
 refine jo rfl (cf) ?_
 refine QM (by conv=>lhs;simp[-List.map_set,QV]) ?_
 refine QN ?_
 repeat (first|refine QG ?_|refine QY ?_)
 repeat refine QS ?_
 refine QP ?_
 refine jo rfl (ct) ?_
 refine QM (by conv=>lhs;simp[-List.map_set,QV]) ?_
 refine QN ?_
 repeat refine QS ?_
 refine QP ?_
 refine QN ?_
 refine qP 7 2 rfl (by conv=>lhs; simp [Fr.set]) ?_
 repeat (first|refine QG ?_|refine QY ?_)
 repeat refine QS ?_
 refine jd [0,4,6,7,8] rfl (fun c σ S' => ∃ h:Nat,h≤g.length∧c=g.length-h∧σ=[(0,vl (vl vnat) g),(4,vl (vl vnat) fr),(6,vl (vl V.bool) t),(7, .slice (lid S.nx 0) 0 (G.rloopsTo t fr g.length h).length),(8,vnat h)]∧S'=St S [] [some (2,js jA (G.rloopsTo t fr g.length h))]) g.length ?_ ?_
 ·exact ⟨0,by omega,rfl,by simp [Fr.only,G.rloopsTo],by simp [G.rloopsTo,js]⟩
 ·rintro c σ T ⟨h,hh,rfl,rfl,rfl⟩
  by_cases hht:h<g.length
  ·have hw:IntKind.i64.wrap ((h:Int)+1)=(h:Int)+1:=wrap_i64 (by omega) (by omega)
   have hhf:h<fr.length:=by omega
   have hhtb:h<t.length:=by omega
   have htrl:=htr h hhtb
   have hfd:fr.getD h []=fr[h]:=by simp [hhf]
   have hrow:=hfm _ (List.getElem_mem hhf)
   have hrowe:=hfe _ (List.getElem_mem hhf)
   have hst:G.rloopsTo t fr g.length (h+1)=if G.rbacks t h fr[h]=[] then G.rloopsTo t fr g.length h else G.rloopsTo t fr g.length h++[(h,G.picked (G.loopIn fr h (G.rbacks t h fr[h]) g.length) g.length)]:=by
    simp only [G.rloopsTo,hfd]
   have hlo:=G.rloopsTo_len t fr g.length h
   generalize G.rloopsTo t fr g.length h=ls at *
   repeat (first|refine QG ?_|refine QY ?_ (r:=by conv=>lhs;simp[-List.map_set,QV,hht,hb1,hb0]))
   refine qP 10 1 rfl (by conv=>lhs; simp [Fr.set]) ?_
   repeat (first|refine QG ?_|refine QY ?_)
   generalize hts:G.rbacks t h fr[h]=ts at *
   have htsl:ts.length≤fr[h].length:=by rw [←hts]; exact List.length_filter_le _ _
   repeat refine QS ?_
   refine jd [0,4,6,7,8,9,10,11] rfl (fun c σ S' => ∃ (k:Nat) (todo:List Nat),k≤fr[h].length∧c=fr[h].length-k∧todo++G.rbacks t h (fr[h].drop k)=ts∧σ=[(0,vl (vl vnat) g),(4,vl (vl vnat) fr),(6,vl (vl V.bool) t),(7, .slice (lid S.nx 0) 0 ls.length),(8,vnat h),(9, .slice (lid S.nx 1) 0 g.length),(10, .slice (lid S.nx 2) 0 todo.length),(11,vnat k)]∧S'=St S [] [some (2,js jA ls),some (1,(List.replicate g.length false).map V.bool),some (1,todo.map vnat)]) fr[h].length ?_ ?_
   ·exact ⟨0,[],by omega,rfl,by simpa using hts,by simp [Fr.only],by simp⟩
   ·rintro c σ T ⟨k,todo,hk,rfl,hdo,rfl,rfl⟩
    have htdl:todo.length≤ts.length:=by rw [←hdo]; simp
    by_cases hkt:k<fr[h].length
    ·have hwk:IntKind.i64.wrap ((k:Int)+1)=(k:Int)+1:=wrap_i64 (by omega) (by omega)
     rw [List.drop_eq_getElem_cons hkt] at hdo
     have hpl:=hrowe _ (List.getElem_mem hkt)
     generalize hpe:fr[h][k]=p at hdo hpl
     have hptl:p<t[h].length:=by omega
     obtain ⟨b,hbe⟩ : ∃ b,t[h][p]=b:=⟨_,rfl⟩
     have hb:G.tabAt t h p=b:=by simp [G.tabAt,hhtb,hptl,hbe]
     repeat (first|refine QG ?_|refine QY ?_ (r:=by conv=>lhs;simp[-List.map_set,QV,hkt,hhf]))
     cases b with
     | true =>
      have hc8:(todo.length+1)*8≤140737488355328:=by omega
      have hc1:todo.length+1≤140737488355328:=by omega
      have hdo':(todo++[p])++G.rbacks t h (fr[h].drop (k+1))=ts:=by
       rw [←hdo]; simp [G.rbacks,hb]
      repeat (first|refine QG ?_|refine QY ?_ (r:=by conv=>lhs;simp[-List.map_set,QV,hkt,hpe,hhf,hhtb,hptl,hbe,hc8,hc1]))
      refine jT [0,1,4] (by conv=>lhs; simp [Fr.only]) hwf (by decide) (by simp [-List.map_set,jk,jm,qm,qn]) (by conv=>lhs; simp [-List.map_set,jk,jm,qm,qn]) (by conv=>lhs; simp [-List.map_set,jk,jm,qm,qn]) (by conv=>lhs; simp [-List.map_set,jk,jm,qm,qn]) ⟨?_,k+1,todo++[p],hkt,rfl,hdo',by simp [hwk],by simp⟩
      omega
     | false =>
      have hdo':todo++G.rbacks t h (fr[h].drop (k+1))=ts:=by
       rw [←hdo]; simp [G.rbacks,hb]
      repeat (first|refine QG ?_|refine QY ?_ (r:=by conv=>lhs;simp[-List.map_set,QV,hkt,hpe,hhf,hhtb,hptl,hbe]))
      show jv _ _ _ _ _ _ _
      exact again ⟨Nat.sub_lt_sub_left hkt (Nat.lt_succ_self k),k+1,todo,hkt,rfl,hdo',by simp [Fr.only,hwk],by simp⟩
    ·have hke:k=fr[h].length:=by omega
     subst hke
     simp only [List.drop_length] at hdo
     have hts':todo=ts:=by simpa [G.rbacks] using hdo
     subst hts'
     by_cases hemp:todo=[]
     ·rw [if_pos hemp] at hst
      subst hemp
      repeat (first|refine QG ?_|refine QY ?_ (r:=by conv=>lhs;simp[-List.map_set,QV,hkt,hhf]))
      refine jT [0] (by conv=>lhs; simp [Fr.only]) hwf (by decide) (by simp [-List.map_set,jk,jm,qm,qn]) (by conv=>lhs; simp [-List.map_set,jk,jm,qm,qn]) (by conv=>lhs; simp [-List.map_set,jk,jm,qm,qn]) (by conv=>lhs; simp [-List.map_set,jk,jm,qm,qn]) ⟨?_,h+1,hht,rfl,by rw [hst]; simp [hw],by rw [hst]⟩
      omega
     ·rw [if_neg hemp] at hst
      have hlen0 : ¬ todo.length=0:=fun e=>hemp (List.eq_nil_of_length_eq_zero e)
      have hlt : ∀ t∈todo,t<g.length:=fun t ht=>hrowe t (by rw [←hts] at ht; exact (List.mem_filter.1 ht).1)
      have hS0:=G.Srch.start (fr:=fr) hht hlt
      have hum:G.unmet ((List.replicate g.length false).set h true)≤g.length:=by
       have:=List.count_le_length (a:=false) (l:=(List.replicate g.length false).set h true)
       simpa [G.unmet] using this
      have hm0:G.todoM (1048576) ((List.replicate g.length false).set h true) todo≤1073741824:=by
       exact few (by omega) (by omega)
      repeat (first|refine QG ?_|refine QY ?_ (r:=by conv=>lhs;simp[-List.map_set,QV,hkt,hhf,hlen0,hht]))
      repeat refine QS ?_
      refine jd [0,4,6,7,8,9,10] rfl (fun c σ S' => ∃ (inn:List Bool) (pre td:List Nat),G.Srch fr h todo g.length inn td∧c=G.todoM (1048576) inn td∧c≤1073741824∧σ=[(0,vl (vl vnat) g),(4,vl (vl vnat) fr),(6,vl (vl V.bool) t),(7, .slice (lid S.nx 0) 0 ls.length),(8,vnat h),(9, .slice (lid S.nx 1) 0 g.length),(10, .slice (lid S.nx 2) pre.length td.length)]∧S'=St S [] [some (2,js jA ls),some (1,inn.map V.bool),some (1,pre.map vnat++td.map vnat)]) (G.todoM (1048576) ((List.replicate g.length false).set h true) todo) ?_ ?_
      ·exact ⟨_,[],_,hS0,rfl,hm0,by simp [Fr.only],by simp [List.map_set]⟩
      ·rintro c σ T ⟨inn,pre,td,hS,rfl,hcm,rfl,rfl⟩
       have hil:=hS.len
       cases td with
       | nil =>
        have hie:=G.loopIn_eq hS
        rw [←hie] at hst
        repeat refine QS ?_
        refine QP ?_
        refine QN ?_
        repeat refine QS ?_
        refine jD rfl rfl rfl ?_
        repeat refine QS ?_
        refine jL 4 rfl rfl ?_
        repeat refine QS ?_
        refine QP ?_
        refine QN ?_
        apply ju
        ·exact Reach.voidCell 1 (k:=3) (i:=1) (by simp) rfl rfl
        simp only [List.cons_append,List.nil_append,List.set_cons_succ,List.set_cons_zero,List.length_cons,List.length_nil,Nat.reduceAdd]
        repeat (first|refine QG ?_|refine QY ?_)
        repeat refine QS ?_
        refine jd [0,4,6,7,8,9,13,14] rfl (fun c σ S' => ∃ k:Nat,k≤g.length∧c=g.length-k∧σ=[(0,vl (vl vnat) g),(4,vl (vl vnat) fr),(6,vl (vl V.bool) t),(7, .slice (lid S.nx 0) 0 ls.length),(8,vnat h),(9, .slice (lid S.nx 1) 0 g.length),(13, .ptr (lid S.nx 3) 0),(14,vnat k)]∧S'=St S [] [some (2,js jA ls),some (1,inn.map V.bool),some (1,pre.map vnat),some (2,[vnat h, .slice (lid S.nx 4) 0 (G.picked inn k).length]),some (1,(G.picked inn k).map vnat)]) g.length ?_ ?_
        ·exact ⟨0,by omega,rfl,by simp [Fr.only],by simp [G.picked]⟩
        ·rintro c σ T ⟨k,hk,rfl,rfl,rfl⟩
         have hpl:=G.picked_len inn k
         by_cases hkt:k<g.length
         ·have hwk:IntKind.i64.wrap ((k:Int)+1)=(k:Int)+1:=wrap_i64 (by omega) (by omega)
          have hki:k<inn.length:=by omega
          obtain ⟨x,hx⟩ : ∃ x,inn[k]=x:=⟨_,rfl⟩
          have hxd:inn.getD k false=x:=by simp [hki,hx]
          have hps:G.picked inn (k+1)=if x=true then G.picked inn k++[k] else G.picked inn k:=by simp only [G.picked,hxd]
          have hc8:((G.picked inn k).length+1)*8≤140737488355328:=by omega
          have hc1:(G.picked inn k).length+1≤140737488355328:=by omega
          generalize G.picked inn k=pk at *
          cases x with
          | true =>
           repeat (first|refine QG ?_|refine QY ?_ (r:=by conv=>lhs;simp[-List.map_set,QV,hkt,hki,hx,hc8,hc1]))
           refine jT [0,1,2,3,6] (by conv=>lhs; simp [Fr.only]) hwf (by decide) (by simp [-List.map_set,jk,jm]) (by conv=>lhs; simp [-List.map_set,jk,jm]) (by conv=>lhs; simp [-List.map_set,jk,jm]) (by conv=>lhs; simp [-List.map_set,jk,jm]) ⟨?_,k+1,hkt,rfl,by simp [hwk],by rw [hps]; simp⟩
           omega
          | false =>
           repeat (first|refine QG ?_|refine QY ?_ (r:=by conv=>lhs;simp[-List.map_set,QV,hkt,hki,hx,hc8,hc1]))
           show jv _ _ _ _ _ _ _
           exact again ⟨Nat.sub_lt_sub_left hkt (Nat.lt_succ_self k),k+1,hkt,rfl,by simp [Fr.only,hwk],by rw [hps]; simp⟩
         ·have hke:k=g.length:=by omega
          subst hke
          generalize G.picked inn g.length=pk at *
          repeat refine QS ?_
          refine QP ?_ (r:=by conv=>lhs;simp[-List.map_set,QV,hkt])
          refine QN ?_
          repeat refine QS ?_
          refine jD rfl rfl rfl ?_
          repeat refine QS ?_
          refine jL 6 rfl rfl ?_
          apply ju
          ·exact Reach.frzCell (k:=3) (j:=4) (i:=1) (n:=pk.length) (cells':=pk.map vnat) (by omega) (by simp) (by simp) rfl rfl rfl (jF vnat (fun _=>rfl) _) (by simp)
          simp only [List.set_cons_succ,List.set_cons_zero]
          have hfl2:ls.length*2=(js jA ls).length:=by rw [JE JN]
          have hc8:(ls.length+1)*32≤140737488355328:=by omega
          have hc1:ls.length+1≤140737488355328:=by omega
          have hsnoc:js jA (ls++[(h,pk)])=js jA ls++[vnat h,V.list (pk.map vnat)]:=by rw [Jc,JO]; rfl
          repeat (first|refine QG ?_|refine QY ?_ (r:=by conv=>lhs;simp[-List.map_set,QV,hfl2,hc8,hc1,rep0]))
          refine jT [6] (by conv=>lhs; simp [Fr.only]) hwf (by decide) (by simp [-List.map_set,jk,jm]) (by conv=>lhs; simp [-List.map_set,jk,jm]) (by conv=>lhs; simp [-List.map_set,jk,jm]) (by conv=>lhs; simp [-List.map_set,jk,jm]) ⟨?_,h+1,hht,rfl,by rw [hst]; simp [hw],by rw [hst,hsnoc]; simp⟩
          omega
       | cons n td =>
        have hn:=hS.lt n (by simp)
        have hni:n<inn.length:=by omega
        have hnf:n<fr.length:=by omega
        have hfn:fr.getD n []=fr[n]:=by simp [hnf]
        have hrn:=hfm _ (List.getElem_mem hnf)
        have htl:td.length+1≤1073741824:=by
         have:G.todoM (1048576) inn (td++[n])=G.todoM (1048576) inn (n::td):=by simp [G.todoM]
         rw [←this] at hcm
         exact few_len hcm
        have h0:(0:Int)<(td.length:Int)+1:=by omega
        have h2:(1:Int)≤(td.length:Int)+1:=by omega
        have hsub : ∀ t∈td,t∈n::td:=fun t ht=>by simp [ht]
        have hre : ∀ t∈n::td,t=n∨t∈td:=fun t ht=>by simpa using ht
        have hless:G.todoM (1048576) inn td<G.todoM (1048576) inn (n::td):=by simp [G.todoM]
        have hpre:(pre.map vnat++(n::td).map vnat)=((pre++[n]).map vnat++td.map vnat):=by simp
        obtain ⟨x,hx⟩ : ∃ x,inn[n]=x:=⟨_,rfl⟩
        have hxd:inn.getD n false=x:=by simp [hni,hx]
        cases x with
        | true =>
         have hS':=hS.seen hxd hsub hre
         repeat (first|refine QG ?_|refine QY ?_ (r:=by conv=>lhs;simp[-List.map_set,QV,h0,h2,hn,hni,hx]))
         show jv _ _ _ _ _ _ _
         exact again ⟨hless,inn,pre++[n],td,hS',rfl,Nat.le_trans (Nat.le_of_lt hless) hcm,by simp [Fr.only],by rw [←hpre]; simp⟩
        | false =>
         have hS':=hS.take (todo':=td++fr[n]) (by simp) (by rw [hfn]; exact hfe _ (List.getElem_mem hnf)) hxd (fun t ht=>by
          rcases List.mem_append.1 ht with h | h
          ·exact .inl (by simp [h])
          ·exact .inr (by rw [hfn]; exact h)) (fun t ht=>by
          rcases hre t ht with h | h
          ·exact .inl h
          ·exact .inr (by simp [h])) (fun t ht=>by rw [hfn] at ht; simp [ht])
         have hmm:=G.todoM_take (M:=1048576) (todo:=n::td) (todo':=td++fr[n]) hni hx hrn (by simp; omega)
         have hc8:(td.length+fr[n].length)*8≤140737488355328:=by omega
         have hc1:td.length+fr[n].length≤140737488355328:=by omega
         have hap:=opAppend_off (S:=St S [] [some (2,js jA ls),some (1,(inn.set n true).map V.bool),some (1,pre.map vnat++V.int .i64 (n:Int)::td.map vnat)]) (o:=lid S.nx 2) (off:=pre.length+1) (len:=td.length) (pre:=pre.map vnat++[vnat n]) (cells:=td.map vnat) (l:=fr[n]) (by simp [jN]) (by simp) (by simp) hc8 hc1
         repeat (first|refine QG ?_|refine QY ?_ (r:=by conv=>lhs;simp[-List.map_set,QV,h0,h2,hn,hni,hx]))
         repeat refine QS ?_
         refine QP ?_ (r:=by conv=>lhs;simp[-List.map_set,QV,hnf,hap])
         refine QN ?_
         repeat (first|refine QG ?_|refine QY ?_)
         refine jT [0,1,3] (by conv=>lhs; simp [Fr.only]) hwf (by decide) (by simp [-List.map_set,jk,jm]) (by conv=>lhs; simp [-List.map_set,jk,jm]) (by conv=>lhs; simp [-List.map_set,jk,jm]) (by conv=>lhs; simp [-List.map_set,jk,jm]) ⟨?_,_,[],_,hS',rfl,Nat.le_trans (Nat.le_of_lt hmm) hcm,by simp,by simp⟩
         exact hmm
  ·have hhe:h=g.length:=by omega
   subst hhe
   repeat (first|refine QG ?_|refine QY ?_ (r:=by conv=>lhs;simp[-List.map_set,QV,hht]))
   exact jh hwf ((Ghost.tuple [] [vint 0] (frzSt (k:=0) JN zH _ (by simp) rfl)).toB _) rfl
end Go.Vw

namespace Go.Vw
open Go.Proofs Go.RowKit
set_option maxRecDepth 10000
set_option maxHeartbeats 8000000
namespace G
theorem JM (near:List Int) (fr:List (List Nat)) (N:Nat) : ∀ k, ∀ x∈loopsTo near fr N k,x.2.length≤N
 | 0,x,h=>by simp [loopsTo] at h
 | k+1,x,h=>by
  simp only [loopsTo] at h
  split at h
  ·exact JM near fr N k x h
  ·rcases List.mem_append.1 h with h | h
   ·exact JM near fr N k x h
   ·simp at h
    rw [h]
    exact picked_len _ N
noncomputable def loopsI (g:List (List Int)):List (Nat × List Nat):=if right g then loopsTo (rNear (nats g)) (froms (nats g)) (nats g).length (nats g).length else []
theorem loopsI_len (g:List (List Int)):(loopsI g).length≤256:=by
 simp only [loopsI]
 split
 ·rename_i h
  have:=(right_ok h).max
  have:=loopsTo_len (rNear (nats g)) (froms (nats g)) (nats g).length (nats g).length
  omega
 ·simp
theorem loopsI_nodes (g:List (List Int)) : ∀ x∈loopsI g,x.2.length≤256:=by
 simp only [loopsI]
 split
 ·rename_i h
  have h1:=(right_ok h).max
  intro x hx
  have:=JM _ _ _ _ x hx
  omega
 ·simp
theorem froms_few {g:List (List Nat)} (hg:Ok g) : ∀ r∈froms g,r.length≤1048576:=by
 intro r hr
 have k1:=KQ _ _ r hr
 have k2:=edges_len hg.row 0
 have k3:=hg.max
 rw [total_rep] at k1
 omega
theorem froms_lt {g:List (List Nat)} (hg:Ok g) : ∀ r∈froms g, ∀ x∈r,x<g.length:=by
 intro r hr x hx
 obtain ⟨i,hi,rfl⟩:=List.getElem_of_mem hr
 have hig:i<g.length:=by rw [froms_length] at hi; exact hi
 have:=(mem_froms hg i x hig).1 (by simpa [hi] using hx)
 exact this.1
end G
theorem LoopsAll_v (g:List (List Int)) (h:Fits g):VPure Tryz.prog 25 [vl (vl vint) g] (.tuple [vl jA (G.loopsI g),vint (G.err g)]):=by
 cases hr:G.right g with
 | false =>
  simp only [G.loopsI,G.err,hr]
  exact gLoopsErr_v g h hr
 | true =>
  have c1:=Kt g h
  have c2:=FromAll_v g h
  simp only [G.loopsI,G.nearI,G.fromI,G.err,hr,if_true] at c1 c2 ⊢
  rw [G.right_enc hr] at c1 c2 ⊢
  have hg:=G.right_ok hr
  exact gLoops_v (G.nats g) hg _ _ c1 c2 (G.rNear_ok hg).len (G.froms_length _) (G.froms_few hg) (G.froms_lt hg)
theorem RLoopsAll_v (g:List (List Int)) (h:Fits g):VPure Tryz.prog 19 [vl (vl vint) g] (.tuple [vl jA (G.loopsI g),vint (G.err g)]):=by
 cases hr:G.right g with
 | false =>
  simp only [G.loopsI,G.err,hr]
  exact rLoopsErr_v g h hr
 | true =>
  have c2:=jbi g h
  simp only [G.loopsI,G.fromI,G.err,hr,if_true] at c2 ⊢
  rw [G.right_enc hr] at c2 ⊢
  have hg:=G.right_ok hr
  rw [←G.loops_eq hg _ (Nat.le_refl _)]
  refine rLoops_v (G.nats g) hg _ _ (Table_v _ hg) c2 ?_ ?_ (G.froms_length _) (G.froms_few hg) (G.froms_lt hg)
  ·simp [G.table]
  ·intro a ha
   simp only [G.table,G.tableRow,List.getElem_map]
   split<;>simp
end Go.Vw

namespace Ss
open Go.Vw.G
def tabOf (hm:List Int) (v:Int):Int:=hm.getD v.toNat 0
theorem licTo_more {e:Env} {f:Fn} (h:check e f=true) {k:Nat} (hk:wt f<k) (j:Nat):Kl (k+j) f=Kl k f:=by
 have add : ∀ (k:Nat) (f:Fn),Kl (k+j) f=Kl j (Kl k f):=by
  intro k
  induction k with
  | zero=>intro f; rw [Nat.zero_add]; rfl
  | succ k ih =>
   intro f
   rw [show k+1+j=k+j+1 by omega]
   cases hf:first f.blocks (ql f) (lps f.blocks) with
   | none=>rw [Jr _ hf,Jr _ hf,Jr _ hf]
   | some m =>
    obtain ⟨p,n,i⟩:=m
    rw [Wr _ hf,Wr _ hf,ih]
 rw [add,Jr _ (lic_end k f h hk)]
theorem licF_step {e:Env} {f:Fn} (h:check e f=true) {p n i:Nat} (hf:first f.blocks (ql f) (lps f.blocks)=some (p,n,i)):licF (moved f p n i)=licF f:=by
 obtain ⟨h1,h2,h3⟩:=jbn h hf
 unfold licF
 rw [Wr _ hf]
 obtain ⟨j,hj⟩ : ∃ j,wt f=wt (moved f p n i)+1+j:=⟨wt f-(wt (moved f p n i)+1),by omega⟩
 rw [hj]
 exact (licTo_more h1 (Nat.lt_succ_self _) j).symm
structure LOk (e:Env) (f g:Fn) (hm:List Int):Prop where
 chk:check e g=true
 fits:g.Fits
 fin:licF g=licF f
 sig:g.sig=f.sig
 types:g.types=f.types
 succs:Ss.succs g.blocks=Ss.succs f.blocks
 len:hm.length=f.types.length
 home : ∀ v∈allL g.blocks,tabOf hm v=ql g v
theorem LOk.first {e:Env} {f g:Fn} {hm:List Int} (h:LOk e f g hm):Ss.first g.blocks (tabOf hm) (lps f.blocks)=Ss.first g.blocks (ql g) (lps g.blocks):=by
 have e1:lps g.blocks=lps f.blocks:=by unfold lps; rw [h.succs]
 rw [e1]
 refine KU (fun n x hx a ha => ?_) _
 have hb:g.blocks.getD n default∈g.blocks∨g.blocks.getD n default=default:=by
  rw [List.getD_eq_getElem?_getD]
  cases hn:g.blocks[n]? with
  | none=>exact .inr rfl
  | some b=>exact .inl (List.mem_of_getElem? hn)
 rcases hb with hb | hb
 ·exact h.home a (arg_made h.chk _ hb x hx a ha)
 ·rw [hb] at hx
  cases hx
theorem LOk.start {e:Env} {f:Fn} (h:check e f=true) (hf:f.Fits):LOk e f f (homesI f):=⟨h,hf,rfl,rfl,rfl,rfl,homesI_len f,fun v hv=>homes_home h v hv⟩
theorem LOk.end {e:Env} {f g:Fn} {hm:List Int} (h:LOk e f g hm) (hf:Ss.first g.blocks (tabOf hm) (lps f.blocks)=none):g=licF f:=by
 rw [h.first] at hf
 have:=Jr (wt g+1) hf
 rw [←h.fin]; exact this.symm
theorem LOk.step {e:Env} {f g:Fn} {hm:List Int} (h:LOk e f g hm) {p n i:Nat} (hf:Ss.first g.blocks (tabOf hm) (lps f.blocks)=some (p,n,i)) :
  ∃ (hp:p<g.blocks.length) (hn:n<g.blocks.length) (hi:i<g.blocks[n].code.length) (o:Nat),p≠n∧g.blocks[n].code[i].outs=[(o:Int)]∧o<hm.length∧moveAt g.blocks p n i=(g.blocks.set n (cutAt g.blocks[n] i)).set p (endWith g.blocks[p] g.blocks[n].code[i])∧LOk e f (moved g p n i) (hm.set o (p:Int))∧wt (moved g p n i)<wt g:=by
 rw [h.first] at hf
 obtain ⟨bp,bn,x,hm',hx,hc,hr⟩:=jbO h.chk hf
 obtain ⟨s1,s2,s3⟩:=jbn h.chk hf
 have hd:=check_dok h.chk
 obtain ⟨hp,ep⟩:=List.getElem?_eq_some_iff.1 hm'.hp
 obtain ⟨hn,en⟩:=List.getElem?_eq_some_iff.1 hm'.hn
 obtain ⟨hi,ei⟩:=List.getElem?_eq_some_iff.1 hm'.hi
 have hbm:bn∈g.blocks:=List.mem_of_getElem? hm'.hn
 have hxm:x∈bn.code:=List.mem_of_getElem? hm'.hi
 obtain ⟨o,ho⟩:=hd.one bn hbm x hxm hx
 have hoi:=hd.outs bn hbm x hxm o (by rw [ho]; simp)
 rw [h.types] at hoi
 have heq:=hm'.eq
 subst en
 subst ep
 subst ei
 refine ⟨hp,hn,hi,o.toNat,hm'.ne,by rw [ho]; congr 1; have:=hoi.1; omega,by rw [h.len]; have:=hoi.1; have:=hoi.2; omega,heq, ?_,s3⟩
 refine ⟨s1,step_fits h.chk h.fits hf,(licF_step h.chk hf).trans h.fin,h.sig,h.types,s2.trans h.succs,by rw [List.length_set]; exact h.len,fun v hv => ?_⟩
 have hv2:v∈allL g.blocks:=hm'.all.mem_iff.1 hv
 have hvi:=all_in hd v hv2
 rw [h.types] at hvi
 rw [move_home h.chk hm' s1 v hv2,ho]
 unfold tabOf
 by_cases e1:v=o
 ·subst e1
  rw [if_pos (by simp),List.getD_eq_getElem?_getD,List.getElem?_set_self (by rw [h.len]; have:=hvi.1; have:=hvi.2; omega)]; rfl
 ·rw [if_neg (by simpa using e1),List.getD_eq_getElem?_getD,List.getElem?_set_ne (by have:=hvi.1; have:=hoi.1; omega), ←List.getD_eq_getElem?_getD]
  exact h.home v hv2
end Ss

namespace Ss
open Go.Vw.G
def smallL:Fn:=⟨⟨[127,127],[]⟩,[127,127,127],[⟨[0,1],[⟨258,0,[],[]⟩],⟨1,0,[⟨1,[]⟩],[]⟩⟩,⟨[],[⟨258,0,[],[]⟩,⟨106,0,[0,1],[2]⟩],⟨1,0,[⟨1,[]⟩],[]⟩⟩]⟩
def smallL':Fn:=⟨⟨[127,127],[]⟩,[127,127,127],[⟨[0,1],[⟨258,0,[],[]⟩,⟨106,0,[0,1],[2]⟩],⟨1,0,[⟨1,[]⟩],[]⟩⟩,⟨[],[⟨258,0,[],[]⟩],⟨1,0,[⟨1,[]⟩],[]⟩⟩]⟩
def envL:Env:=⟨[],0,[],[],false⟩
theorem Zu:defsOf smallL=some [⟨true,0, -1⟩,⟨true,0, -1⟩,⟨true,1,1⟩]:=by decide
theorem smallL_defs':defsOf smallL'=some [⟨true,0, -1⟩,⟨true,0, -1⟩,⟨true,0,1⟩]:=by decide
theorem Kg:succs smallL.blocks=[[1],[1]]:=by decide
theorem jbp:succs smallL'.blocks=[[1],[1]]:=by decide
theorem smallL_near:nearI [[1],[1]]=[-1,0]:=by decide
theorem smallL_rings:rings smallL.blocks [[1],[1]]=false:=by
 simp [rings,smallL,tickB,ringM,ringW,List.range_succ]
theorem smallL_shape:shapeOk smallL=true:=by
 have h1:Go.Vw.G.right [[1],[1]]=true:=by decide
 have h2:Go.Vw.G.ordI [[1],[1]]=[0,1]:=by decide
 have h3:Go.Vw.G.nats [[1],[1]]=[[1],[1]]:=rfl
 simp only [shapeOk,Kg,h1,h2,h3,smallL_rings]
 decide
theorem Kh:check envL smallL=true:=by
 have h1:checkHead envL smallL=true:=by decide
 have hn:numSig 106=([127,127],127,true):=by decide
 have hf : ∀ n o,form envL 106 n o=⟨[127,127],[127],0,true⟩:=fun n o=>by
  have e0:form envL 106 n o=formNum envL 106:=by simp [form]
  rw [e0,formNum,hn]
 have hf2 : ∀ n o,form envL 258 n o=⟨[],[],0,true⟩:=fun n o=>by simp [form]
 simp only [check,h1,Zu,smallL_shape,Bool.true_and]
 rw [Kg,smallL_near]
 simp [smallL,checkBlocks,checkCode,insOk,hf,hf2,insOut,typesOf,asks,Go.Vw.eqF,termOk,termHead,termTail,branches,askOk,edgeOk]
 decide
theorem smallL_froms:froms [[1],[1]]=[[],[0,1]]:=by decide
theorem Zt:loopsTo (rNear [[1],[1]]) (froms [[1],[1]]) 2 2=[(1,[1])]:=by
 have hr:rNear [[1],[1]]=[-1,0]:=by decide
 have hb:backs [-1,0] 1 [0,1]=[1]:=by decide
 have hB : ∀ n,Bk [[],[0,1]] 1 [1] n→n=1:=by
  intro n h
  induction h with
  | start hn=>simpa using hn
  | step _ hn _ ih=>exact absurd ih hn
 have hl:loopIn [[],[0,1]] 1 [1] 2=[false,true]:=by
  have h0 : ¬ (0=1∨Bk [[],[0,1]] 1 [1] 0):=by
   rintro (h | h)
   ·omega
   ·have:=hB 0 h; omega
  have h1 : ¬ Bk [[],[0,1]] 1 [1] 0:=fun h=>h0 (.inr h)
  simp [loopIn,List.range_succ,h1]
 have hb0:backs [-1,0] 0 ([[],[0,1]].getD 0 [])=[]:=rfl
 have hb1:backs [-1,0] 1 ([[],[0,1]].getD 1 [])=[1]:=hb
 rw [hr,smallL_froms,loopsTo,hb1,loopsTo,hb0,loopsTo,hl]
 simp [picked]
theorem smallL_lps:lps smallL.blocks=[(1,[1])]:=by
 have h3:nats [[1],[1]]=[[1],[1]]:=rfl
 rw [lps,Kg,h3]; exact Zt
theorem smallL_lps':lps smallL'.blocks=[(1,[1])]:=by
 have h3:nats [[1],[1]]=[[1],[1]]:=rfl
 rw [lps,jbp,h3]; exact Zt
theorem smallL_small:smallL.small=true:=check_small Kh
theorem smallL_porch:porchF smallL 1 [1]=some 0:=by
 rw [porchF,if_pos smallL_small]; decide
theorem smallL_first:first smallL.blocks (ql smallL) (lps smallL.blocks)=some (0,1,1):=by
 rw [smallL_lps]
 have e:ql smallL=fun v=>(([⟨true,0, -1⟩,⟨true,0, -1⟩,⟨true,1,1⟩]:List Def).getD v.toNat default).block:=by funext v; rw [ql,Zu]; rfl
 rw [e]; decide
theorem jbq:first smallL'.blocks (ql smallL') (lps smallL'.blocks)=none:=by
 rw [smallL_lps']
 have e:ql smallL'=fun v=>(([⟨true,0, -1⟩,⟨true,0, -1⟩,⟨true,0,1⟩]:List Def).getD v.toNat default).block:=by funext v; rw [ql,smallL_defs']; rfl
 rw [e]; decide
theorem smallL_lic:licF smallL=smallL':=by
 have h:=licF_step Kh smallL_first
 have e:moved smallL 0 1 1=smallL':=by decide
 rw [e] at h
 rw [←h]
 exact Jr _ jbq
theorem smallL_out:licOut envL smallL=(smallL',0):=by rw [licOut_t Kh,smallL_lic]
theorem smallL_fits:smallL.Fits:=by
 simp [smallL,Fn.Fits,Sig.Fits,Ints,Block.Fits,Ins.Fits,Term.Fits,Edge.Fits,I64]
theorem envL_fits:envL.Fits:=by
 simp [envL,Env.Fits,Ints,I64]
end Ss

namespace Go.Vw
open Go.RowKit
def flat1:V→Bool
 | .bool _ | .int _ _ | .nils | .slice _ _ _=>true
 | _=>false
def flatV:V→Bool
 | .tuple xs=>xs.all flat1
 | x=>flat1 x
def Wh (n:Nat):V→V
 | .slice o off len => .slice (n+o) off len
 | x=>x
def jaH (n:Nat):V→V
 | .tuple xs => .tuple (xs.map (Wh n))
 | x=>Wh n x
def plus (S T:Store):Store:=⟨fun o=>if o<S.nx then S.get o else (T.get (o-S.nx)).map fun c=>(c.1,c.2.map (Wh S.nx)),S.nx+T.nx⟩
def joinB (n:Nat) (β β2:Objs):Objs:=fun o=>if o<n then β o else β2 (o-n)
theorem WT {m m2:Imm} {β β2:Objs} {n:Nat} {x:V} {v:Value} (hf:flat1 x=true) (h:Rep m2 β2 x v):Rep m (joinB n β β2) (Wh n x) v:=by
 have hj : ∀ o,joinB n β β2 (n+o)=β2 o:=fun o=>by
  unfold joinB; rw [if_neg (by omega),Nat.add_sub_cancel_left]
 cases h with
 | imm h=>cases h with
  | bool b=>exact .imm (.bool b)
  | int k i=>exact .imm (.int k i)
  | nils a=>exact .imm (.nils a)
  | str | nilp | nilf | nilm | agg | list0 | list | ref=>simp [flat1] at hf
 | sliceDead o off len v h h1=>exact .sliceDead _ off len v ((hj o).trans h) h1
 | sliceVoid o off a h=>exact .sliceVoid _ off a ((hj o).trans h)
 | slice o off len b base s n' cap a h hc hcm ha=>exact .slice _ off len b base s n' cap a ((hj o).trans h) hc hcm ha
 | agg | tuple | func | ptrDead | ptr | mapDead | map | junk=>simp [flat1] at hf
theorem rep_shift {m m2:Imm} {β β2:Objs} {n:Nat} {x:V} {v:Value} (hf:flatV x=true) (h:Rep m2 β2 x v):Rep m (joinB n β β2) (jaH n x) v:=by
 by_cases ht : ∃ xs,x = .tuple xs
 ·obtain ⟨xs,rfl⟩:=ht
  simp only [flatV,List.all_eq_true] at hf
  cases h with
  | imm h=>cases h
  | tuple xs vs hl hr =>
   refine .tuple _ vs (by simpa using hl) fun i y u hy hu => ?_
   simp only [List.getElem?_map,Option.map_eq_some_iff] at hy
   obtain ⟨z,hz,rfl⟩:=hy
   exact WT (hf z (List.mem_of_getElem? hz)) (hr i z u hz hu)
 ·have e1:flatV x=flat1 x:=by cases x<;>first | rfl | exact absurd ⟨_,rfl⟩ ht
  have e2:jaH n x=Wh n x:=by cases x<;>first | rfl | exact absurd ⟨_,rfl⟩ ht
  rw [e2]
  exact WT (e1▸hf) h
theorem VCalls.thaw {P:Program} {f:FuncId} {xs xs':List V} {S S':Store} {Q:V→Store→Prop} (h:VCalls P f xs' ⟨fun _=>none,0⟩ Q) (hg:GhostArgs xs S xs' S') (hcl : ∀ x∈xs',x.closed=true)
  (hfl : ∀ r T,Q r T→flatV r=true ∧ ∀ o c,T.get o=some c → ∀ x∈c.2,flat1 x=true):VCalls P f xs S fun r T => ∃ r0 T0,Q r0 T0∧r=jaH S.nx r0∧T=plus S T0:=by
 intro m β w vs hS hr
 obtain ⟨m1,β1,h1,h2,h3⟩:=hg m β w vs hS hr
 have h0:Holds ⟨fun _=>none,0⟩ m1 (fun _ => .fresh) w :=
  ⟨h1.imm,fun o b hb=>by simp [Loc.block?] at hb,fun o o' b hb=>by simp [Loc.block?] at hb,fun o=>by simp,fun o _=>rfl,fun o ho=>absurd ho (Nat.not_lt_zero _),fun o c hc=>by cases hc⟩
 have hr0:RepL m1 (fun _ => .fresh) xs' vs:=⟨h3.1,fun i x v hx hv => .imm ((h3.2 i x v hx hv).closed (hcl x (List.mem_of_getElem? hx)))⟩
 refine (h m1 _ w vs h0 hr0).mono ?_
 rintro e w' ⟨v,x,T0,m2,β2,he,hQ,k1,k2,k3⟩
 obtain ⟨hf1,hf2⟩:=hfl x T0 hQ
 have hheap : ∀ b,b<w.heap.size→w'.heap[b]? = w.heap[b]? := by
  intro b hb
  cases hm:m1 b with
  | some ob=>rw [h1.imm b ob hm,k2.imm b ob (k3.imm b ob hm)]
  | none=>exact (k3.keep b hb hm fun o=>by simp [Loc.block?]).1
 have hnob : ∀ b,b<w.heap.size → ∀ o,(β2 o).block? ≠ some b:=by
  intro b hb o
  cases hm:m1 b with
  | some ob =>
   intro hc
   have:=k2.apart o b hc
   rw [k3.imm b ob hm] at this; cases this
  | none=>exact (k3.keep b hb hm fun o=>by simp [Loc.block?]).2.2 o
 have hlt : ∀ {b:Nat} {ob:Obj},w.heap[b]? = some ob→b<w.heap.size:=by
  intro b ob hb
  rcases Nat.lt_or_ge b w.heap.size with h | h
  ·exact h
  ·rw [Array.getElem?_eq_none h] at hb; cases hb
 have hsome : ∀ {b:Nat} {ob:Obj},w.heap[b]? = some ob→w'.heap[b]? = some ob:=fun {b ob} hb=>by rw [hheap b (hlt hb),hb]
 have hblk : ∀ o b,(β o).block? = some b→b<w.heap.size:=by
  intro o b hb
  have hon:o<S.nx:=by
   rcases Nat.lt_or_ge o S.nx with h | h
   ·exact h
   ·rw [(hS.fresh o).2 h] at hb; cases hb
  cases hg:S.get o with
  | none=>rw [hS.dead o hon hg] at hb; cases hb
  | some c =>
   have hl:=hS.live o c hg
   cases hβ:β o with
   | fresh=>rw [hβ] at hb; cases hb
   | dead=>rw [hβ] at hb; cases hb
   | void=>rw [hβ] at hb; cases hb
   | lies b' base s n =>
    rw [hβ] at hl hb
    cases hb
    obtain ⟨_,arr,T,e1,_⟩:=hl
    exact hlt e1
   | mp b' =>
    rw [hβ] at hl hb
    cases hb
    obtain ⟨es,clock,e1,_⟩:=hl
    exact hlt e1
 have jl : ∀ {o},o<S.nx→joinB S.nx β β2 o=β o:=fun h=>if_pos h
 have jr : ∀ {o}, ¬ o<S.nx→joinB S.nx β β2 o=β2 (o-S.nx):=fun h=>if_neg h
 have hstep:Step β (joinB S.nx β β2):=fun o ho=>by
  have hon:o<S.nx:=by
   rcases Nat.lt_or_ge o S.nx with h | h
   ·exact h
   ·exact absurd ((hS.fresh o).2 h) ho
  exact .inl (jl hon)
 refine ⟨v,jaH S.nx x,plus S T0,m,joinB S.nx β β2,he,⟨x,T0,hQ,rfl,rfl⟩,rep_shift hf1 k1,⟨fun b o hb=>hsome (hS.imm b o hb),fun o b hb => ?_,fun o o' b hb hb' => ?_,fun o => ?_,fun o ho => ?_,fun o ho hn => ?_,fun o c hc => ?_⟩,⟨fun _ _ h=>h,hstep,k3.size,fun b hb hm hβ=>⟨hheap b hb,hm,fun o => ?_⟩,k3.os.trans (by rfl),k3.tape,k3.output⟩⟩
 ·by_cases hon:o<S.nx
  ·rw [jl hon] at hb; exact hS.apart o b hb
  ·rw [jr hon] at hb
   have h5:=k2.apart _ b hb
   cases hm:m b with
   | none=>rfl
   | some ob=>rw [k3.imm b ob (h2.imm b ob hm)] at h5; cases h5
 ·by_cases hon:o<S.nx
  ·rw [jl hon] at hb
   by_cases hon':o'<S.nx
   ·rw [jl hon'] at hb'; exact hS.inj o o' b hb hb'
   ·rw [jr hon'] at hb'; exact absurd hb' (hnob b (hblk o b hb) _)
  ·rw [jr hon] at hb
   by_cases hon':o'<S.nx
   ·rw [jl hon'] at hb'; exact absurd hb (hnob b (hblk o' b hb') _)
   ·rw [jr hon'] at hb'
    have:=k2.inj _ _ b hb hb'
    omega
 ·show _↔S.nx+T0.nx≤o
  by_cases hon:o<S.nx
  ·rw [jl hon,hS.fresh]; omega
  ·rw [jr hon,k2.fresh]; omega
 ·have ho':S.nx+T0.nx≤o:=ho
  show (if o<S.nx then S.get o else (T0.get (o-S.nx)).map _)=none
  rw [if_neg (by omega),k2.gone _ (by omega)]; rfl
 ·have ho':o<S.nx+T0.nx:=ho
  have hn':(if o<S.nx then S.get o else (T0.get (o-S.nx)).map fun c=>(c.1,c.2.map (Wh S.nx)))=none:=hn
  by_cases hon:o<S.nx
  ·rw [if_pos hon] at hn'
   rw [jl hon]; exact hS.dead o hon hn'
  ·rw [if_neg hon,Option.map_eq_none_iff] at hn'
   rw [jr hon]; exact k2.dead _ (by omega) hn'
 ·have hc':(if o<S.nx then S.get o else (T0.get (o-S.nx)).map fun c=>(c.1,c.2.map (Wh S.nx)))=some c:=hc
  by_cases hon:o<S.nx
  ·rw [if_pos hon] at hc'
   rw [jl hon]
   have hl:=hS.live o c hc'
   cases hβ:β o with
   | fresh=>rw [hβ] at hl; exact hl.elim
   | dead=>rw [hβ] at hl; exact hl.elim
   | void=>rw [hβ] at hl; exact hl
   | lies b base s n =>
    rw [hβ] at hl
    obtain ⟨e0,arr,T,e1,e2,e3,e4⟩:=hl
    refine ⟨e0,arr,T,hsome e1,e2,e3,fun i x hx => ?_⟩
    obtain ⟨v,a1,a2,a3⟩:=e4 i x hx
    exact ⟨v,a1,a2.mono (fun _ _ h=>h) hstep,a3⟩
   | mp b =>
    rw [hβ] at hl
    obtain ⟨es,clock,e1,e2,e3⟩:=hl
    refine ⟨es,clock,hsome e1,e2,fun i x en hx hen => ?_⟩
    obtain ⟨k,v,a1,a2,a3⟩:=e3 i x en hx hen
    exact ⟨k,v,a1,a2,a3.mono (fun _ _ h=>h) hstep⟩
  ·rw [if_neg hon] at hc'
   rw [jr hon]
   obtain ⟨c0,hc0,rfl⟩:=Option.map_eq_some_iff.1 hc'
   have hl:=k2.live _ c0 hc0
   have hfc:=hf2 _ c0 hc0
   cases hβ:β2 (o-S.nx) with
   | fresh=>rw [hβ] at hl; exact hl.elim
   | dead=>rw [hβ] at hl; exact hl.elim
   | void =>
    rw [hβ] at hl
    have hl':c0.2=[]:=hl
    show c0.2.map _=[]
    rw [hl']; rfl
   | lies b base s n =>
    rw [hβ] at hl
    obtain ⟨e0,arr,T,e1,e2,e3,e4⟩:=hl
    refine ⟨e0,arr,T,e1,e2,by simpa using e3,fun i x hx => ?_⟩
    simp only [List.getElem?_map,Option.map_eq_some_iff] at hx
    obtain ⟨y,hy,rfl⟩:=hx
    obtain ⟨v,a1,a2,a3⟩:=e4 i y hy
    exact ⟨v,a1,WT (hfc y (List.mem_of_getElem? hy)) a2,a3⟩
   | mp b =>
    rw [hβ] at hl
    obtain ⟨es,clock,e1,e2,e3⟩:=hl
    have:c0.2=[]:=by
     cases hcl:c0.2 with
     | nil=>rfl
     | cons y r =>
      rw [hcl] at e2
      have hlt:0<es.size:=by rw [←e2]; simp
      obtain ⟨k,v,a1,_⟩:=e3 0 y es[0] (by rw [hcl]; rfl) (by simp [hlt])
      have:=hfc y (by rw [hcl]; simp)
      rw [a1] at this
      simp [flat1] at this
    refine ⟨es,clock,e1,by simpa using e2,fun i x en hx _ => ?_⟩
    rw [this] at hx
    simp at hx
 ·by_cases hon:o<S.nx
  ·rw [jl hon]; exact hβ o
  ·rw [jr hon]; exact hnob b hb _
end Go.Vw

namespace Go.Vw
open Go.Proofs Go.RowKit
set_option maxRecDepth 10000
/-! A table of lists, each one's own. -/
abbrev rowD:List Ty:=[.s [.c]]
theorem row_row {T:Store} {l:List Int} {r:List V} {ii:List Nat} (h:OwL T rowD r (vl vint l).cells ii) : ∃ o,r=[.slice o 0 l.length]∧ii=[o]∧T.get o=some (1,l.map vint):=by
 rw [WE] at h
 generalize hA:vl vint l=A at h
 cases h with
 | @s _ _ _ _ ca ys i j op ho hs d h=>cases h with
  | nil =>
   have e1:ys=l.map vint:=by
    have:V.list (l.map vint)=V.list ys:=hA
    exact (V.list.inj this).symm
   subst e1
   have c1:=Jb (n:=(l.map vint).length*1) (by rw [←jaN]; exact d)
   rw [zg,qD] at c1
   refine ⟨op,by simp, ?_, ?_⟩
   ·rw [c1.2]; rfl
   ·rw [ho,c1.1]; rfl
theorem row_mk {T:Store} {l:List Int} {o:Nat} (h:T.get o=some (1,l.map vint)):OwL T rowD [.slice o 0 l.length] (vl vint l).cells [o]:=by
 rw [WE]
 exact OwL.slice (enc:=vint) (fun _=>rfl) (fun _=>rfl) l (by rw [qD]; exact h) .nil
def Tab (T:Store) (N oa:Nat) (t:List (List Int)):Prop := ∃ (rs:List (List V)) (ids:List Nat),T.get oa=some (1,rs.flatten)∧Rows T rowD (vl vint) t rs ids∧ids.Nodup ∧ ∀ o∈ids,N≤o
theorem Tab.mono {T T':Store} {N oa:Nat} {t:List (List Int)} (h:Tab T N oa t) (h0:T'.get oa=T.get oa) (h1 : ∀ o,N≤o→(T.get o).isSome=true→T'.get o=T.get o):Tab T' N oa t:=by
 obtain ⟨rs,ids,g,hr,hn,hi⟩:=h
 exact ⟨rs,ids,h0.trans g,hr.mono fun o ho=>h1 o (hi o ho) (hr.owl.alive o ho),hn,hi⟩
theorem rows1_flat {T:Store} {t:List (List Int)} {rs:List (List V)} {ids:List Nat} (h:Rows T rowD (vl vint) t rs ids):rs.flatten.length=t.length:=by
 have h1:=h.len
 rw [qX (m:=1) fun r hr=>h1.2 r hr,h1.1]; omega
theorem Tab.at {T:Store} {N oa:Nat} {t:List (List Int)} (h:Tab T N oa t) {v:Nat} (hv:v<t.length) : ∃ (cells:List V) (o:Nat),T.get oa=some (1,cells)∧cells.length=t.length∧cells[v]? = some (.slice o 0 t[v].length)∧T.get o=some (1,t[v].map vint)∧N≤o ∧
  ∀ (T':Store) (o':Nat) (l':List Int),N≤o'→(T.get o'=none∨o'=o)→(∀ x,N≤x→x≠o→(T.get x).isSome=true→T'.get x=T.get x)→T'.get o'=some (1,l'.map vint)→T'.get oa=some (1,cells.set v (.slice o' 0 l'.length))→Tab T' N oa (t.set v l'):=by
 obtain ⟨rs,ids,g,hr,hn,hi⟩:=h
 obtain ⟨r1,r,r2,i1,ii,i2,rfl,hl,rfl,hrow,hput⟩:=hr.at (List.getElem?_eq_getElem hv)
 obtain ⟨o,rfl,rfl,ho⟩:=row_row hrow
 have hlen:=hr.len
 have h1 : ∀ s∈r1,s.length=1:=fun s hs=>hlen.2 s (by simp [hs])
 have hg:=YZ (m:=1) (r1:=r1) (r:=[.slice o 0 t[v].length]) (r2:=r2) (q:=0) (w := .slice o 0 t[v].length) h1 hl rfl
 have alive:=hr.owl.alive
 refine ⟨_,o,g,rows1_flat hr,by simpa using hg,ho,hi o (by simp),fun T' o' l' hN ho' hk hg' hga => ?_⟩
 have hs:=jbN (m:=1) (r1:=r1) (r:=[.slice o 0 t[v].length]) (r2:=r2) (q:=0) (w := .slice o' 0 l'.length) h1 hl (by simp)
 simp only [Nat.mul_one,Nat.add_zero,List.set_cons_zero] at hs
 rw [hs] at hga
 have hno : ∀ x∈i1++i2,x≠o:=by
  rintro x hx rfl
  have hc:=List.nodup_iff_count.1 hn x
  have hc1:1≤(i1++i2).count x:=List.count_pos_iff.2 hx
  simp only [List.count_append,List.count_cons,beq_self_eq_true,if_true,List.count_nil] at hc hc1
  omega
 refine ⟨_,i1++([o']++i2),hga,hput T' [.slice o' 0 l'.length] l' [o'] (fun x hx => ?_) (row_mk hg'), ?_,fun x hx => ?_⟩
 ·have hxm:x∈i1++([o]++i2):=by
   rcases List.mem_append.1 hx with h | h<;>simp [h]
  exact hk x (hi x hxm) (hno x hx) (alive x hxm)
 ·rcases ho' with ho' | rfl
  ·have hnm : ∀ x∈i1++i2,x≠o':=by
    rintro x hx rfl
    have:=alive x (by rcases List.mem_append.1 hx with h | h<;>simp [h])
    rw [ho'] at this; cases this
   refine List.nodup_iff_count.2 fun x => ?_
   have hc:=List.nodup_iff_count.1 hn x
   simp only [List.count_append,List.count_cons,List.count_nil] at hc ⊢
   by_cases e:o'=x
   ·have hz:(i1++i2).count x=0:=List.count_eq_zero.2 fun hm=>hnm x hm e.symm
    simp only [List.count_append] at hz
    have:(if (o'==x)=true then 1 else 0)≤1:=by split<;>omega
    omega
   ·have:(o'==x)=false:=by simpa using e
    rw [this]
    have h0:(if (o==x)=true then 1 else 0)≥0:=Nat.zero_le _
    simp only [Bool.false_eq_true,if_false]
    omega
  ·exact hn
 ·simp only [List.mem_append,List.mem_singleton] at hx
  rcases hx with h | h | h
  ·exact hi x (by simp [h])
  ·omega
  ·exact hi x (by simp [h])
end Go.Vw
