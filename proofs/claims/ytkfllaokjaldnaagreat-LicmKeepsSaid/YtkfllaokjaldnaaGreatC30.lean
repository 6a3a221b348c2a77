import Derived.Test.YtkfllaokjaldnaaGreatC11
import Derived.Test.YtkfllaokjaldnaaGreatC29
import Derived.Test.YtkfllaokjaldnaaGreatC15
import Derived.Test.YtkfllaokjaldnaaGreatC23
/-
  Part of the proof (texts GTable, GRNear, LGA, LLoops, LRLoops, LAll).
-/
set_option linter.unusedVariables false
set_option linter.unusedSimpArgs false
namespace Go.Vw
open Go.Proofs Go.RowKit
set_option maxRecDepth 10000
set_option maxHeartbeats 4000000
def qj (g:List (List Nat)) (a:Nat):List V:=((List.range a).map (G.tableRow g)).map (vl V.bool)++List.replicate (g.length-a) .nils
theorem tabCells_set {g:List (List Nat)} {a:Nat} (h:a<g.length) (x:V):(qj g a).set a x=((List.range a).map (G.tableRow g)).map (vl V.bool)++x::List.replicate (g.length-(a+1)) .nils:=by
 have e:g.length-a=(g.length-(a+1))+1:=by omega
 rw [qj,e,List.replicate_succ,List.set_append_right _ _ (by simp)];simp
theorem Wv {g:List (List Nat)} {a:Nat} (h:a<g.length):(qj g a).set a (vl V.bool (G.tableRow g a))=qj g (a+1):=by
 rw [tabCells_set h,qj,List.range_succ];simp
theorem JF (f:Nat→Nat) (g:List (List Nat)) (a:Nat):V.renL f (qj g a)=qj g a:=by
 simp only [qj,ZJ,renL_vl];rw [qF,List.map_replicate,ren_nils]
theorem JI (p:Nat→Bool) (g:List (List Nat)) (a:Nat):V.idsL p (qj g a)=true:=by
 simp only [qj,jah,idsL_vl,Bool.true_and];rw [zk]; simp [ids_nils]
theorem tabCells_len {g:List (List Nat)} {a:Nat} (h:a≤g.length):(qj g a).length=g.length:=by simp [qj]; omega
def fill (f:Nat→Bool) (n b:Nat):List Bool:=(List.range b).map f++List.replicate (n-b) false
theorem fill_set {f:Nat→Bool} {n b:Nat} (h:b<n):(fill f n b).set b (f b)=fill f n (b+1):=by
 have e:n-b=(n-(b+1))+1:=by omega
 rw [fill,e,List.replicate_succ,List.set_append_right _ _ (by simp),fill,List.range_succ];simp
theorem fill_len {f:Nat→Bool} {n b:Nat} (h:b≤n):(fill f n b).length=n:=by simp [fill]; omega
theorem Table_v (g:List (List Nat)) (hg:G.Ok g):VPure Tryz.prog 59 [vl (vl vnat) g] (vl (vl V.bool) (G.table g)):=by
 intro S;refine jb (c:=jg Tryz.f59) Tryz.func59 rfl rfl (by simp [Tryz.ntmps59]) ?_;rw [Tryz.ntmps59];intro hwf;have hm256:=hg.max;have hb24:g.length*24≤140737488355328:=by omega
 have hb1:g.length*1≤140737488355328:=by omega
 have hb0:g.length≤140737488355328:=by omega
 generalize hall:G.without g none=all;have hal:all.length=g.length:=by rw [←hall]; exact G.without_length hg none
 repeat first|refine QG ?_|refine QY ?_
 repeat refine QS ?_
 refine QP ?_;refine jp rfl (hall▸jaz g hg none (by simp)) ?_;refine QW ?_
 repeat first|refine QG ?_|refine QY ?_ (r:=by conv=>lhs;simp[-List.map_set,QV,hb24,hb0])
 repeat refine QS ?_
 refine je [0,3,4,5] rfl (fun c σ S' => ∃ (a:Nat),a≤g.length∧c=g.length-a∧σ=[(0,vl (vl vnat) g),(3,vl V.bool all),(4, .slice (lid S.nx 0) 0 g.length),(5,vnat a)]∧S'=St S [] [some (1,qj g a)]) g.length ?_ ?_
 ·exact ⟨0,by omega,rfl,by simp [Fr.only,Fr.look,vnat],by simp [qj]⟩
 ·rintro c σ T ⟨a,ha,rfl,rfl,rfl⟩
  by_cases hlt:a<g.length
  ·have hw1:IntKind.i64.wrap ((a:Int)+1)=(a:Int)+1:=wrap_i64 (by omega) (by omega);have htl:=tabCells_len ha;have haa:a<all.length:=by omega
   have hat:a<(qj g a).length:=by omega
   obtain ⟨b,hb⟩ : ∃ b,all[a]=b:=⟨_,rfl⟩
   have hbd:all.getD a false=b:=by simp [haa,hb]
   cases b with
   | false =>
    have hrow:G.tableRow g a=List.replicate g.length false:=by simp only [G.tableRow,hall,hbd]; simp
    repeat first|refine QG ?_|refine QY ?_ (r:=by conv=>lhs;simp[-List.map_set,QV,hb1,hb0,hlt,hat,haa])
    refine jF rfl rfl (by simp [ev,Fr.look,hb]) ?_
    repeat refine QS ?_
    refine jV 1 rfl rfl ?_
    apply js
    ·exact Reach.frzCell (k:=0) (j:=1) (i:=a) (n:=g.length) (cells':=(List.replicate g.length false).map V.bool) (by omega) (by simp) (by simp) rfl (by simp [hat]) (by simp) (jL V.bool (fun _=>rfl) _) (by simp)
    have e:=Wv hlt;rw [hrow] at e;simp only [List.set_cons_succ,List.set_cons_zero,List.set_set];rw [show V.list ((List.replicate g.length false).map V.bool)=vl V.bool (List.replicate g.length false) from rfl,e]
    repeat first|refine QG ?_|refine QY ?_ (r:=by conv=>lhs;simp[-List.map_set,QV,hw1])
    refine jY [0] (by conv=>lhs; simp [Fr.only]) hwf (by decide) (by simp [-List.map_set,JF,JI]) (by conv=>lhs; simp [-List.map_set,JF,JI]) (by conv=>lhs; simp [-List.map_set,JF,JI]) (by conv=>lhs; simp [-List.map_set,JF,JI]) ⟨?_,a+1,hlt,rfl,by simp [vnat],rfl⟩;omega
   | true =>
    generalize hl:G.without g (some a)=l;have hll:l.length=g.length:=by rw [←hl]; exact G.without_length hg _
    obtain ⟨f,hf⟩ : ∃ f:Nat→Bool,f=fun b=>all.getD b false && !(l.getD b false):=⟨_,rfl⟩
    have hrow:G.tableRow g a=(List.range g.length).map f:=by rw [hf]; simp only [G.tableRow,hall,hbd,hl]; simp
    repeat first|refine QG ?_|refine QY ?_ (r:=by conv=>lhs;simp[-List.map_set,QV,hb1,hb0,hlt,hat,haa,hb])
    repeat refine QS ?_
    refine QP ?_;refine jp rfl (hl▸jaz g hg (some a) (by simpa using hlt)) ?_;refine QW ?_
    repeat first|refine QG ?_|refine QY ?_
    repeat refine QS ?_
    refine je [0,3,4,5,6,7] rfl (fun c σ S' => ∃ (b:Nat),b≤g.length∧c=g.length-b∧σ=[(0,vl (vl vnat) g),(3,vl V.bool all),(4, .slice (lid S.nx 0) 0 g.length),(5,vnat a),(6,vl V.bool l),(7,vnat b)]∧S'=St S [] [some (1,(qj g a).set a (.slice (lid S.nx 1) 0 g.length)),some (1,(fill f g.length b).map V.bool)]) g.length ?_ ?_
    ·exact ⟨0,by omega,rfl,by simp [Fr.only,Fr.look,vnat],by simp [fill]⟩
    ·rintro c σ T ⟨b,hbl,rfl,rfl,rfl⟩
     by_cases hbt:b<g.length
     ·have hw2:IntKind.i64.wrap ((b:Int)+1)=(b:Int)+1:=wrap_i64 (by omega) (by omega);have hba:b<all.length:=by omega
      have hbll:b<l.length:=by omega
      obtain ⟨x,hx⟩ : ∃ x,all[b]=x:=⟨_,rfl⟩
      have hfl:=fill_len (f:=f) hbl;have hbf:b<(fill f g.length b).length:=by omega
      have hset:=fill_set (f:=f) hbt;have hfb:f b=(x && !l[b]):=by rw [hf]; simp [hba,hbll,hx]
      rw [hfb] at hset
      cases x with
      | true =>
       repeat first|refine QG ?_|refine QY ?_ (r:=by conv=>lhs;simp[-List.map_set,QV,hbt])
       repeat refine QS ?_
       refine jP (St S [] [some (1,(qj g a).set a (.slice (lid S.nx 1) 0 g.length)),none]) (St S [] [some (1,(qj g a).set a (.slice (lid S.nx 1) 0 g.length)),some (1,(fill f g.length b).map V.bool)]) [] rfl (by kernel_rfl) (by conv=>lhs; reduce) (by conv=>lhs; reduce) (by kernel_rfl) (by kernel_rfl) (jm (by simp [subU,shpU,subL,shpL])) (by conv=>lhs; simp [-List.map_set,QV,hlt,hat,hbt,hba,hbll,hx,hbf]) ?_;refine jf rfl (by conv=>lhs;simp[-List.map_set,QV,hbt,hbf]) (jm (by simp [subU,shpU,subL,shpL])) ?_;refine QN ?_
       repeat first|refine QG ?_|refine QY ?_
       show jz _ _ _ _ _ _ _;exact again ⟨Nat.sub_lt_sub_left hbt (Nat.lt_succ_self b),b+1,hbt,rfl,by simp [Fr.only,Fr.look,vnat]; exact hw2,by rw [←hset]; simp⟩
      | false =>
       repeat first|refine QG ?_|refine QY ?_ (r:=by conv=>lhs;simp[-List.map_set,QV,hbt])
       repeat refine QS ?_
       refine jP (St S [] [some (1,(qj g a).set a (.slice (lid S.nx 1) 0 g.length)),none]) (St S [] [some (1,(qj g a).set a (.slice (lid S.nx 1) 0 g.length)),some (1,(fill f g.length b).map V.bool)]) [] rfl (by kernel_rfl) (by conv=>lhs; reduce) (by conv=>lhs; reduce) (by kernel_rfl) (by kernel_rfl) (jm (by simp [subU,shpU,subL,shpL])) (by conv=>lhs; simp [-List.map_set,QV,hlt,hat,hbt,hba,hbll,hx,hbf]) ?_;refine jf rfl (by conv=>lhs;simp[-List.map_set,QV,hbt,hbf]) (jm (by simp [subU,shpU,subL,shpL])) ?_;refine QN ?_
       repeat first|refine QG ?_|refine QY ?_
       show jz _ _ _ _ _ _ _;exact again ⟨Nat.sub_lt_sub_left hbt (Nat.lt_succ_self b),b+1,hbt,rfl,by simp [Fr.only,Fr.look,vnat]; exact hw2,by rw [←hset]; simp⟩
     ·have hbg:b=g.length:=by omega
      subst hbg
      repeat refine QS ?_
      refine QY ?_ (r:=by conv=>lhs;simp[-List.map_set,QV,hbt])
      repeat refine QS ?_
      refine jJ rfl rfl rfl ?_
      repeat refine QS ?_
      refine jV 2 rfl rfl ?_
      apply js
      ·exact Reach.frzCell (k:=0) (j:=1) (i:=a) (n:=g.length) (cells':=(G.tableRow g a).map V.bool) (by omega) (by simp) (by simp) rfl (by simp [hat]) (by rw [hrow]; simp [fill]) (jL V.bool (fun _=>rfl) _) (by simp [G.tableRow_length])
      have e:=Wv hlt;simp only [List.set_cons_succ,List.set_cons_zero,List.set_set];rw [show V.list ((G.tableRow g a).map V.bool)=vl V.bool (G.tableRow g a) from rfl,e]
      repeat first|refine QG ?_|refine QY ?_ (r:=by conv=>lhs;simp[-List.map_set,QV,hw1])
      refine jY [0] (by conv=>lhs; simp [Fr.only]) hwf (by decide) (by simp [-List.map_set,JF,JI]) (by conv=>lhs; simp [-List.map_set,JF,JI]) (by conv=>lhs; simp [-List.map_set,JF,JI]) (by conv=>lhs; simp [-List.map_set,JF,JI]) ⟨?_,a+1,hlt,rfl,by simp [vnat],rfl⟩;omega
  ·repeat first|refine QG ?_|refine QY ?_ (r:=by conv=>lhs;simp[-List.map_set,QV,hlt])
   have hag:a=g.length:=by omega
   subst hag;have e:qj g g.length=(G.table g).map (vl V.bool):=by simp [qj,G.table]
   rw [e];exact ji hwf ((frz1 (by simp) (by rfl) (jL (vl V.bool) (fun _=>rfl) _) (by simp [G.table])).toB _) rfl
end Go.Vw

namespace Go.Vw
open Go.Proofs Go.RowKit
set_option maxRecDepth 10000
set_option maxHeartbeats 4000000
theorem RNearest_v (g:List (List Nat)) (hg:G.Ok g) (hr:VPure Tryz.prog 45 [vl (vl vnat) g] (.bool true)):VPure Tryz.prog 47 [vl (vl vnat) g] (.tuple [vl vint (G.rNear g),vint 0]):=by
 intro S;refine jb (c:=jg Tryz.f47) Tryz.func47 rfl rfl (by simp [Tryz.ntmps47]) ?_;rw [Tryz.ntmps47];intro hwf;have hm256:=hg.max
 repeat first|refine QG ?_|refine QY ?_
 repeat refine QS ?_
 refine QP ?_;refine jp rfl (hr) ?_;refine QW ?_
 repeat first|refine QG ?_|refine QY ?_
 repeat refine QS ?_
 refine QP ?_;refine jp rfl (Table_v g hg) ?_;refine QW ?_;generalize ht:G.table g=t;have htl:t.length=g.length:=by rw [←ht]; simp [G.table]
 have hrl : ∀ a,a<g.length → ∃ r,t[a]? = some r∧r.length=g.length:=by
  intro a ha;refine ⟨G.tableRow g a,by rw [←ht]; simp [G.table,ha],G.tableRow_length g a⟩
 obtain ⟨f,hf⟩ : ∃ f:Nat→Int,f=fun b=>(G.bestTo t g.length b g.length).1:=⟨_,rfl⟩
 have hfin:G.rNear g=upTo f g.length:=by rw [hf]; simp only [G.rNear,ht,upTo]
 rw [hfin]
 repeat refine QS ?_
 refine QY ?_;refine zr 5 1 rfl (by conv=>lhs; simp [Fr.set]) ?_
 repeat first|refine QG ?_|refine QY ?_
 repeat refine QS ?_
 refine je [0,4,5,6] rfl (fun c σ S' => ∃ (b:Nat),b≤g.length∧c=g.length-b∧σ=[(0,vl (vl vnat) g),(4,vl (vl V.bool) t),(5, .slice (lid S.nx 0) 0 b),(6,vnat b)]∧S'=St S [] [some (1,(upTo f b).map vint)]) g.length ?_ ?_
 ·exact ⟨0,by omega,rfl,by simp [Fr.only,Fr.look,vnat],by simp [upTo_zero]⟩
 ·rintro c σ T ⟨b,hb,rfl,rfl,rfl⟩
  by_cases hbt:b<g.length
  ·have hwb:IntKind.i64.wrap ((b:Int)+1)=(b:Int)+1:=wrap_i64 (by omega) (by omega)
   repeat first|refine QG ?_|refine QY ?_ (r:=by conv=>lhs;simp[-List.map_set,QV,hbt])
   repeat refine QS ?_
   refine je [0,4,5,6,7,8,9] rfl (fun c σ S' => ∃ (a:Nat),a≤g.length∧c=g.length-a∧σ=[(0,vl (vl vnat) g),(4,vl (vl V.bool) t),(5, .slice (lid S.nx 0) 0 b),(6,vnat b),(7,vint (G.bestTo t g.length b a).1),(8,vnat (G.bestTo t g.length b a).2),(9,vnat a)]∧S'=St S [] [some (1,(upTo f b).map vint)]) g.length ?_ ?_
   ·exact ⟨0,by omega,rfl,by simp [Fr.only,Fr.look,vnat,vint,G.bestTo],by simp⟩
   ·rintro c σ T ⟨a,ha,rfl,rfl,rfl⟩
    by_cases hat:a<g.length
    ·have hwa:IntKind.i64.wrap ((a:Int)+1)=(a:Int)+1:=wrap_i64 (by omega) (by omega);have hst : ∀ x,x=G.bestTo t g.length b (a+1)→x=if a≠b∧G.tabAt t a b=true∧(G.bestTo t g.length b a).2<G.cntTo t a g.length then ((a:Int),G.cntTo t a g.length) else G.bestTo t g.length b a:=fun x h=>h
     have hst:=hst _ rfl;obtain ⟨r,hr,hrl'⟩:=hrl a hat;have hta:a<t.length:=by omega
     have hra:t[a]=r:=by simpa [hta] using hr
     by_cases hab:a=b
     ·subst hab;rw [if_neg (by simp)] at hst
      repeat first|refine QG ?_|refine QY ?_ (r:=by conv=>lhs;simp[-List.map_set,QV,hat])
      show jz _ _ _ _ _ _ _;exact again ⟨Nat.sub_lt_sub_left hat (Nat.lt_succ_self a),a+1,hat,rfl,by rw [hst]; simp [Fr.only,Fr.look,vnat,vint]; exact hwa,rfl⟩
     ·have hab' : ¬ (a:Int)=(b:Int):=by omega
      by_cases htab:G.tabAt t a b=true
      ·have htb:r[b]'(by omega)=true:=by
        have:b<r.length:=by omega
        simpa [G.tabAt,hta,hra,this] using htab
       have hbr:b<r.length:=by omega
       have hab' : ¬ (a:Int)=(b:Int):=by omega
       repeat first|refine QG ?_|refine QY ?_ (r:=by conv=>lhs;simp[-List.map_set,QV,hat,hab,hab',hta,hra,hbr,htb])
       repeat refine QS ?_
       refine je [0,4,5,6,7,8,9,10,11] rfl (fun c σ S' => ∃ (k:Nat),k≤g.length∧c=g.length-k∧σ=[(0,vl (vl vnat) g),(4,vl (vl V.bool) t),(5, .slice (lid S.nx 0) 0 b),(6,vnat b),(7,vint (G.bestTo t g.length b a).1),(8,vnat (G.bestTo t g.length b a).2),(9,vnat a),(10,vnat (G.cntTo t a k)),(11,vnat k)]∧S'=St S [] [some (1,(upTo f b).map vint)]) g.length ?_ ?_
       ·exact ⟨0,by omega,rfl,by simp [Fr.only,Fr.look,vnat,vint,G.cntTo],rfl⟩
       ·rintro c σ T ⟨k,hk,rfl,rfl,rfl⟩;have hcle:=G.cntTo_le t a k
        by_cases hkt:k<g.length
        ·have hwk:IntKind.i64.wrap ((k:Int)+1)=(k:Int)+1:=wrap_i64 (by omega) (by omega);have hwc:IntKind.i64.wrap ((G.cntTo t a k:Int)+1)=(G.cntTo t a k:Int)+1:=wrap_i64 (by omega) (by omega);obtain ⟨q,hq,hql⟩:=hrl k hkt;have htk:k<t.length:=by omega
         have hqk:t[k]=q:=by simpa [htk] using hq
         have haq:a<q.length:=by omega
         obtain ⟨x,hx⟩ : ∃ x,q[a]=x:=⟨_,rfl⟩
         have hxt:G.tabAt t k a=x:=by simp [G.tabAt,htk,hqk,haq,hx]
         have hcs:G.cntTo t a (k+1)=if x=true then G.cntTo t a k+1 else G.cntTo t a k:=by simp only [G.cntTo,hxt]
         cases x with
         | true =>
          repeat first|refine QG ?_|refine QY ?_ (r:=by conv=>lhs;simp[-List.map_set,QV,hkt,htk,hqk,haq,hx])
          show jz _ _ _ _ _ _ _;exact again ⟨Nat.sub_lt_sub_left hkt (Nat.lt_succ_self k),k+1,hkt,rfl,by rw [hcs]; simp [Fr.only,Fr.look,vnat,vint,hwk,hwc],rfl⟩
         | false =>
          repeat first|refine QG ?_|refine QY ?_ (r:=by conv=>lhs;simp[-List.map_set,QV,hkt,htk,hqk,haq,hx])
          show jz _ _ _ _ _ _ _;exact again ⟨Nat.sub_lt_sub_left hkt (Nat.lt_succ_self k),k+1,hkt,rfl,by rw [hcs]; simp [Fr.only,Fr.look,vnat,vint,hwk,hwc],rfl⟩
        ·have hkg:k=g.length:=by omega
         subst hkg
         by_cases hgt:(G.bestTo t g.length b a).2<G.cntTo t a g.length
         ·rw [if_pos ⟨hab,htab,hgt⟩] at hst
          repeat first|refine QG ?_|refine QY ?_ (r:=by conv=>lhs;simp[-List.map_set,QV,hkt,hgt])
          show jz _ _ _ _ _ _ _;exact again ⟨Nat.sub_lt_sub_left hat (Nat.lt_succ_self a),a+1,hat,rfl,by rw [hst]; simp [Fr.only,Fr.look,vnat,vint,hwa],rfl⟩
         ·rw [if_neg (fun h=>hgt h.2.2)] at hst
          repeat first|refine QG ?_|refine QY ?_ (r:=by conv=>lhs;simp[-List.map_set,QV,hkt,hgt])
          show jz _ _ _ _ _ _ _;exact again ⟨Nat.sub_lt_sub_left hat (Nat.lt_succ_self a),a+1,hat,rfl,by rw [hst]; simp [Fr.only,Fr.look,vnat,vint,hwa],rfl⟩
      ·have htb:r[b]'(by omega)=false:=by
        have:b<r.length:=by omega
        simpa [G.tabAt,hta,hra,this] using htab
       have hbr:b<r.length:=by omega
       rw [if_neg (fun h=>htab h.2.1)] at hst
       repeat first|refine QG ?_|refine QY ?_ (r:=by conv=>lhs;simp[-List.map_set,QV,hat,hab,hab',hta,hra,hbr,htb])
       show jz _ _ _ _ _ _ _;exact again ⟨Nat.sub_lt_sub_left hat (Nat.lt_succ_self a),a+1,hat,rfl,by rw [hst]; simp [Fr.only,Fr.look,vnat,vint,hwa],rfl⟩
    ·have hag:a=g.length:=by omega
     subst hag;have hfb:f b=(G.bestTo t g.length b g.length).1:=by rw [hf]
     have hc8:(b+1)*8≤140737488355328:=by omega
     have hc1:b+1≤140737488355328:=by omega
     repeat first|refine QG ?_|refine QY ?_ (r:=by conv=>lhs;simp[-List.map_set,QV,hat,hc8,hc1])
     refine QA [2] (h:=⟨?_,b+1,hbt,rfl,by simp [vnat,hwb],by rw [upTo_succ,hfb]; simp [vint]⟩);omega
  ·repeat first|refine QG ?_|refine QY ?_ (r:=by conv=>lhs;simp[-List.map_set,QV,hbt])
   have hag:b=g.length:=by omega
   subst hag;exact ji hwf ((Ghost.tuple [] [vint 0] (frz1 (by simp) (by rfl) (jL vint (fun _=>rfl) _) (by simp [upTo_len]))).toB _) rfl
end Go.Vw

namespace Go.Vw
open Go.Proofs Go.RowKit
set_option maxRecDepth 10000
set_option maxHeartbeats 4000000
theorem FromAll_v (g:List (List Int)) (h:Fits g):VPure Tryz.prog 78 [vl (vl vint) g] (.tuple [vl (vl vnat) (G.fromI g),vint (G.err g)]):=by
 cases hr:G.right g with
 | false =>
  simp only [G.fromI,G.err,hr];exact FromErr_v g h.1 h.2 hr
 | true =>
  simp only [G.fromI,G.err,hr,if_true];rw [G.right_enc hr];exact From_v _ (G.right_ok hr) (Yg g h hr)
end Go.Vw

namespace Go.Vw
open Go.Proofs Go.RowKit
set_option maxRecDepth 10000
set_option maxHeartbeats 16000000
def qn (x:Nat × List Nat):V := .agg [vnat x.1,vl vnat x.2]
theorem WP (x:Nat × List Nat):(qn x).cells=[vnat x.1,vl vnat x.2]:=by simp [qn,V.cells]
theorem jan (x:Nat × List Nat):(qn x).cells.length=2:=by rw [WP]; rfl
theorem JO (x:Nat × List Nat):(qn x).closed=true:=rfl
theorem jC (f:Nat→Nat) (ls:List (Nat × List Nat)):V.renL f (jo qn ls)=jo qn ls:=JA JO f ls
theorem jD (p:Nat→Bool) (ls:List (Nat × List Nat)):V.idsL p (jo qn ls)=true:=JB JO p ls
theorem zY (f:Nat→Nat) (n:Nat) (b:Bool):V.renL f (List.replicate n (V.bool b))=List.replicate n (V.bool b):=by
 have:=ZI f (List.replicate n b);simpa using this
theorem Jb (p:Nat→Bool) (n:Nat) (b:Bool):V.idsL p (List.replicate n (V.bool b))=true:=by
 have:=jag p (List.replicate n b);simpa using this
theorem few {u t:Nat} (hu:u≤256) (ht:t≤1048576):u*(1048576+1)+t≤1073741824:=by omega
theorem few_len {M:Nat} {inn:List Bool} {td:List Nat} {n:Nat} (h:G.todoM M inn (td++[n])≤1073741824):td.length+1≤1073741824:=by
 simp only [G.todoM,List.length_append,List.length_cons,List.length_nil] at h;have:=Nat.zero_le (G.unmet inn*(M+1));omega
theorem few_less {M:Nat} {inn:List Bool} {td:List Nat} {n:Nat}:G.todoM M inn td<G.todoM M inn (td++[n]):=by
 simp [G.todoM]
def Few (inn:List Bool) (todo:List Nat):Prop:=G.todoM (1048576) inn todo≤1073741824
theorem gLoopsErr_v (g:List (List Int)) (h:Fits g) (hr:G.right g=false):VPure Tryz.prog 25 [vl (vl vint) g] (.tuple [vl qn [],vint 1]):=by
 intro S;have e:G.err g=1:=by simp [G.err,hr]
 refine jb (c:=jg Tryz.f25) Tryz.func25 rfl rfl (by simp [Tryz.ntmps25]) ?_;rw [Tryz.ntmps25];intro hwf
 repeat first|refine QG ?_|refine QY ?_
 repeat refine QS ?_
 refine QP ?_;refine jp rfl (KF g h) ?_;refine QW ?_
 repeat first|refine QG ?_|refine QY ?_ (r:=by conv=>lhs;simp[-List.map_set,QV,e])
 exact ji (l:=[]) hwf ((Ghost.tuple [] [vint 1] (Ghost.nils_list _)).toB _) rfl
theorem gLoops_v (g:List (List Nat)) (hg:G.Ok g) (near:List Int) (fr:List (List Nat)) (cn:VPure Tryz.prog 77 [vl (vl vnat) g] (.tuple [vl vint near,vint 0])) (cf:VPure Tryz.prog 78 [vl (vl vnat) g] (.tuple [vl (vl vnat) fr,vint 0]))
  (hnl:near.length=g.length) (hfl:fr.length=g.length) (hfm : ∀ r∈fr,r.length≤1048576) (hfe : ∀ r∈fr, ∀ x∈r,x<g.length) :
  VPure Tryz.prog 25 [vl (vl vnat) g] (.tuple [vl qn (G.loopsTo near fr g.length g.length),vint 0]):=by
 intro S;refine jb (c:=jg Tryz.f25) Tryz.func25 rfl rfl (by simp [Tryz.ntmps25]) ?_;rw [Tryz.ntmps25];intro hwf;have hm:=hg.max;have hp:=hg.pos;have hb1:g.length*1≤140737488355328:=by omega
 have hb0:g.length≤140737488355328:=by omega
 repeat first|refine QG ?_|refine QY ?_
 repeat refine QS ?_
 refine QP ?_;refine jp rfl (cn) ?_;refine QW ?_
 repeat first|refine QG ?_|refine QY ?_
 repeat refine QS ?_
 refine QP ?_;refine jp rfl (cf) ?_;refine QW ?_
 repeat refine QS ?_
 refine QY ?_;refine zr 8 2 rfl (by conv=>lhs; simp [Fr.set]) ?_
 repeat first|refine QG ?_|refine QY ?_
 repeat refine QS ?_
 refine je [0,4,6,8,32,33] rfl (fun c σ S' => ∃ h:Nat,h≤g.length∧c=g.length-h∧σ=[(0,vl (vl vnat) g),(4,vl vint near),(6,vl (vl vnat) fr),(8, .slice (lid S.nx 0) 0 (G.loopsTo near fr g.length h).length),(32,vnat g.length),(33,vnat h)]∧S'=St S [] [some (2,jo qn (G.loopsTo near fr g.length h))]) g.length ?_ ?_
 ·exact ⟨0,by omega,rfl,by simp [Fr.only,G.loopsTo],by simp [G.loopsTo,jo]⟩
 ·rintro c σ T ⟨h,hh,rfl,rfl,rfl⟩
  by_cases hht:h<g.length
  ·have hw:IntKind.i64.wrap ((h:Int)+1)=(h:Int)+1:=wrap_i64 (by omega) (by omega);have hhn:h<near.length:=by omega
   have hhf:h<fr.length:=by omega
   have hnd:near.getD h 0=near[h]:=by simp [hhn]
   have hfd:fr.getD h []=fr[h]:=by simp [hhf]
   have hrow:=hfm _ (List.getElem_mem hhf);have hrowe:=hfe _ (List.getElem_mem hhf);have hst:G.loopsTo near fr g.length (h+1)=if (0<h∧near[h]<0)∨G.backs near h fr[h]=[] then G.loopsTo near fr g.length h else G.loopsTo near fr g.length h++[(h,G.picked (G.loopIn fr h (G.backs near h fr[h]) g.length) g.length)]:=by
    simp only [G.loopsTo,hnd,hfd]
   have hlo:=G.loopsTo_len near fr g.length h;generalize G.loopsTo near fr g.length h=ls at *
   by_cases hskip:0<h∧near[h]<0
   ·rw [if_pos (.inl hskip)] at hst;obtain ⟨h1,h2⟩:=hskip;have h1':(0:Int)<(h:Int):=by omega
    repeat first|refine QG ?_|refine QY ?_ (r:=by conv=>lhs;simp[-List.map_set,QV,hht,hhn,h1,h1',h2])
    show jz _ _ _ _ _ _ _;exact again ⟨Nat.sub_lt_sub_left hht (Nat.lt_succ_self h),h+1,hht,rfl,by rw [hst]; simp [Fr.only,hw],by rw [hst]⟩
   ·have hge:0<h → ¬ near[h]<0:=fun h1 h2=>hskip ⟨h1,h2⟩
    repeat first|refine QG ?_|refine QY ?_ (r:=by conv=>lhs;simp[-List.map_set,QV,hht])
    repeat refine QS ?_
    refine jaE (0<h) [0,4,6,8,9,32,33,44] rfl (by conv=>lhs; reduce) (fun hyes=>⟨_,by conv=>lhs; simp [-List.map_set,QV,hyes,hhn,(hge hyes)],by conv=>lhs; simp [Fr.only]⟩) (fun hno=>⟨_,by conv=>lhs; simp [-List.map_set,QV,hno,hhn],by conv=>lhs; simp [Fr.only]⟩) ?_
    repeat first|refine QG ?_|refine QY ?_ (r:=by conv=>lhs;simp[-List.map_set,QV,hb1,hb0,hhf])
    refine zr 11 1 rfl (by conv=>lhs; simp [Fr.set]) ?_
    repeat first|refine QG ?_|refine QY ?_ (r:=by conv=>lhs;simp[-List.map_set,QV,hhf])
    generalize hts:G.backs near h fr[h]=ts at *
    have htsl:ts.length≤fr[h].length:=by rw [←hts]; exact List.length_filter_le _ _
    repeat refine QS ?_
    refine je [0,4,6,8,9,10,11,32,33,51,52,53] rfl (fun c σ S' => ∃ (k:Nat) (todo:List Nat),k≤fr[h].length∧c=fr[h].length-k∧todo++G.backs near h (fr[h].drop k)=ts∧σ=[(0,vl (vl vnat) g),(4,vl vint near),(6,vl (vl vnat) fr),(8, .slice (lid S.nx 0) 0 ls.length),(9,vnat h),(10, .slice (lid S.nx 1) 0 g.length),(11, .slice (lid S.nx 2) 0 todo.length),(32,vnat g.length),(33,vnat h),(51,vl vnat fr[h]),(52,vnat fr[h].length),(53,vnat k)]∧S'=St S [] [some (2,jo qn ls),some (1,(List.replicate g.length false).map V.bool),some (1,todo.map vnat)]) fr[h].length ?_ ?_
    ·exact ⟨0,[],by omega,rfl,by simpa using hts,by simp [Fr.only],by simp⟩
    ·rintro c σ T ⟨k,todo,hk,rfl,hdo,rfl,rfl⟩;have htdl:todo.length≤ts.length:=by rw [←hdo]; simp
     by_cases hkt:k<fr[h].length
     ·have hwk:IntKind.i64.wrap ((k:Int)+1)=(k:Int)+1:=wrap_i64 (by omega) (by omega);rw [List.drop_eq_getElem_cons hkt] at hdo;generalize hpe:fr[h][k]=p at hdo;have hd:=jaC near h p (by omega)
      repeat first|refine QG ?_|refine QY ?_ (r:=by conv=>lhs;simp[-List.map_set,QV,hkt,hpe])
      repeat refine QS ?_
      refine QP ?_;refine jp rfl (hd) ?_;refine QW ?_
      cases hb:G.dominates near h p with
      | true =>
       have hc8:(todo.length+1)*8≤140737488355328:=by omega
       have hc1:todo.length+1≤140737488355328:=by omega
       have hdo':(todo++[p])++G.backs near h (fr[h].drop (k+1))=ts:=by
        rw [←hdo]; simp [G.backs,hb]
       repeat first|refine QG ?_|refine QY ?_ (r:=by conv=>lhs;simp[-List.map_set,QV,hb,hc8,hc1])
       refine jY [0,1,4] (by conv=>lhs; simp [Fr.only]) hwf (by decide) (by simp [-List.map_set,jC,jD,zY,Jb]) (by conv=>lhs; simp [-List.map_set,jC,jD,zY,Jb]) (by conv=>lhs; simp [-List.map_set,jC,jD,zY,Jb]) (by conv=>lhs; simp [-List.map_set,jC,jD,zY,Jb]) ⟨?_,k+1,todo++[p],hkt,rfl,hdo',by simp [hwk],by simp⟩;omega
      | false =>
       have hdo':todo++G.backs near h (fr[h].drop (k+1))=ts:=by
        rw [←hdo]; simp [G.backs,hb]
       repeat first|refine QG ?_|refine QY ?_ (r:=by conv=>lhs;simp[-List.map_set,QV,hb])
       show jz _ _ _ _ _ _ _;exact again ⟨Nat.sub_lt_sub_left hkt (Nat.lt_succ_self k),k+1,todo,hkt,rfl,hdo',by simp [Fr.only,hwk],by simp⟩
     ·have hke:k=fr[h].length:=by omega
      subst hke;simp only [List.drop_length] at hdo;have hts':todo=ts:=by simpa [G.backs] using hdo
      subst hts'
      by_cases hemp:todo=[]
      ·rw [if_pos (.inr hemp)] at hst;subst hemp
       repeat first|refine QG ?_|refine QY ?_ (r:=by conv=>lhs;simp[-List.map_set,QV,hkt])
       refine jY [0] (by conv=>lhs; simp [Fr.only]) hwf (by decide) (by simp [-List.map_set,jC,jD,zY,Jb]) (by conv=>lhs; simp [-List.map_set,jC,jD,zY,Jb]) (by conv=>lhs; simp [-List.map_set,jC,jD,zY,Jb]) (by conv=>lhs; simp [-List.map_set,jC,jD,zY,Jb]) ⟨?_,h+1,hht,rfl,by rw [hst]; simp [hw],by rw [hst]⟩;omega
      ·rw [if_neg (by rintro (h1 | h1); exact hskip h1; exact hemp h1)] at hst;have hlen0 : ¬ todo.length=0:=fun e=>hemp (List.eq_nil_of_length_eq_zero e)
       have hlt : ∀ t∈todo,t<g.length:=fun t ht=>hrowe t (by rw [←hts] at ht; exact (List.mem_filter.1 ht).1)
       have hS0:=G.Srch.start (fr:=fr) hht hlt
       repeat first|refine QG ?_|refine QY ?_ (r:=by conv=>lhs;simp[-List.map_set,QV,hkt,hlen0,hht])
       have hum:G.unmet ((List.replicate g.length false).set h true)≤g.length:=by
        have:=List.count_le_length (a:=false) (l:=(List.replicate g.length false).set h true);simpa [G.unmet] using this
       have hm0:G.todoM (1048576) ((List.replicate g.length false).set h true) todo≤1073741824:=by
        exact few (by omega) (by omega)
       repeat refine QS ?_
       refine je [0,4,6,8,9,10,11,32,33] rfl (fun c σ S' => ∃ (inn:List Bool) (td:List Nat),G.Srch fr h todo g.length inn td∧c=G.todoM (1048576) inn td∧c≤1073741824∧σ=[(0,vl (vl vnat) g),(4,vl vint near),(6,vl (vl vnat) fr),(8, .slice (lid S.nx 0) 0 ls.length),(9,vnat h),(10, .slice (lid S.nx 1) 0 g.length),(11, .slice (lid S.nx 2) 0 td.length),(32,vnat g.length),(33,vnat h)]∧S'=St S [] [some (2,jo qn ls),some (1,inn.map V.bool),some (1,td.map vnat)]) (G.todoM (1048576) ((List.replicate g.length false).set h true) todo) ?_ ?_
       ·exact ⟨_,_,hS0,rfl,hm0,by simp [Fr.only],by simp [List.map_set]⟩
       ·rintro c σ T ⟨inn,td,hS,rfl,hcm,rfl,rfl⟩;have hil:=hS.len;rcases List.eq_nil_or_concat td with rfl | ⟨td,n,rfl⟩
        ·have hie:=G.loopIn_eq hS;rw [←hie] at hst
         repeat refine QS ?_
         refine QY ?_
         repeat refine QS ?_
         refine jJ rfl rfl rfl ?_
         repeat refine QS ?_
         refine jV 4 rfl rfl ?_
         repeat refine QS ?_
         refine QY ?_
         apply js
         ·exact Reach.voidCell 1 (k:=3) (i:=1) (by simp) rfl rfl
         simp only [List.cons_append,List.nil_append,List.set_cons_succ,List.set_cons_zero,List.length_cons,List.length_nil,Nat.reduceAdd]
         repeat first|refine QG ?_|refine QY ?_
         repeat refine QS ?_
         refine je [0,4,6,8,15,32,33,102,103,104] rfl (fun c σ S' => ∃ k:Nat,k≤g.length∧c=g.length-k∧σ=[(0,vl (vl vnat) g),(4,vl vint near),(6,vl (vl vnat) fr),(8, .slice (lid S.nx 0) 0 ls.length),(15, .ptr (lid S.nx 3) 0),(32,vnat g.length),(33,vnat h),(102, .slice (lid S.nx 1) 0 g.length),(103,vnat g.length),(104,vnat k)]∧S'=St S [] [some (2,jo qn ls),some (1,inn.map V.bool),some (1,[]),some (2,[vnat h, .slice (lid S.nx 4) 0 (G.picked inn k).length]),some (1,(G.picked inn k).map vnat)]) g.length ?_ ?_
         ·exact ⟨0,by omega,rfl,by simp [Fr.only],by simp [G.picked]⟩
         ·rintro c σ T ⟨k,hk,rfl,rfl,rfl⟩;have hpl:=G.picked_len inn k
          by_cases hkt:k<g.length
          ·have hwk:IntKind.i64.wrap ((k:Int)+1)=(k:Int)+1:=wrap_i64 (by omega) (by omega);have hki:k<inn.length:=by omega
           obtain ⟨x,hx⟩ : ∃ x,inn[k]=x:=⟨_,rfl⟩
           have hxd:inn.getD k false=x:=by simp [hki,hx]
           have hps:G.picked inn (k+1)=if x=true then G.picked inn k++[k] else G.picked inn k:=by simp only [G.picked,hxd]
           have hc8:((G.picked inn k).length+1)*8≤140737488355328:=by omega
           have hc1:(G.picked inn k).length+1≤140737488355328:=by omega
           generalize G.picked inn k=pk at *
           cases x with
           | true =>
            repeat first|refine QG ?_|refine QY ?_ (r:=by conv=>lhs;simp[-List.map_set,QV,hkt,hki,hx,hc8,hc1])
            refine jY [0,1,2,3,6] (by conv=>lhs; simp [Fr.only]) hwf (by decide) (by simp [-List.map_set,jC,jD]) (by conv=>lhs; simp [-List.map_set,jC,jD]) (by conv=>lhs; simp [-List.map_set,jC,jD]) (by conv=>lhs; simp [-List.map_set,jC,jD]) ⟨?_,k+1,hkt,rfl,by simp [hwk],by rw [hps]; simp⟩;omega
           | false =>
            repeat first|refine QG ?_|refine QY ?_ (r:=by conv=>lhs;simp[-List.map_set,QV,hkt,hki,hx,hc8,hc1])
            show jz _ _ _ _ _ _ _;exact again ⟨Nat.sub_lt_sub_left hkt (Nat.lt_succ_self k),k+1,hkt,rfl,by simp [Fr.only,hwk],by rw [hps]; simp⟩
          ·have hke:k=g.length:=by omega
           subst hke;generalize G.picked inn g.length=pk at *
           repeat refine QS ?_
           refine QY ?_ (r:=by conv=>lhs;simp[-List.map_set,QV,hkt])
           repeat refine QS ?_
           refine jJ rfl rfl rfl ?_
           repeat refine QS ?_
           refine jV 6 rfl rfl ?_
           apply js
           ·exact Reach.frzCell (k:=3) (j:=4) (i:=1) (n:=pk.length) (cells':=pk.map vnat) (by omega) (by simp) (by simp) rfl rfl rfl (jL vnat (fun _=>rfl) _) (by simp)
           simp only [List.set_cons_succ,List.set_cons_zero];have hfl2:ls.length*2=(jo qn ls).length:=by rw [Jc jan]
           have hc8:(ls.length+1)*32≤140737488355328:=by omega
           have hc1:ls.length+1≤140737488355328:=by omega
           have hsnoc:jo qn (ls++[(h,pk)])=jo qn ls++[vnat h,V.list (pk.map vnat)]:=by rw [zF,WP]; rfl
           repeat first|refine QG ?_|refine QY ?_ (r:=by conv=>lhs;simp[-List.map_set,QV,hfl2,hc8,hc1,rep0])
           refine jY [6] (by conv=>lhs; simp [Fr.only]) hwf (by decide) (by simp [-List.map_set,jC,jD]) (by conv=>lhs; simp [-List.map_set,jC,jD]) (by conv=>lhs; simp [-List.map_set,jC,jD]) (by conv=>lhs; simp [-List.map_set,jC,jD]) ⟨?_,h+1,hht,rfl,by rw [hst]; simp [hw],by rw [hst,hsnoc]; simp⟩;omega
        ·rw [List.concat_eq_append] at *
         have hn:=hS.lt n (by simp);have hni:n<inn.length:=by omega
         have hnf:n<fr.length:=by omega
         have hfn:fr.getD n []=fr[n]:=by simp [hnf]
         have hrn:=hfm _ (List.getElem_mem hnf);have htl:td.length+1≤1073741824:=few_len hcm;have hw1:IntKind.i64.wrap ((td.length:Int)+1-1)=(td.length:Int):=by
          rw [wrap_i64 (by omega) (by omega)]; omega
         have hw2:IntKind.i64.wrap (td.length:Int)=(td.length:Int):=wrap_i64 (by omega) (by omega);have h0:(0:Int)<(td.length:Int)+1:=by omega
         have h1:(td.length:Int)<(td.length:Int)+1:=by omega
         have h2:(td.length:Int)≤(td.length:Int)+1:=by omega
         have hsub : ∀ t∈td,t∈td++[n]:=fun t ht=>by simp [ht]
         have hre : ∀ t∈td++[n],t=n∨t∈td:=fun t ht=>by
          rcases List.mem_append.1 ht with h | h
          ·exact .inr h
          ·simp at h; exact .inl h
         repeat refine QS ?_
         refine QY ?_ (r:=by conv=>lhs;simp[-List.map_set,QV,h0])
         repeat refine QS ?_
         refine jF rfl rfl rfl ?_
         repeat refine QS ?_
         refine jE rfl ?_
         repeat refine QS ?_
         refine jN 5 rfl rfl ?_
         repeat refine QS ?_
         refine QY ?_ (r:=by conv=>lhs;simp[-List.map_set,QV,hw1,hw2,h0,h1])
         repeat refine QS ?_
         refine QY ?_ (r:=by conv=>lhs;simp[-List.map_set,QV,hw1,hw2,h0,h1,h2]);refine vw_trim 11 td.length rfl (by simp) rfl (by conv=>lhs; simp [List.set_cons_zero,List.set_cons_succ]) ?_;obtain ⟨x,hx⟩ : ∃ x,inn[n]=x:=⟨_,rfl⟩
         have hxd:inn.getD n false=x:=by simp [hni,hx]
         cases x with
         | true =>
          have hS':=hS.seen hxd hsub hre
          repeat first|refine QG ?_|refine QY ?_ (r:=by conv=>lhs;simp[-List.map_set,QV,hn,hni,hx])
          refine jY [0,1,2] (by conv=>lhs; simp [Fr.only]) hwf (by decide) (by simp [-List.map_set,jC,jD]) (by conv=>lhs; simp [-List.map_set,jC,jD]) (by conv=>lhs; simp [-List.map_set,jC,jD]) (by conv=>lhs; simp [-List.map_set,jC,jD]) ⟨?_,inn,td,hS',rfl,Nat.le_trans (Nat.le_of_lt few_less) hcm,by simp,by simp⟩;exact few_less
         | false =>
          have hS':=hS.take (todo':=td++fr[n]) (by simp) (by rw [hfn]; exact hfe _ (List.getElem_mem hnf)) hxd (fun t ht=>by
           rcases List.mem_append.1 ht with h | h
           ·exact .inl (by simp [h])
           ·exact .inr (by rw [hfn]; exact h)) (fun t ht=>by
           rcases hre t ht with h | h
           ·exact .inl h
           ·exact .inr (by simp [h])) (fun t ht=>by rw [hfn] at ht; simp [ht])
          have hmm:=G.todoM_take (M:=1048576) (todo:=td++[n]) (todo':=td++fr[n]) hni hx hrn (by simp; omega);have hc8:(td.length+fr[n].length)*8≤140737488355328:=by omega
          have hc1:td.length+fr[n].length≤140737488355328:=by omega
          repeat first|refine QG ?_|refine QY ?_ (r:=by conv=>lhs;simp[-List.map_set,QV,hn,hni,hx,hnf,ZT,nc_vnat,hc8,hc1,flatC_vnat])
          refine jY [0,1,3] (by conv=>lhs; simp [Fr.only]) hwf (by decide) (by simp [-List.map_set,jC,jD]) (by conv=>lhs; simp [-List.map_set,jC,jD]) (by conv=>lhs; simp [-List.map_set,jC,jD]) (by conv=>lhs; simp [-List.map_set,jC,jD]) ⟨?_,_,_,hS',rfl,Nat.le_trans (Nat.le_of_lt hmm) hcm,by simp,by simp⟩;exact hmm
  ·have hhe:h=g.length:=by omega
   subst hhe
   repeat first|refine QG ?_|refine QY ?_ (r:=by conv=>lhs;simp[-List.map_set,QV,hht])
   exact ji hwf ((Ghost.tuple [] [vint 0] (frzSt (k:=0) jan JO _ (by simp) rfl)).toB _) rfl
end Go.Vw

namespace Go.Vw
open Go.Proofs Go.RowKit
set_option maxRecDepth 10000
set_option maxHeartbeats 16000000
end Go.Vw

namespace Go.Vw
open Go.Proofs Go.RowKit
set_option maxRecDepth 10000
set_option maxHeartbeats 8000000
namespace G
theorem Kb (near:List Int) (fr:List (List Nat)) (N:Nat) : ∀ k, ∀ x∈loopsTo near fr N k,x.2.length≤N
 | 0,x,h=>by simp [loopsTo] at h
 | k+1,x,h=>by
  simp only [loopsTo] at h;split at h
  ·exact Kb near fr N k x h
  ·rcases List.mem_append.1 h with h | h
   ·exact Kb near fr N k x h
   ·simp at h;rw [h];exact picked_len _ N
noncomputable def loopsI (g:List (List Int)):List (Nat × List Nat):=if right g then loopsTo (rNear (nats g)) (froms (nats g)) (nats g).length (nats g).length else []
theorem loopsI_len (g:List (List Int)):(loopsI g).length≤256:=by
 simp only [loopsI];split
 ·rename_i h;have:=(right_ok h).max;have:=loopsTo_len (rNear (nats g)) (froms (nats g)) (nats g).length (nats g).length;omega
 ·simp
theorem loopsI_nodes (g:List (List Int)) : ∀ x∈loopsI g,x.2.length≤256:=by
 simp only [loopsI];split
 ·rename_i h;have h1:=(right_ok h).max;intro x hx;have:=Kb _ _ _ _ x hx;omega
 ·simp
theorem froms_few {g:List (List Nat)} (hg:Ok g) : ∀ r∈froms g,r.length≤1048576:=by
 intro r hr;have k1:=We _ _ r hr;have k2:=edges_len hg.row 0;have k3:=hg.max;rw [total_rep] at k1;omega
theorem froms_lt {g:List (List Nat)} (hg:Ok g) : ∀ r∈froms g, ∀ x∈r,x<g.length:=by
 intro r hr x hx;obtain ⟨i,hi,rfl⟩:=List.getElem_of_mem hr;have hig:i<g.length:=by rw [froms_length] at hi; exact hi
 have:=(mem_froms hg i x hig).1 (by simpa [hi] using hx);exact this.1
end G
theorem LoopsAll_v (g:List (List Int)) (h:Fits g):VPure Tryz.prog 25 [vl (vl vint) g] (.tuple [vl qn (G.loopsI g),vint (G.err g)]):=by
 cases hr:G.right g with
 | false =>
  simp only [G.loopsI,G.err,hr];exact gLoopsErr_v g h hr
 | true =>
  have c1:=KF g h;have c2:=FromAll_v g h;simp only [G.loopsI,G.nearI,G.fromI,G.err,hr,if_true] at c1 c2 ⊢;rw [G.right_enc hr] at c1 c2 ⊢;have hg:=G.right_ok hr;exact gLoops_v (G.nats g) hg _ _ c1 c2 (G.rNear_ok hg).len (G.froms_length _) (G.froms_few hg) (G.froms_lt hg)
end Go.Vw
