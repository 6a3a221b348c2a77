import Derived.Test.YtkfllaokjaldnaaGreatC11
import Derived.Test.YtkfllaokjaldnaaGreatC30
import Derived.Test.YtkfllaokjaldnaaGreatC27
import Derived.Test.YtkfllaokjaldnaaGreatC29
import Derived.Test.YtkfllaokjaldnaaGreatC20
/-
  Part of the proof (texts GTable, GRNear, CChk, CChk2).
-/
set_option linter.unusedVariables false
set_option linter.unusedSimpArgs false
namespace Go.Vw
open Go.Proofs Go.RowKit
set_option maxRecDepth 10000
set_option maxHeartbeats 4000000
def qn (g:List (List Nat)) (a:Nat):List V:=((List.range a).map (G.tableRow g)).map (vl V.bool)++List.replicate (g.length-a) .nils
theorem tabCells_set {g:List (List Nat)} {a:Nat} (h:a<g.length) (x:V):(qn g a).set a x=((List.range a).map (G.tableRow g)).map (vl V.bool)++x::List.replicate (g.length-(a+1)) .nils:=by
 have e:g.length-a=(g.length-(a+1))+1:=by omega
 rw [qn,e,List.replicate_succ,List.set_append_right _ _ (by simp)];simp
theorem Wx {g:List (List Nat)} {a:Nat} (h:a<g.length):(qn g a).set a (vl V.bool (G.tableRow g a))=qn g (a+1):=by
 rw [tabCells_set h,qn,List.range_succ];simp
theorem JD (f:Nat→Nat) (g:List (List Nat)) (a:Nat):V.renL f (qn g a)=qn g a:=by
 simp only [qn,ZX,renL_vl];rw [qN,List.map_replicate,ren_nils]
theorem JF (p:Nat→Bool) (g:List (List Nat)) (a:Nat):V.idsL p (qn g a)=true:=by
 simp only [qn,jax,idsL_vl,Bool.true_and];rw [zf]; simp [ids_nils]
theorem tabCells_len {g:List (List Nat)} {a:Nat} (h:a≤g.length):(qn g a).length=g.length:=by simp [qn]; omega
def fill (f:Nat→Bool) (n b:Nat):List Bool:=(List.range b).map f++List.replicate (n-b) false
theorem fill_set {f:Nat→Bool} {n b:Nat} (h:b<n):(fill f n b).set b (f b)=fill f n (b+1):=by
 have e:n-b=(n-(b+1))+1:=by omega
 rw [fill,e,List.replicate_succ,List.set_append_right _ _ (by simp),fill,List.range_succ];simp
theorem fill_len {f:Nat→Bool} {n b:Nat} (h:b≤n):(fill f n b).length=n:=by simp [fill]; omega
theorem Table_v (g:List (List Nat)) (hg:G.Ok g):VPure Tryz.prog 59 [vl (vl vnat) g] (vl (vl V.bool) (G.table g)):=by
 intro S;refine jb (c:=jg Tryz.f59) Tryz.func59 rfl rfl (by simp [Tryz.ntmps59]) ?_;rw [Tryz.ntmps59];intro hwf;have hm256:=hg.max;have hb24:g.length*24≤140737488355328:=by omega
 have hb1:g.length*1≤140737488355328:=by omega
 have hb0:g.length≤140737488355328:=by omega
 generalize hall:G.without g none=all;have hal:all.length=g.length:=by rw [←hall]; exact G.without_length hg none
 repeat first|refine QG ?_|refine QY ?_
 repeat refine QS ?_
 refine QP ?_;refine jn rfl (hall▸jaO g hg none (by simp)) ?_;refine QW ?_
 repeat first|refine QG ?_|refine QY ?_ (r:=by conv=>lhs;simp[-List.map_set,QV,hb24,hb0])
 repeat refine QS ?_
 refine je [0,3,4,5] rfl (fun c σ S' => ∃ (a:Nat),a≤g.length∧c=g.length-a∧σ=[(0,vl (vl vnat) g),(3,vl V.bool all),(4, .slice (lid S.nx 0) 0 g.length),(5,vnat a)]∧S'=St S [] [some (1,qn g a)]) g.length ?_ ?_
 ·exact ⟨0,by omega,rfl,by simp [Fr.only,Fr.look,vnat],by simp [qn]⟩
 ·rintro c σ T ⟨a,ha,rfl,rfl,rfl⟩
  by_cases hlt:a<g.length
  ·have hw1:IntKind.i64.wrap ((a:Int)+1)=(a:Int)+1:=wrap_i64 (by omega) (by omega);have htl:=tabCells_len ha;have haa:a<all.length:=by omega
   have hat:a<(qn g a).length:=by omega
   obtain ⟨b,hb⟩ : ∃ b,all[a]=b:=⟨_,rfl⟩
   have hbd:all.getD a false=b:=by simp [haa,hb]
   cases b with
   | false =>
    have hrow:G.tableRow g a=List.replicate g.length false:=by simp only [G.tableRow,hall,hbd]; simp
    repeat first|refine QG ?_|refine QY ?_ (r:=by conv=>lhs;simp[-List.map_set,QV,hb1,hb0,hlt,hat,haa])
    refine jH rfl rfl (by simp [ev,Fr.look,hb]) ?_
    repeat refine QS ?_
    refine jP 1 rfl rfl ?_
    apply ju
    ·exact Reach.frzCell (k:=0) (j:=1) (i:=a) (n:=g.length) (cells':=(List.replicate g.length false).map V.bool) (by omega) (by simp) (by simp) rfl (by simp [hat]) (by simp) (jG V.bool (fun _=>rfl) _) (by simp)
    have e:=Wx hlt;rw [hrow] at e;simp only [List.set_cons_succ,List.set_cons_zero,List.set_set];rw [show V.list ((List.replicate g.length false).map V.bool)=vl V.bool (List.replicate g.length false) from rfl,e]
    repeat first|refine QG ?_|refine QY ?_ (r:=by conv=>lhs;simp[-List.map_set,QV,hw1])
    refine jS [0] (by conv=>lhs; simp [Fr.only]) hwf (by decide) (by simp [-List.map_set,JD,JF]) (by conv=>lhs; simp [-List.map_set,JD,JF]) (by conv=>lhs; simp [-List.map_set,JD,JF]) (by conv=>lhs; simp [-List.map_set,JD,JF]) ⟨?_,a+1,hlt,rfl,by simp [vnat],rfl⟩;omega
   | true =>
    generalize hl:G.without g (some a)=l;have hll:l.length=g.length:=by rw [←hl]; exact G.without_length hg _
    obtain ⟨f,hf⟩ : ∃ f:Nat→Bool,f=fun b=>all.getD b false && !(l.getD b false):=⟨_,rfl⟩
    have hrow:G.tableRow g a=(List.range g.length).map f:=by rw [hf]; simp only [G.tableRow,hall,hbd,hl]; simp
    repeat first|refine QG ?_|refine QY ?_ (r:=by conv=>lhs;simp[-List.map_set,QV,hb1,hb0,hlt,hat,haa,hb])
    repeat refine QS ?_
    refine QP ?_;refine jn rfl (hl▸jaO g hg (some a) (by simpa using hlt)) ?_;refine QW ?_
    repeat first|refine QG ?_|refine QY ?_
    repeat refine QS ?_
    refine je [0,3,4,5,6,7] rfl (fun c σ S' => ∃ (b:Nat),b≤g.length∧c=g.length-b∧σ=[(0,vl (vl vnat) g),(3,vl V.bool all),(4, .slice (lid S.nx 0) 0 g.length),(5,vnat a),(6,vl V.bool l),(7,vnat b)]∧S'=St S [] [some (1,(qn g a).set a (.slice (lid S.nx 1) 0 g.length)),some (1,(fill f g.length b).map V.bool)]) g.length ?_ ?_
    ·exact ⟨0,by omega,rfl,by simp [Fr.only,Fr.look,vnat],by simp [fill]⟩
    ·rintro c σ T ⟨b,hbl,rfl,rfl,rfl⟩
     by_cases hbt:b<g.length
     ·have hw2:IntKind.i64.wrap ((b:Int)+1)=(b:Int)+1:=wrap_i64 (by omega) (by omega);have hba:b<all.length:=by omega
      have hbll:b<l.length:=by omega
      obtain ⟨x,hx⟩ : ∃ x,all[b]=x:=⟨_,rfl⟩
      have hfl:=fill_len (f:=f) hbl;have hbf:b<(fill f g.length b).length:=by omega
      have hset:=fill_set (f:=f) hbt;have hfb:f b=(x && !l[b]):=by rw [hf]; simp [hba,hbll,hx]
      rw [hfb] at hset
      cases x with
      | true =>
       repeat first|refine QG ?_|refine QY ?_ (r:=by conv=>lhs;simp[-List.map_set,QV,hbt])
       repeat refine QS ?_
       refine jN (St S [] [some (1,(qn g a).set a (.slice (lid S.nx 1) 0 g.length)),none]) (St S [] [some (1,(qn g a).set a (.slice (lid S.nx 1) 0 g.length)),some (1,(fill f g.length b).map V.bool)]) [] rfl (by kernel_rfl) (by conv=>lhs; reduce) (by conv=>lhs; reduce) (by kernel_rfl) (by kernel_rfl) (jv (by simp [subU,shpU,subL,shpL])) (by conv=>lhs; simp [-List.map_set,QV,hlt,hat,hbt,hba,hbll,hx,hbf]) ?_;refine jf rfl (by conv=>lhs;simp[-List.map_set,QV,hbt,hbf]) (jv (by simp [subU,shpU,subL,shpL])) ?_;refine QN ?_
       repeat first|refine QG ?_|refine QY ?_
       show jx _ _ _ _ _ _ _;exact again ⟨Nat.sub_lt_sub_left hbt (Nat.lt_succ_self b),b+1,hbt,rfl,by simp [Fr.only,Fr.look,vnat]; exact hw2,by rw [←hset]; simp⟩
      | false =>
       repeat first|refine QG ?_|refine QY ?_ (r:=by conv=>lhs;simp[-List.map_set,QV,hbt])
       repeat refine QS ?_
       refine jN (St S [] [some (1,(qn g a).set a (.slice (lid S.nx 1) 0 g.length)),none]) (St S [] [some (1,(qn g a).set a (.slice (lid S.nx 1) 0 g.length)),some (1,(fill f g.length b).map V.bool)]) [] rfl (by kernel_rfl) (by conv=>lhs; reduce) (by conv=>lhs; reduce) (by kernel_rfl) (by kernel_rfl) (jv (by simp [subU,shpU,subL,shpL])) (by conv=>lhs; simp [-List.map_set,QV,hlt,hat,hbt,hba,hbll,hx,hbf]) ?_;refine jf rfl (by conv=>lhs;simp[-List.map_set,QV,hbt,hbf]) (jv (by simp [subU,shpU,subL,shpL])) ?_;refine QN ?_
       repeat first|refine QG ?_|refine QY ?_
       show jx _ _ _ _ _ _ _;exact again ⟨Nat.sub_lt_sub_left hbt (Nat.lt_succ_self b),b+1,hbt,rfl,by simp [Fr.only,Fr.look,vnat]; exact hw2,by rw [←hset]; simp⟩
     ·have hbg:b=g.length:=by omega
      subst hbg
      repeat refine QS ?_
      refine QY ?_ (r:=by conv=>lhs;simp[-List.map_set,QV,hbt])
      repeat refine QS ?_
      refine jI rfl rfl rfl ?_
      repeat refine QS ?_
      refine jP 2 rfl rfl ?_
      apply ju
      ·exact Reach.frzCell (k:=0) (j:=1) (i:=a) (n:=g.length) (cells':=(G.tableRow g a).map V.bool) (by omega) (by simp) (by simp) rfl (by simp [hat]) (by rw [hrow]; simp [fill]) (jG V.bool (fun _=>rfl) _) (by simp [G.tableRow_length])
      have e:=Wx hlt;simp only [List.set_cons_succ,List.set_cons_zero,List.set_set];rw [show V.list ((G.tableRow g a).map V.bool)=vl V.bool (G.tableRow g a) from rfl,e]
      repeat first|refine QG ?_|refine QY ?_ (r:=by conv=>lhs;simp[-List.map_set,QV,hw1])
      refine jS [0] (by conv=>lhs; simp [Fr.only]) hwf (by decide) (by simp [-List.map_set,JD,JF]) (by conv=>lhs; simp [-List.map_set,JD,JF]) (by conv=>lhs; simp [-List.map_set,JD,JF]) (by conv=>lhs; simp [-List.map_set,JD,JF]) ⟨?_,a+1,hlt,rfl,by simp [vnat],rfl⟩;omega
  ·repeat first|refine QG ?_|refine QY ?_ (r:=by conv=>lhs;simp[-List.map_set,QV,hlt])
   have hag:a=g.length:=by omega
   subst hag;have e:qn g g.length=(G.table g).map (vl V.bool):=by simp [qn,G.table]
   rw [e];exact ji hwf ((frz1 (by simp) (by rfl) (jG (vl V.bool) (fun _=>rfl) _) (by simp [G.table])).toB _) rfl
end Go.Vw

namespace Go.Vw
open Go.Proofs Go.RowKit
set_option maxRecDepth 10000
set_option maxHeartbeats 4000000
theorem RNearest_v (g:List (List Nat)) (hg:G.Ok g) (hr:VPure Tryz.prog 45 [vl (vl vnat) g] (.bool true)):VPure Tryz.prog 47 [vl (vl vnat) g] (.tuple [vl vint (G.rNear g),vint 0]):=by
 intro S;refine jb (c:=jg Tryz.f47) Tryz.func47 rfl rfl (by simp [Tryz.ntmps47]) ?_;rw [Tryz.ntmps47];intro hwf;have hm256:=hg.max
 repeat first|refine QG ?_|refine QY ?_
 repeat refine QS ?_
 refine QP ?_;refine jn rfl (hr) ?_;refine QW ?_
 repeat first|refine QG ?_|refine QY ?_
 repeat refine QS ?_
 refine QP ?_;refine jn rfl (Table_v g hg) ?_;refine QW ?_;generalize ht:G.table g=t;have htl:t.length=g.length:=by rw [←ht]; simp [G.table]
 have hrl : ∀ a,a<g.length → ∃ r,t[a]? = some r∧r.length=g.length:=by
  intro a ha;refine ⟨G.tableRow g a,by rw [←ht]; simp [G.table,ha],G.tableRow_length g a⟩
 obtain ⟨f,hf⟩ : ∃ f:Nat→Int,f=fun b=>(G.bestTo t g.length b g.length).1:=⟨_,rfl⟩
 have hfin:G.rNear g=upTo f g.length:=by rw [hf]; simp only [G.rNear,ht,upTo]
 rw [hfin]
 repeat refine QS ?_
 refine QY ?_;refine qW 5 1 rfl (by conv=>lhs; simp [Fr.set]) ?_
 repeat first|refine QG ?_|refine QY ?_
 repeat refine QS ?_
 refine je [0,4,5,6] rfl (fun c σ S' => ∃ (b:Nat),b≤g.length∧c=g.length-b∧σ=[(0,vl (vl vnat) g),(4,vl (vl V.bool) t),(5, .slice (lid S.nx 0) 0 b),(6,vnat b)]∧S'=St S [] [some (1,(upTo f b).map vint)]) g.length ?_ ?_
 ·exact ⟨0,by omega,rfl,by simp [Fr.only,Fr.look,vnat],by simp [upTo_zero]⟩
 ·rintro c σ T ⟨b,hb,rfl,rfl,rfl⟩
  by_cases hbt:b<g.length
  ·have hwb:IntKind.i64.wrap ((b:Int)+1)=(b:Int)+1:=wrap_i64 (by omega) (by omega)
   repeat first|refine QG ?_|refine QY ?_ (r:=by conv=>lhs;simp[-List.map_set,QV,hbt])
   repeat refine QS ?_
   refine je [0,4,5,6,7,8,9] rfl (fun c σ S' => ∃ (a:Nat),a≤g.length∧c=g.length-a∧σ=[(0,vl (vl vnat) g),(4,vl (vl V.bool) t),(5, .slice (lid S.nx 0) 0 b),(6,vnat b),(7,vint (G.bestTo t g.length b a).1),(8,vnat (G.bestTo t g.length b a).2),(9,vnat a)]∧S'=St S [] [some (1,(upTo f b).map vint)]) g.length ?_ ?_
   ·exact ⟨0,by omega,rfl,by simp [Fr.only,Fr.look,vnat,vint,G.bestTo],by simp⟩
   ·rintro c σ T ⟨a,ha,rfl,rfl,rfl⟩
    by_cases hat:a<g.length
    ·have hwa:IntKind.i64.wrap ((a:Int)+1)=(a:Int)+1:=wrap_i64 (by omega) (by omega);have hst : ∀ x,x=G.bestTo t g.length b (a+1)→x=if a≠b∧G.tabAt t a b=true∧(G.bestTo t g.length b a).2<G.cntTo t a g.length then ((a:Int),G.cntTo t a g.length) else G.bestTo t g.length b a:=fun x h=>h
     have hst:=hst _ rfl;obtain ⟨r,hr,hrl'⟩:=hrl a hat;have hta:a<t.length:=by omega
     have hra:t[a]=r:=by simpa [hta] using hr
     by_cases hab:a=b
     ·subst hab;rw [if_neg (by simp)] at hst
      repeat first|refine QG ?_|refine QY ?_ (r:=by conv=>lhs;simp[-List.map_set,QV,hat])
      show jx _ _ _ _ _ _ _;exact again ⟨Nat.sub_lt_sub_left hat (Nat.lt_succ_self a),a+1,hat,rfl,by rw [hst]; simp [Fr.only,Fr.look,vnat,vint]; exact hwa,rfl⟩
     ·have hab' : ¬ (a:Int)=(b:Int):=by omega
      by_cases htab:G.tabAt t a b=true
      ·have htb:r[b]'(by omega)=true:=by
        have:b<r.length:=by omega
        simpa [G.tabAt,hta,hra,this] using htab
       have hbr:b<r.length:=by omega
       have hab' : ¬ (a:Int)=(b:Int):=by omega
       repeat first|refine QG ?_|refine QY ?_ (r:=by conv=>lhs;simp[-List.map_set,QV,hat,hab,hab',hta,hra,hbr,htb])
       repeat refine QS ?_
       refine je [0,4,5,6,7,8,9,10,11] rfl (fun c σ S' => ∃ (k:Nat),k≤g.length∧c=g.length-k∧σ=[(0,vl (vl vnat) g),(4,vl (vl V.bool) t),(5, .slice (lid S.nx 0) 0 b),(6,vnat b),(7,vint (G.bestTo t g.length b a).1),(8,vnat (G.bestTo t g.length b a).2),(9,vnat a),(10,vnat (G.cntTo t a k)),(11,vnat k)]∧S'=St S [] [some (1,(upTo f b).map vint)]) g.length ?_ ?_
       ·exact ⟨0,by omega,rfl,by simp [Fr.only,Fr.look,vnat,vint,G.cntTo],rfl⟩
       ·rintro c σ T ⟨k,hk,rfl,rfl,rfl⟩;have hcle:=G.cntTo_le t a k
        by_cases hkt:k<g.length
        ·have hwk:IntKind.i64.wrap ((k:Int)+1)=(k:Int)+1:=wrap_i64 (by omega) (by omega);have hwc:IntKind.i64.wrap ((G.cntTo t a k:Int)+1)=(G.cntTo t a k:Int)+1:=wrap_i64 (by omega) (by omega);obtain ⟨q,hq,hql⟩:=hrl k hkt;have htk:k<t.length:=by omega
         have hqk:t[k]=q:=by simpa [htk] using hq
         have haq:a<q.length:=by omega
         obtain ⟨x,hx⟩ : ∃ x,q[a]=x:=⟨_,rfl⟩
         have hxt:G.tabAt t k a=x:=by simp [G.tabAt,htk,hqk,haq,hx]
         have hcs:G.cntTo t a (k+1)=if x=true then G.cntTo t a k+1 else G.cntTo t a k:=by simp only [G.cntTo,hxt]
         cases x with
         | true =>
          repeat first|refine QG ?_|refine QY ?_ (r:=by conv=>lhs;simp[-List.map_set,QV,hkt,htk,hqk,haq,hx])
          show jx _ _ _ _ _ _ _;exact again ⟨Nat.sub_lt_sub_left hkt (Nat.lt_succ_self k),k+1,hkt,rfl,by rw [hcs]; simp [Fr.only,Fr.look,vnat,vint,hwk,hwc],rfl⟩
         | false =>
          repeat first|refine QG ?_|refine QY ?_ (r:=by conv=>lhs;simp[-List.map_set,QV,hkt,htk,hqk,haq,hx])
          show jx _ _ _ _ _ _ _;exact again ⟨Nat.sub_lt_sub_left hkt (Nat.lt_succ_self k),k+1,hkt,rfl,by rw [hcs]; simp [Fr.only,Fr.look,vnat,vint,hwk,hwc],rfl⟩
        ·have hkg:k=g.length:=by omega
         subst hkg
         by_cases hgt:(G.bestTo t g.length b a).2<G.cntTo t a g.length
         ·rw [if_pos ⟨hab,htab,hgt⟩] at hst
          repeat first|refine QG ?_|refine QY ?_ (r:=by conv=>lhs;simp[-List.map_set,QV,hkt,hgt])
          show jx _ _ _ _ _ _ _;exact again ⟨Nat.sub_lt_sub_left hat (Nat.lt_succ_self a),a+1,hat,rfl,by rw [hst]; simp [Fr.only,Fr.look,vnat,vint,hwa],rfl⟩
         ·rw [if_neg (fun h=>hgt h.2.2)] at hst
          repeat first|refine QG ?_|refine QY ?_ (r:=by conv=>lhs;simp[-List.map_set,QV,hkt,hgt])
          show jx _ _ _ _ _ _ _;exact again ⟨Nat.sub_lt_sub_left hat (Nat.lt_succ_self a),a+1,hat,rfl,by rw [hst]; simp [Fr.only,Fr.look,vnat,vint,hwa],rfl⟩
      ·have htb:r[b]'(by omega)=false:=by
        have:b<r.length:=by omega
        simpa [G.tabAt,hta,hra,this] using htab
       have hbr:b<r.length:=by omega
       rw [if_neg (fun h=>htab h.2.1)] at hst
       repeat first|refine QG ?_|refine QY ?_ (r:=by conv=>lhs;simp[-List.map_set,QV,hat,hab,hab',hta,hra,hbr,htb])
       show jx _ _ _ _ _ _ _;exact again ⟨Nat.sub_lt_sub_left hat (Nat.lt_succ_self a),a+1,hat,rfl,by rw [hst]; simp [Fr.only,Fr.look,vnat,vint,hwa],rfl⟩
    ·have hag:a=g.length:=by omega
     subst hag;have hfb:f b=(G.bestTo t g.length b g.length).1:=by rw [hf]
     have hc8:(b+1)*8≤140737488355328:=by omega
     have hc1:b+1≤140737488355328:=by omega
     repeat first|refine QG ?_|refine QY ?_ (r:=by conv=>lhs;simp[-List.map_set,QV,hat,hc8,hc1])
     refine QA [2] (h:=⟨?_,b+1,hbt,rfl,by simp [vnat,hwb],by rw [upTo_succ,hfb]; simp [vint]⟩);omega
  ·repeat first|refine QG ?_|refine QY ?_ (r:=by conv=>lhs;simp[-List.map_set,QV,hbt])
   have hag:b=g.length:=by omega
   subst hag;exact ji hwf ((Ghost.tuple [] [vint 0] (frz1 (by simp) (by rfl) (jG vint (fun _=>rfl) _) (by simp [upTo_len]))).toB _) rfl
end Go.Vw

namespace Ss
def rcheckCode (e:Env) (f:Fn) (ds:List Def) (near:List Int) (i:Int):Nat→List Ins→Bool
 | _,[]=>true
 | k,x::r=>rinsOk e f ds near i k x&&rcheckCode e f ds near i (k+1) r
def rcheckBlock (e:Env) (f:Fn) (ds:List Def) (near:List Int) (i:Int) (b:Block):Bool :=
 rcheckCode e f ds near i 0 b.code&&(rtermOk f ds near i b.code.length b.term&&b.term.to.all (redgeOk f ds near i b.code.length))
def rcheckBlocks (e:Env) (f:Fn) (ds:List Def) (near:List Int):Nat→List Block→Bool
 | _,[]=>true
 | i,b::bs=>rcheckBlock e f ds near i b&&rcheckBlocks e f ds near (i+1) bs
def firstTick:List Ins→Bool
 | []=>false
 | x::_=>decide (x.op=258)
noncomputable def rshape (f:Fn):Bool:=decide (typesOf f.types (f.blocks.getD 0 default).params=f.sig.inn)&&(firstTick (f.blocks.getD 0 default).code && !circ (msk f.blocks (Go.Vw.G.nats (succs f.blocks))))
noncomputable def rcheck (e:Env) (f:Fn):Bool:=checkHead e f&&decide (1≤f.blocks.length)&&match defsOf f with
 | none=>false
 | some ds=>Go.Vw.G.right (succs f.blocks)&&((Go.Vw.G.without (Go.Vw.G.nats (succs f.blocks)) none).all id&&(rshape f&&rcheckBlocks e f ds (Go.Vw.G.nearI (succs f.blocks)) 0 f.blocks))
end Ss
namespace Go.Vw
open Go.Proofs Go.RowKit
set_option maxRecDepth 10000
set_option maxHeartbeats 8000000
theorem RNearI_v (g:List (List Int)) (hl:g.length<2^63) (h : ∀ l∈g,l.length<2^63) (hr:G.right g=true):VPure Tryz.prog 47 [vl (vl vint) g] (.tuple [vl vint (G.nearI g),vint 0]):=by
 have h1:VPure Tryz.prog 45 [vl (vl vnat) (G.nats g)] (.bool true):=by
  have:=Zz g hl h;rw [hr,G.right_enc hr] at this;exact this
 have:=RNearest_v _ (G.right_ok hr) h1;rw [←G.right_enc hr] at this;simp only [G.nearI,hr,if_true];exact this
theorem WithoutI_v (g:List (List Int)) (hr:G.right g=true):VPure Tryz.prog 46 [vl (vl vint) g,vint (-1)] (vl V.bool (G.without (G.nats g) none)):=by
 have:=jaO _ (G.right_ok hr) none (fun _ h=>by cases h);rw [←G.right_enc hr] at this;exact this
end Go.Vw

namespace Ss
theorem put_nn {block pos:Int} (h0:0≤block) : ∀ {l:List Int} {ds d:List Def},put block pos ds l=some d→(∀ x∈ds,x.made=true→0≤x.block) → ∀ x∈d,x.made=true→0≤x.block
 | [],ds,d,h,hn=>by simp only [put,Option.some.injEq] at h; rw [←h]; exact hn
 | v::l,ds,d,h,hn=>by
  simp only [put] at h;split at h
  ·cases h
  ·exact put_nn h0 h fun x hx hm=>(List.mem_or_eq_of_mem_set hx).elim (fun h=>hn x h hm) (fun h=>by rw [h]; exact h0)
theorem jbp {i:Int} (h0:0≤i) : ∀ {l:List Ins} {k:Nat} {ds d:List Def},putCode i k ds l=some d→(∀ x∈ds,x.made=true→0≤x.block) → ∀ x∈d,x.made=true→0≤x.block
 | [],k,ds,d,h,hn=>by simp only [putCode,Option.some.injEq] at h; rw [←h]; exact hn
 | x::r,k,ds,d,h,hn=>by
  simp only [putCode,Option.bind_eq_some_iff] at h;obtain ⟨d1,h1,h2⟩:=h;exact jbp h0 h2 (put_nn h0 h1 hn)
theorem YT : ∀ {bs:List Block} {i:Nat} {ds d:List Def},putBlocks i ds bs=some d→(∀ x∈ds,x.made=true→0≤x.block) → ∀ x∈d,x.made=true→0≤x.block
 | [],i,ds,d,h,hn=>by simp only [putBlocks,Option.some.injEq] at h; rw [←h]; exact hn
 | b::bs,i,ds,d,h,hn=>by
  simp only [putBlocks,Option.bind_eq_some_iff] at h;obtain ⟨d2,⟨d1,h1,h2⟩,h3⟩:=h;exact YT h3 (jbp (by omega) h2 (put_nn (by omega) h1 hn))
theorem defs_nn {f:Fn} {ds:List Def} (h:defsOf f=some ds) : ∀ x∈ds,x.made=true→0≤x.block :=
 YT h fun x hx hm=>by
  obtain ⟨_,rfl⟩:=List.mem_replicate.1 hx
  cases hm
end Ss
namespace Go.Vw
end Go.Vw
