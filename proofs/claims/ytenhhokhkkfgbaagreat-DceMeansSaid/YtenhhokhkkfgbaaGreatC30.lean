import Derived.Test.YtenhhokhkkfgbaaGreatC29
/- Part of the proof. -/
set_option linter.unusedVariables false
set_option linter.unusedSimpArgs false
set_option maxRecDepth 10000
set_option maxHeartbeats 8000000
namespace Go.Vw
open Go.Proofs Go.RowKit
attribute [-simp] List.map_set
def jY (g:List (List Nat)) (a:Nat):List V:=((List.range a).map (G.tableRow g)).map (vl V.bool)++List.replicate (g.length-a) .nils
theorem tabCells_set {g:List (List Nat)} {a:Nat} (h:a<g.length) (x:V):(jY g a).set a x=((List.range a).map (G.tableRow g)).map (vl V.bool)++x::List.replicate (g.length-(a+1)) .nils:=by
 have e:g.length-a=(g.length-(a+1))+1:=by omega
 rw [jY,e,List.replicate_succ,List.set_append_right _ _ (by simp)];simp
theorem WA {g:List (List Nat)} {a:Nat} (h:a<g.length):(jY g a).set a (vl V.bool (G.tableRow g a))=jY g (a+1):=by
 rw [tabCells_set h,jY,List.range_succ];simp
theorem Zz (f:Nat->Nat) (g:List (List Nat)) (a:Nat):V.renL f (jY g a)=jY g a:=by
 simp only [jY,jaj,renL_vl];rw [qi,List.map_replicate,ren_nils]
theorem ZE (p:Nat->Bool) (g:List (List Nat)) (a:Nat):V.idsL p (jY g a)=true:=by
 simp only [jY,jaI,idsL_vl,aE];rw [qr]; simp [ids_nils]
theorem tabCells_len {g:List (List Nat)} {a:Nat} (h:a<=g.length):(jY g a).length=g.length:=by simp [jY]; omega
def fill (f:Nat->Bool) (n b:Nat):List Bool:=(List.range b).map f++List.replicate (n-b) false
theorem fill_set {f:Nat->Bool} {n b:Nat} (h:b<n):(fill f n b).set b (f b)=fill f n (b+1):=by
 have e:n-b=(n-(b+1))+1:=by omega
 rw [fill,e,List.replicate_succ,List.set_append_right _ _ (by simp),fill,List.range_succ];simp
theorem fill_len {f:Nat->Bool} {n b:Nat} (h:b<=n):(fill f n b).length=n:=by simp [fill]; omega
theorem Table_v (g:List (List Nat)) (hg:G.Ok g):bS 79 [vl (vl vnat) g] (vl (vl V.bool) (G.table g)):=by
 intro S;refine QB (c:=jc Tryz.f79) Tryz.func79 Tryz.ntmps79 fun hwf=>?_
 have hm256:=hg.max;have hb24:g.length*24<=140737488355328:=by omega
 have hb1:g.length*1<=140737488355328:=by omega
 have hb0:g.length<=140737488355328:=by omega
 generalize hall:G.without g none=all;have hal:all.length=g.length:=by rw [<-hall]; exact G.without_length hg none
 refine bw ?_
 refine QP ?_;refine QL (hall▸jbc g hg none (by simp)) ?_;refine QW ?_
 refine bt hb24 hb0 ?_
 refine QT ?_;refine jd [0,3,4,5] rfl (fun c σ S' => ∃ (a:Nat),a<=g.length/\c=g.length-a/\σ=[(0,vl (vl vnat) g),(3,vl V.bool all),(4, .slice (lid S.nx 0) 0 g.length),(5,vnat a)]/\S'=St S [] [some (1,jY g a)]) g.length ?_ ?_
 ·exact ⟨0,by omega,rfl,by simp [Fr.only,Fr.look,vnat],by simp [jY]⟩
 ·rintro c σ T ⟨a,ha,rfl,rfl,rfl⟩
  by_cases hlt:a<g.length
  ·have hw1:IntKind.i64.wrap ((a:Int)+1)=(a:Int)+1:=wrap_i64 (by omega) (by omega);have htl:=tabCells_len ha;have haa:a<all.length:=by omega
   have hat:a<(jY g a).length:=by omega
   obtain ⟨b,hb⟩ : ∃ b,all[a]=b:=⟨_,rfl⟩
   have hbd:all.getD a false=b:=by simp [haa,hb]
   cases b with
   | false =>
    have hrow:G.tableRow g a=List.replicate g.length false:=by simp only [G.tableRow,hall,hbd]; simp
    refine bJ hb1 hb0 hlt hat haa ?_
    refine jJ rfl rfl (by simp [ev,Fr.look,hb]) ?_;refine QT ?_;refine qb 1 rfl rfl ?_
    apply jE
    ·exact Reach.frzCell (k:=0) (j:=1) (i:=a) (n:=g.length) (cells':=(List.replicate g.length false).map V.bool) (by omega) (by simp) (by simp) rfl (by simp [hat]) (by simp) (jq V.bool (fun _=>rfl) _) (by simp)
    have e:=WA hlt;rw [hrow] at e;simp only [aq,au,List.set_set];rw [show V.list ((List.replicate g.length false).map V.bool)=vl V.bool (List.replicate g.length false) from rfl,e]
    refine bx hw1 ?_
    refine QA [0] (h2:=by simp [Zz,ZE]) (hl:=by conv=>lhs; simp [Zz,ZE]) (h:=⟨?_,a+1,hlt,rfl,by simp [vnat],rfl⟩);omega
   | true =>
    generalize hl:G.without g (some a)=l;have hll:l.length=g.length:=by rw [<-hl]; exact G.without_length hg _
    obtain ⟨f,hf⟩ : ∃ f:Nat->Bool,f=fun b=>all.getD b false && !(l.getD b false):=⟨_,rfl⟩
    have hrow:G.tableRow g a=(List.range g.length).map f:=by rw [hf]; simp only [G.tableRow,hall,hbd,hl]; simp
    refine bz hb1 hb0 hlt hat haa hb ?_
    refine QP ?_;refine QL (hl▸jbc g hg (some a) (by simpa using hlt)) ?_;refine bQ ?_
    refine QT ?_;refine jd [0,3,4,5,6,7] rfl (fun c σ S' => ∃ (b:Nat),b<=g.length/\c=g.length-b/\σ=[(0,vl (vl vnat) g),(3,vl V.bool all),(4, .slice (lid S.nx 0) 0 g.length),(5,vnat a),(6,vl V.bool l),(7,vnat b)]/\S'=St S [] [some (1,(jY g a).set a (.slice (lid S.nx 1) 0 g.length)),some (1,(fill f g.length b).map V.bool)]) g.length ?_ ?_
    ·exact ⟨0,by omega,rfl,by simp [Fr.only,Fr.look,vnat],by simp [fill]⟩
    ·rintro c σ T ⟨b,hbl,rfl,rfl,rfl⟩
     by_cases hbt:b<g.length
     ·have hw2:IntKind.i64.wrap ((b:Int)+1)=(b:Int)+1:=wrap_i64 (by omega) (by omega);have hba:b<all.length:=by omega
      have hbll:b<l.length:=by omega
      obtain ⟨x,hx⟩ : ∃ x,all[b]=x:=⟨_,rfl⟩
      have hfl:=fill_len (f:=f) hbl;have hbf:b<(fill f g.length b).length:=by omega
      have hset:=fill_set (f:=f) hbt;have hfb:f b=(x && !l[b]):=by rw [hf]; simp [hba,hbll,hx]
      rw [hfb] at hset
      cases x with
      | true =>
       refine bx hbt ?_
       refine QT ?_;refine QJ (St S [] [some (1,(jY g a).set a (.slice (lid S.nx 1) 0 g.length)),none]) (St S [] [some (1,(jY g a).set a (.slice (lid S.nx 1) 0 g.length)),some (1,(fill f g.length b).map V.bool)]) [] ?_ (r:=by conv=>lhs; simp [QV,hlt,hat,hbt,hba,hbll,hx,hbf]);refine QI ?_ (r:=by conv=>lhs;simp[QV,hbt,hbf]);refine bR ?_
       show js _ _ _ _ _ _ _;exact again ⟨ao hbt (aY b),b+1,hbt,rfl,by simp [Fr.only,Fr.look,vnat]; exact hw2,by rw [<-hset]; simp⟩
      | false =>
       refine bx hbt ?_
       refine QT ?_;refine QJ (St S [] [some (1,(jY g a).set a (.slice (lid S.nx 1) 0 g.length)),none]) (St S [] [some (1,(jY g a).set a (.slice (lid S.nx 1) 0 g.length)),some (1,(fill f g.length b).map V.bool)]) [] ?_ (r:=by conv=>lhs; simp [QV,hlt,hat,hbt,hba,hbll,hx,hbf]);refine QI ?_ (r:=by conv=>lhs;simp[QV,hbt,hbf]);refine bR ?_
       show js _ _ _ _ _ _ _;exact again ⟨ao hbt (aY b),b+1,hbt,rfl,by simp [Fr.only,Fr.look,vnat]; exact hw2,by rw [<-hset]; simp⟩
     ·have hbg:b=g.length:=by omega
      subst hbg;refine bM hbt ?_;refine QT ?_;refine jG rfl rfl rfl ?_;refine QT ?_;refine qb 2 rfl rfl ?_
      apply jE
      ·exact Reach.frzCell (k:=0) (j:=1) (i:=a) (n:=g.length) (cells':=(G.tableRow g a).map V.bool) (by omega) (by simp) (by simp) rfl (by simp [hat]) (by rw [hrow]; simp [fill]) (jq V.bool (fun _=>rfl) _) (by simp [G.tableRow_length])
      have e:=WA hlt;simp only [aq,au,List.set_set];rw [show V.list ((G.tableRow g a).map V.bool)=vl V.bool (G.tableRow g a) from rfl,e]
      refine bx hw1 ?_
      refine QA [0] (h2:=by simp [Zz,ZE]) (hl:=by conv=>lhs; simp [Zz,ZE]) (h:=⟨?_,a+1,hlt,rfl,by simp [vnat],rfl⟩);omega
  ·refine bx hlt ?_
   have hag:a=g.length:=by omega
   subst hag;have e:jY g g.length=(G.table g).map (vl V.bool):=by simp [jY,G.table]
   rw [e];exact jf hwf ((frz1 (by simp) (by rfl) (jq (vl V.bool) (fun _=>rfl) _) (by simp [G.table])).toB _) rfl
theorem RNearest_v (g:List (List Nat)) (hg:G.Ok g) (hr:bS 43 [vl (vl vnat) g] (.bool true)):bS 45 [vl (vl vnat) g] (.tuple [vl vint (G.rNear g),vint 0]):=by
 intro S;refine QB (c:=jc Tryz.f45) Tryz.func45 Tryz.ntmps45 fun hwf=>?_
 have hm256:=hg.max
 refine bw ?_
 refine QP ?_;refine QL hr ?_;refine bQ ?_
 refine QP ?_;refine QL (Table_v g hg) ?_;refine QW ?_;generalize ht:G.table g=t;have htl:t.length=g.length:=by rw [<-ht]; simp [G.table]
 have hrl : ∀ a,a<g.length -> ∃ r,t[a]? = some r/\r.length=g.length:=by
  intro a ha;refine ⟨G.tableRow g a,by rw [<-ht]; simp [G.table,ha],G.tableRow_length g a⟩
 obtain ⟨f,hf⟩ : ∃ f:Nat->Int,f=fun b=>(G.bestTo t g.length b g.length).1:=⟨_,rfl⟩
 have hfin:G.rNear g=upTo f g.length:=by rw [hf]; simp only [G.rNear,ht,upTo]
 rw [hfin];refine QY ?_;refine zx 5 1 rfl (by conv=>lhs; simp [Fr.set]) ?_
 refine bw ?_
 refine QT ?_;refine jd [0,4,5,6] rfl (fun c σ S' => ∃ (b:Nat),b<=g.length/\c=g.length-b/\σ=[(0,vl (vl vnat) g),(4,vl (vl V.bool) t),(5, .slice (lid S.nx 0) 0 b),(6,vnat b)]/\S'=St S [] [some (1,(upTo f b).map vint)]) g.length ?_ ?_
 ·exact ⟨0,by omega,rfl,by simp [Fr.only,Fr.look,vnat],by simp [upTo_zero]⟩
 ·rintro c σ T ⟨b,hb,rfl,rfl,rfl⟩
  by_cases hbt:b<g.length
  ·have hwb:IntKind.i64.wrap ((b:Int)+1)=(b:Int)+1:=wrap_i64 (by omega) (by omega)
   refine bx hbt ?_
   refine QT ?_;refine jd [0,4,5,6,7,8,9] rfl (fun c σ S' => ∃ (a:Nat),a<=g.length/\c=g.length-a/\σ=[(0,vl (vl vnat) g),(4,vl (vl V.bool) t),(5, .slice (lid S.nx 0) 0 b),(6,vnat b),(7,vint (G.bestTo t g.length b a).1),(8,vnat (G.bestTo t g.length b a).2),(9,vnat a)]/\S'=St S [] [some (1,(upTo f b).map vint)]) g.length ?_ ?_
   ·exact ⟨0,by omega,rfl,by simp [Fr.only,Fr.look,vnat,vint,G.bestTo],by simp⟩
   ·rintro c σ T ⟨a,ha,rfl,rfl,rfl⟩
    by_cases hat:a<g.length
    ·have hwa:IntKind.i64.wrap ((a:Int)+1)=(a:Int)+1:=wrap_i64 (by omega) (by omega);have hst : ∀ x,x=G.bestTo t g.length b (a+1)->x=if a≠b/\G.tabAt t a b=true/\(G.bestTo t g.length b a).2<G.cntTo t a g.length then ((a:Int),G.cntTo t a g.length) else G.bestTo t g.length b a:=fun x h=>h
     have hst:=hst _ rfl;obtain ⟨r,hr,hrl'⟩:=hrl a hat;have hta:a<t.length:=by omega
     have hra:t[a]=r:=by simpa [hta] using hr
     by_cases hab:a=b
     ·subst hab;rw [if_neg (by simp)] at hst
      refine bx hat ?_
      show js _ _ _ _ _ _ _;exact again ⟨ao hat (aY a),a+1,hat,rfl,by rw [hst]; simp [Fr.only,Fr.look,vnat,vint]; exact hwa,rfl⟩
     ·have hab' : ¬ (a:Int)=(b:Int):=by omega
      by_cases htab:G.tabAt t a b=true
      ·have htb:r[b]'(by omega)=true:=by
        have:b<r.length:=by omega
        simpa [G.tabAt,hta,hra,this] using htab
       have hbr:b<r.length:=by omega
       have hab' : ¬ (a:Int)=(b:Int):=by omega
       repeat first|refine QG ?_|refine QY ?_ (r:=by conv=>lhs;simp[QV,hat,hab,hab',hta,hra,hbr,htb])
       refine QT ?_;refine jd [0,4,5,6,7,8,9,10,11] rfl (fun c σ S' => ∃ (k:Nat),k<=g.length/\c=g.length-k/\σ=[(0,vl (vl vnat) g),(4,vl (vl V.bool) t),(5, .slice (lid S.nx 0) 0 b),(6,vnat b),(7,vint (G.bestTo t g.length b a).1),(8,vnat (G.bestTo t g.length b a).2),(9,vnat a),(10,vnat (G.cntTo t a k)),(11,vnat k)]/\S'=St S [] [some (1,(upTo f b).map vint)]) g.length ?_ ?_
       ·exact ⟨0,by omega,rfl,by simp [Fr.only,Fr.look,vnat,vint,G.cntTo],rfl⟩
       ·rintro c σ T ⟨k,hk,rfl,rfl,rfl⟩;have hcle:=G.cntTo_le t a k
        by_cases hkt:k<g.length
        ·have hwk:IntKind.i64.wrap ((k:Int)+1)=(k:Int)+1:=wrap_i64 (by omega) (by omega);have hwc:IntKind.i64.wrap ((G.cntTo t a k:Int)+1)=(G.cntTo t a k:Int)+1:=wrap_i64 (by omega) (by omega);obtain ⟨q,hq,hql⟩:=hrl k hkt;have htk:k<t.length:=by omega
         have hqk:t[k]=q:=by simpa [htk] using hq
         have haq:a<q.length:=by omega
         obtain ⟨x,hx⟩ : ∃ x,q[a]=x:=⟨_,rfl⟩
         have hxt:G.tabAt t k a=x:=by simp [G.tabAt,htk,hqk,haq,hx]
         have hcs:G.cntTo t a (k+1)=if x=true then G.cntTo t a k+1 else G.cntTo t a k:=by simp only [G.cntTo,hxt]
         cases x with
         | true =>
          refine bJ hkt htk hqk haq hx ?_
          show js _ _ _ _ _ _ _;exact again ⟨ao hkt (aY k),k+1,hkt,rfl,by rw [hcs]; simp [Fr.only,Fr.look,vnat,vint,hwk,hwc],rfl⟩
         | false =>
          refine bJ hkt htk hqk haq hx ?_
          show js _ _ _ _ _ _ _;exact again ⟨ao hkt (aY k),k+1,hkt,rfl,by rw [hcs]; simp [Fr.only,Fr.look,vnat,vint,hwk,hwc],rfl⟩
        ·have hkg:k=g.length:=by omega
         subst hkg
         by_cases hgt:(G.bestTo t g.length b a).2<G.cntTo t a g.length
         ·rw [if_pos ⟨hab,htab,hgt⟩] at hst
          refine bt hkt hgt ?_
          show js _ _ _ _ _ _ _;exact again ⟨ao hat (aY a),a+1,hat,rfl,by rw [hst]; simp [Fr.only,Fr.look,vnat,vint,hwa],rfl⟩
         ·rw [if_neg (fun h=>hgt h.2.2)] at hst
          refine bt hkt hgt ?_
          show js _ _ _ _ _ _ _;exact again ⟨ao hat (aY a),a+1,hat,rfl,by rw [hst]; simp [Fr.only,Fr.look,vnat,vint,hwa],rfl⟩
      ·have htb:r[b]'(by omega)=false:=by
        have:b<r.length:=by omega
        simpa [G.tabAt,hta,hra,this] using htab
       have hbr:b<r.length:=by omega
       rw [if_neg (fun h=>htab h.2.1)] at hst
       repeat first|refine QG ?_|refine QY ?_ (r:=by conv=>lhs;simp[QV,hat,hab,hab',hta,hra,hbr,htb])
       show js _ _ _ _ _ _ _;exact again ⟨ao hat (aY a),a+1,hat,rfl,by rw [hst]; simp [Fr.only,Fr.look,vnat,vint,hwa],rfl⟩
    ·have hag:a=g.length:=by omega
     subst hag;have hfb:f b=(G.bestTo t g.length b g.length).1:=by rw [hf]
     have hc8:(b+1)*8<=140737488355328:=by omega
     have hc1:b+1<=140737488355328:=by omega
     refine bv hat hc8 hc1 ?_
     refine QA [2] (h:=⟨?_,b+1,hbt,rfl,by simp [vnat,hwb],by rw [upTo_succ,hfb]; simp [vint]⟩);omega
  ·refine bx hbt ?_
   have hag:b=g.length:=by omega
   subst hag;exact jf hwf ((Ghost.tuple [] [vint 0] (frz1 (by simp) (by rfl) (jq vint (fun _=>rfl) _) (by simp [upTo_len]))).toB _) rfl
end Go.Vw
namespace Ss
open Go.Vw.G
def tabOf (hm:List Int) (v:Int):Int:=hm.getD v.toNat 0
structure LOk (e:Env) (f g:Fn) (hm:List Int):Prop where
 chk:check e g=true
 fits:g.Fits
 fin:licF g=licF f
 sig:g.sig=f.sig
 types:g.types=f.types
 succs:Ss.succs g.blocks=Ss.succs f.blocks
 len:hm.length=f.types.length
 home : ∀ v∈allL g.blocks,tabOf hm v=homeOf g v
theorem LOk.start {e:Env} {f:Fn} (h:check e f=true) (hf:f.Fits):LOk e f f (homesI f):=⟨h,hf,rfl,rfl,rfl,rfl,homesI_len f,fun v hv=>homes_home h v hv⟩
end Ss
namespace Ss
def putLs (i:Int):Nat->List Def->List (List Int)->Option (List Def)
 | _,ds,[]=>some ds
 | j,ds,l::r=>(put i ((j:Int)-1) ds l).bind fun d=>putLs i (j+1) d r
theorem jbF (i:Int) : ∀ (code:List Ins) (k:Nat) (ds:List Def),putLs i (k+1) ds (code.map (·.outs))=putCode i k ds code
 | [],k,ds=>rfl
 | x::r,k,ds=>by
  have e:(((k+1:Nat):Int)-1)=(k:Int):=by omega
  simp only [List.map_cons,putLs,putCode,e]
  congr 1
  funext d
  exact jbF i r (k+1) d
def Block.lists (b:Block):List (List Int):=b.params::b.code.map (·.outs)
theorem putLs_block (i:Nat) (ds:List Def) (b:Block):putLs i 0 ds b.lists=(put i (-1) ds b.params).bind fun d=>putCode i 0 d b.code:=by
 simp only [Block.lists,putLs]
 congr 1
 funext d
 exact jbF i b.code 0 d
theorem putLs_one {i:Int} {j:Nat} {ds:List Def} {ls:List (List Int)} (h:j<ls.length):putLs i j ds (ls.drop j)=(put i ((j:Int)-1) ds ls[j]).bind fun d=>putLs i (j+1) d (ls.drop (j+1)):=by
 rw [am h,putLs]
theorem putLs_end {i:Int} {j:Nat} {ds:List Def} {ls:List (List Int)} (h : ¬ j<ls.length):putLs i j ds (ls.drop j)=some ds:=by
 have:ls.drop j=[]:=by rw [aH]; omega
 rw [this,putLs]
end Ss
namespace Go.Vw
open Go.Proofs Go.RowKit
attribute [-simp] List.map_set
def qe (d:Ss.Def):V := .agg [vint (if d.made then d.block else -1),vint (if d.made then d.pos else 0)]
theorem WV (d:Ss.Def):(qe d).cells=[vint (if d.made then d.block else -1),vint (if d.made then d.pos else 0)]:=rfl
theorem JC (d:Ss.Def):(qe d).closed=true:=rfl
theorem encRDef_eq (d:Ss.Def):qe d = .agg [vint (if d.made then d.block else -1),vint (if d.made then d.pos else 0)]:=nr rfl
theorem KL (f:Nat->Nat) (l:List Ss.Def):V.renL f (ju qe l)=ju qe l:=WQ JC f l
theorem KR (p:Nat->Bool) (l:List Ss.Def):V.idsL p (ju qe l)=true:=WR JC p l
def rdefsV:Option (List Ss.Def)->V
 | some d => .tuple [vl qe d, .bool true]
 | none => .tuple [.list [], .bool false]
theorem Defs_v (f:Ss.Fn) (hf:f.Fits) (hts:f.types.length<=1048576):bS 42 [jI f] (rdefsV (Ss.defsOf f)):=by
 intro S;obtain ⟨_,_,⟨hbl0,hbf⟩⟩:=hf;obtain ⟨⟨fi,fo⟩,ts,bs⟩:=f;simp only at hts hbl0 hbf;have hbl:bs.length<2^63:=by omega
 have htl:ts.length<2^63:=by omega
 generalize hD:Ss.defsOf ⟨⟨fi,fo⟩,ts,bs⟩=D;refine QB (c:=jc Tryz.f42) Tryz.func42 Tryz.ntmps42 fun hwf=>?_
 refine QY ?_;refine QY ?_;refine zx 4 2 rfl (by conv=>lhs; simp [Fr.set]) ?_
 refine bw ?_
 refine QT ?_;refine jd [1,4,5] rfl (fun c σ S' => ∃ (k:Nat),k<=ts.length/\c=ts.length-k/\σ=[(1, .ptr (lid S.nx 0) 0),(4, .slice (lid S.nx 1) 0 k),(5,vnat k)]/\S'=St S [] [some (4,[vl vint fi,vl vint fo,vl vint ts,vl je bs]),some (2,ju qe (List.replicate k ⟨false,0,0⟩))]) ts.length ?_ ?_
 ·exact ⟨0,by omega,rfl,by simp [Fr.only],by simp [ju]⟩
 ·rintro c σ T ⟨k,hk,rfl,rfl,rfl⟩
  by_cases hkt:k<ts.length
  ·have hw:=jg hkt htl;have hfl2:k*2=(ju qe (List.replicate k ⟨false,0,0⟩)).length:=by rw [Kz (enc:=qe) (s:=2) (fun _=>rfl)]; simp
   have hc16:(k+1)*16<=140737488355328:=by omega
   have hc1:k+1<=140737488355328:=by omega
   have hsnoc:ju qe (List.replicate (k+1) ⟨false,0,0⟩)=ju qe (List.replicate k ⟨false,0,0⟩)++[.int .i64 (-1), .int .i64 0]:=by rw [List.replicate_succ',JL,WV]; rfl
   repeat first|refine QG ?_|refine QY ?_ (r:=by conv=>lhs;simp[QV,hkt,hfl2,hc16,hc1,rep0])
   refine QA [0,3] (h2:=by simp [KL,KR]) (hl:=by conv=>lhs; simp [KL,KR]) (h:=⟨?_,k+1,hkt,rfl,by simp [hw],by rw [hsnoc]⟩);omega
  ·have hke:k=ts.length:=by omega
   subst hke
   refine bx hkt ?_
   refine QT ?_;refine jd [1,4,6] rfl (fun c σ S' => ∃ (k:Nat) (d:List Ss.Def),k<=bs.length/\c=bs.length-k/\d.length=ts.length/\(∀ x∈d,x.made=true->0<=x.block)/\Ss.putBlocks k d (bs.drop k)=D/\σ=[(1, .ptr (lid S.nx 0) 0),(4, .slice (lid S.nx 1) 0 ts.length),(6,vnat k)]/\S'=St S [] [some (4,[vl vint fi,vl vint fo,vl vint ts,vl je bs]),some (2,ju qe d)]) bs.length ?_ ?_
   ·exact ⟨0,List.replicate ts.length ⟨false,0,0⟩,by omega,rfl,by simp,by simp,by rw [<-hD]; rfl,by simp [Fr.only],rfl⟩
   ·rintro c σ T ⟨k,d,hk,rfl,hdl,hnn,hpd,rfl,rfl⟩
    by_cases hkt:k<bs.length
    ·have hw:=jg hkt hbl;have hst:=WG (ds:=d) hkt;rw [<-Ss.putLs_block] at hst;have hbk:=hbf _ (ah hkt);obtain ⟨⟨ps,code,⟨tk,ta,to,az⟩⟩,hx⟩ : ∃ b,bs[k]=b:=⟨_,rfl⟩
     rw [hx] at hst hbk;obtain ⟨⟨hpl,_⟩,⟨hcl,hcf⟩,_⟩:=hbk;simp only at hst hpl hcl hcf;obtain ⟨L,hL⟩ : ∃ L,Ss.Block.lists ⟨ps,code,⟨tk,ta,to,az⟩⟩=L:=⟨_,rfl⟩
     rw [hL] at hst;have hLl:L.length=code.length+1:=by rw [<-hL]; simp [Ss.Block.lists]
     refine bt hkt hx ?_
     refine QT ?_;refine jd [1,4,6,7,8] rfl (fun c σ S' => ∃ (j:Nat) (d:List Ss.Def) (p:Int),j<=L.length/\c=L.length-j/\p=(j:Int)-1/\d.length=ts.length/\(∀ x∈d,x.made=true->0<=x.block)/\((Ss.putLs k j d (L.drop j)).bind fun d=>Ss.putBlocks (k+1) d (bs.drop (k+1)))=D/\σ=[(1, .ptr (lid S.nx 0) 0),(4, .slice (lid S.nx 1) 0 ts.length),(6,vnat k),(7, .ptr (lid S.nx 2) 0),(8, .int .i64 p)]/\S'=St S [] [some (4,[vl vint fi,vl vint fo,vl vint ts,vl je bs]),some (2,ju qe d),some (6,[vl vint ps,vl jp code,vint tk,vint ta,vl jk to,vl vint az])]) L.length ?_ ?_
     ·exact ⟨0,d, -1,by omega,rfl,by omega,hdl,hnn,by rw [<-hpd,hst]; rfl,by simp [Fr.only],rfl⟩
     ·rintro c σ T ⟨j,d,p,hj,rfl,hp,hdl,hnn,hpd,rfl,rfl⟩
      by_cases hjt:j<L.length
      ·have hwp:IntKind.i64.wrap (p+1)=p+1:=wrap_i64 (by omega) (by omega);have hpc:p<(code.length:Int):=by omega
       have hst:=Ss.putLs_one (i:=(k:Int)) (ds:=d) hjt;rw [hst] at hpd;obtain ⟨l,hl⟩ : ∃ l,L[j]=l:=⟨_,rfl⟩
       rw [hl, <-hp] at hpd;have hlen:l.length<2^63:=by
        cases j with
        | zero =>
         have:l=ps:=by rw [<-hl]; simp [<-hL,Ss.Block.lists]
         rw [this]; omega
        | succ m =>
         have hm:m<code.length:=by omega
         have:l=code[m].outs:=by rw [<-hl]; simp [<-hL,Ss.Block.lists]
         have hxf:=hcf _ (ah hm);obtain ⟨_,_,_,hxo,_⟩:=hxf;rw [this]; omega
       refine bx hpc ?_
       refine ZQ (fun σ S'=>σ=[(1, .ptr (lid S.nx 0) 0),(4, .slice (lid S.nx 1) 0 ts.length),(6,vnat k),(7, .ptr (lid S.nx 2) 0),(8, .int .i64 p),(9,vl vint l)]/\S'=St S [] [some (4,[vl vint fi,vl vint fo,vl vint ts,vl je bs]),some (2,ju qe d),some (6,[vl vint ps,vl jp code,vint tk,vint ta,vl jk to,vl vint az])]) [1,4,6,7,8,9] ?_ ?_
       ·cases j with
        | zero =>
         obtain rfl:l=ps:=by rw [<-hl]; simp [<-hL,Ss.Block.lists]
         obtain rfl:p = -1:=by omega
         refine bw ?_
         exact ⟨by simp [Fr.only],by simp⟩
        | succ m =>
         have hm:m<code.length:=by omega
         obtain rfl:p=(m:Int):=by omega
         obtain ⟨⟨o1,o2,o3,o4⟩,hxm⟩ : ∃ x,code[m]=x:=⟨_,rfl⟩
         obtain rfl:l=o4:=by
          have:l=code[m].outs:=by rw [<-hl]; simp [<-hL,Ss.Block.lists]
          rw [this,hxm]
         refine bt hm hxm ?_
         exact ⟨by simp [Fr.only],by simp⟩
       rintro σ S' ⟨rfl,rfl⟩
       refine bw ?_
       refine QT ?_;refine jd [1,4,6,7,8,9,10] rfl (fun c σ S' => ∃ (m:Nat) (d2:List Ss.Def),m<=l.length/\c=l.length-m/\d2.length=ts.length/\(∀ x∈d2,x.made=true->0<=x.block)/\(((Ss.put k p d2 (l.drop m)).bind fun d=>Ss.putLs k (j+1) d (L.drop (j+1))).bind fun d=>Ss.putBlocks (k+1) d (bs.drop (k+1)))=D/\σ=[(1, .ptr (lid S.nx 0) 0),(4, .slice (lid S.nx 1) 0 ts.length),(6,vnat k),(7, .ptr (lid S.nx 2) 0),(8, .int .i64 p),(9,vl vint l),(10,vnat m)]/\S'=St S [] [some (4,[vl vint fi,vl vint fo,vl vint ts,vl je bs]),some (2,ju qe d2),some (6,[vl vint ps,vl jp code,vint tk,vint ta,vl jk to,vl vint az])]) l.length ?_ ?_
       ·exact ⟨0,d,by omega,rfl,hdl,hnn,hpd,by simp [Fr.only],rfl⟩
       ·rintro c σ T ⟨m,d2,hm,rfl,hdl,hnn,hpd,rfl,rfl⟩
        by_cases hmt:m<l.length
        ·have hwm:=jg hmt hlen;have hst:Ss.put k p d2 (l.drop m)=if l[m]<0\/(d2.length:Int)<=l[m]\/(d2.getD l[m].toNat default).made=true then none else Ss.put k p (d2.set l[m].toNat ⟨true,k,p⟩) (l.drop (m+1)):=by rw [am hmt,Ss.put]
         obtain ⟨v,hxv⟩ : ∃ v,l[m]=v:=⟨_,rfl⟩
         rw [hxv] at hst;have bad:(v<0\/(d2.length:Int)<=v\/(d2.getD v.toNat default).made=true)->D=none:=fun hb=>by rw [<-hpd,hst,if_pos hb]; rfl
         by_cases q1:v<0
         ·refine bv hmt hxv q1 ?_
          obtain rfl:=bad (.inl q1);exact jf hwf ((Ghost.tuple [] [_] (Ghost.nils_list _)).toB _) rfl
         obtain ⟨n,rfl⟩ : ∃ n:Nat,v=n:=⟨v.toNat,by omega⟩
         by_cases q2:n<d2.length
         case neg =>
          have q2':(ts.length:Int)<=(n:Int):=by omega
          obtain rfl:=bad (.inr (.inl (by omega)))
          refine bD hmt hxv q1 q2' ?_
          exact jf hwf ((Ghost.tuple [] [_] (Ghost.nils_list _)).toB _) rfl
         have q2' : ¬ (ts.length:Int)<=(n:Int):=by omega
         obtain ⟨⟨dm,db,dp⟩,hdx⟩ : ∃ x,d2[n]=x:=⟨_,rfl⟩
         have hdg:d2.getD (n:Int).toNat default=⟨dm,db,dp⟩:=by simp [q2,hdx]
         have hcell:(ju qe d2)[n*2]? = some (vint (if dm then db else -1)):=WT (enc:=qe) (s:=2) (fun _=>rfl) d2 n 0 ⟨dm,db,dp⟩ _ (by rw [<-hdx]; exact ac q2) rfl;have hfl:(ju qe d2).length=d2.length*2:=Kz (enc:=qe) (s:=2) (fun _=>rfl) d2;have hn2:n<ts.length:=by omega
         by_cases q3:dm=true
         ·obtain rfl:=bad (.inr (.inr (by rw [hdg]; exact q3)));subst q3;have hb0:0<=db:=by
           have:=hnn _ (ah q2);rw [hdx] at this;exact this rfl
          repeat first|refine QG ?_|refine QY ?_ (r:=by conv=>lhs;simp[QV,hmt,hxv,q1,q2',hcell,hn2,hb0])
          exact jf hwf ((Ghost.tuple [] [_] (Ghost.nils_list _)).toB _) rfl
         ·obtain rfl:dm=false:=by simpa using q3
          have hfit:n*2+2<=(ju qe d2).length:=by omega
          rw [if_neg (by rw [hdg]; rintro (h | h | h)<;>first | exact q1 h | exact q3 h | omega)] at hst;have hfs:=jaL (enc:=qe) (s:=2) (fun _=>rfl) ⟨true,k,p⟩ d2 n q2
          repeat first|refine QG ?_|refine QY ?_ (r:=by conv=>lhs;simp[QV,hmt,hxv,q1,q2',hcell,hn2,hfit])
          show js _ _ _ _ _ _ _;exact again ⟨ao hmt (aY m),m+1,d2.set n ⟨true,k,p⟩,hmt,rfl,by simp [hdl],fun x hx hm=>(List.mem_or_eq_of_mem_set hx).elim (fun h=>hnn x h hm) (fun h=>by rw [h]; simp),by rw [<-hpd,hst]; rfl,by simp [Fr.only,hwm],by rw [hfs]; simp [WV]⟩
        ·have e1:l.drop m=[]:=by rw [aH]; omega
         rw [e1] at hpd;have hpd2:((Ss.putLs k (j+1) d2 (L.drop (j+1))).bind fun d=>Ss.putBlocks (k+1) d (bs.drop (k+1)))=D:=hpd
         refine bt hmt hwp ?_
         show js _ _ _ _ _ _ _;exact again ⟨ao hjt (aY j),j+1,d2,p+1,hjt,rfl,by omega,hdl,hnn,hpd2,by simp [Fr.only,hwp],rfl⟩
      ·have hpc : ¬ p<(code.length:Int):=by omega
       rw [Ss.putLs_end hjt] at hpd;simp only [Option.bind_some] at hpd
       refine bx hpc ?_
       refine QA [0,1] (h2:=by simp [KL,KR]) (hl:=by conv=>lhs; simp [KL,KR]) (h:=⟨?_,k+1,d,hkt,rfl,hdl,hnn,hpd,by simp [hw],by simp⟩);omega
    ·refine bx hkt ?_
     have e1:bs.drop k=[]:=by rw [aH]; omega
     rw [e1] at hpd;have hpe:D=some d:=by rw [<-hpd]; rfl
     subst hpe;have hfz:=frzSt (B:=S) (u:=[]) (l:=[some (4,[vl vint fi,vl vint fo,vl vint ts,vl je bs]),some (2,ju qe d)]) (k:=1) (enc:=qe) (s:=2) (fun _=>rfl) JC d (by simp) (by rfl);rw [hdl] at hfz;exact jf hwf ((Ghost.tuple [] [_] hfz).toB _) rfl
end Go.Vw
namespace Ev
def valsI (v:List Int) (l:List Int):List Int:=l.map fun i=>v.getD i.toNat 0
end Ev
namespace Go.Vw
open Go.Proofs Go.RowKit
theorem jn (f:Nat->Nat) (l:List Int):V.renL f (l.map vu)=l.map vu:=by
 induction l with
 | nil=>rfl
 | cons x l ih=>simp only [List.map_cons,V.renL,ih]; rfl
theorem jo (p:Nat->Bool) (l:List Int):V.idsL p (l.map vu)=true:=by
 induction l with
 | nil=>rfl
 | cons x l ih=>simp only [List.map_cons,V.idsL,ih]; rfl
end Go.Vw
namespace Go.Vw
open Go.Proofs Go.RowKit
attribute [-simp] List.map_set
theorem rkind_v (t:Int):bS 77 [vint t] (.bool (Ss.isKind t)):=by
 intro S;refine QB (c:=jc Tryz.f77) Tryz.func77 Tryz.ntmps77 fun hwf=>?_
 by_cases h:t=127
 ·refine bx h ?_
  exact ja hwf (by simp [Ss.isKind,h]) rfl
 ·refine bx h ?_
  exact ja hwf (by simp [Ss.isKind,h]) rfl
theorem Zx (most:Nat) (l:List Int) (hl:l.length<2^63):bS 39 [vl vint l,vnat most] (.bool (Ss.kinds most l)):=by
 intro S
 by_cases h:l.length<=most
 case neg =>
  have h':(most:Int)<(l.length:Int):=by omega
  have hX:Ss.kinds most l=false:=by simp [Ss.kinds,h]
  rw [hX];refine QB (c:=jc Tryz.f39) Tryz.func39 Tryz.ntmps39 fun hwf=>?_
  refine bt h h' ?_
  exact bN
 have h' : ¬ (most:Int)<(l.length:Int):=by omega
 have hX:Ss.kinds most l=l.all Ss.isKind:=by simp [Ss.kinds,h]
 rw [hX];refine QB (c:=jc Tryz.f39) Tryz.func39 Tryz.ntmps39 fun hwf=>?_
 refine bt h h' ?_
 refine QT ?_;refine jd [0,5] rfl (fun c σ S' => ∃ (k:Nat),k<=l.length/\c=l.length-k/\(l.drop k).all Ss.isKind=l.all Ss.isKind/\σ=[(0,vl vint l),(5,vnat k)]/\S'=St S [] []) l.length ?_ ?_
 ·exact ⟨0,by omega,rfl,rfl,by simp [Fr.only],rfl⟩
 ·rintro c σ T ⟨k,hk,rfl,hd,rfl,rfl⟩
  by_cases hkt:k<l.length
  ·have hst:=Ss.drop_all Ss.isKind hkt;have hw:=jg hkt hl
   refine bx hkt ?_
   refine bH hkt ?_;refine QL (rkind_v l[k]) ?_;generalize Ss.isKind l[k]=z at *
   by_cases hz:z=true
   ·refine bB hz ?_;refine QN ?_
    refine bt hw hkt ?_
    show js _ _ _ _ _ _ _;exact again ⟨by omega,k+1,by omega,rfl,by rw [<-hd,hst,hz,aE],by simp [Fr.only],rfl⟩
   ·have hz':z=false:=by simpa using hz
    refine bB hz' ?_;refine bR ?_
    rw [<-hd,hst,hz',aX];exact bN
  ·refine bx hkt ?_
   rw [<-hd,Ss.drop_all_end _ hkt];exact bN
theorem rsig_v (s:Ss.Sig) (hs:s.Fits):bS 40 [jm s] (.bool s.right):=by
 intro S;obtain ⟨⟨h1,_⟩,⟨h2,_⟩⟩:=hs;obtain ⟨a,b⟩:=s;simp only at h1 h2;have hX:Ss.Sig.right ⟨a,b⟩=(Ss.kinds 8 a&&Ss.kinds 8 b):=rfl;rw [hX];have c1:bS 39 [vl vint a, .int .i64 8] (.bool (Ss.kinds 8 a)):=Zx 8 a (by omega);have c2:bS 39 [vl vint b, .int .i64 8] (.bool (Ss.kinds 8 b)):=Zx 8 b (by omega);generalize Ss.kinds 8 a=x at *
 generalize Ss.kinds 8 b=y at *
 refine QB (c:=jc Tryz.f40) Tryz.func40 Tryz.ntmps40 fun hwf=>?_
 refine bw ?_
 refine QP ?_;refine QL (c1) ?_
 by_cases hx:x=true
 ·refine bB hx ?_;refine QL (c2) ?_;refine bQ ?_
  exact ja hwf (by simp [hx]) rfl
 ·have hx':x=false:=by simpa using hx
  refine bB hx' ?_;refine bR ?_
  exact ja hwf (by simp [hx']) rfl
theorem Ww (e:Ss.Env) (he:e.Fits):bS 38 [qL e] (.bool e.right):=by
 intro S;obtain ⟨⟨h1,h2⟩,_,⟨h4,_⟩,h5⟩:=he;obtain ⟨sg,im,gl,mu,me⟩:=e;simp only at h1 h2 h4 h5;have hX:Ss.Env.right ⟨sg,im,gl,mu,me⟩=(decide (0<=im)&&decide (im<=sg.length)&&decide (sg.length<=64)&&decide (mu.length=gl.length)&&Ss.kinds 32 gl&&sg.all Ss.Sig.right):=rfl;rw [hX];have c1:bS 39 [vl vint gl, .int .i64 32] (.bool (Ss.kinds 32 gl)):=Zx 32 gl (by omega);generalize Ss.kinds 32 gl=x at *
 refine QB (c:=jc Tryz.f38) Tryz.func38 Tryz.ntmps38 fun hwf=>?_
 by_cases k3:(64:Int)<(sg.length:Int)
 ·refine bx k3 ?_
  exact ja hwf (by simp; omega) rfl
 by_cases k1:im<0
 ·refine bt k1 k3 ?_
  exact ja hwf (by simp; omega) rfl
 by_cases k2:(sg.length:Int)<im
 ·refine bv k1 k2 k3 ?_
  exact ja hwf (by simp; omega) rfl
 refine bv k1 k2 k3 ?_
 refine QP ?_ (r:=by conv=>lhs;simp[QV,k1,k2,k3]);refine QL (c1) ?_
 by_cases hx:x=true
 case neg =>
  have hx':x=false:=by simpa using hx
  refine bB hx' ?_;refine bR ?_
  exact ja hwf (by simp [hx']) rfl
 by_cases k4:mu.length=gl.length
 case neg =>
  have k4' : ¬ (mu.length:Int)=(gl.length:Int):=by omega
  refine bG hx k4 k4' ?_;refine bR ?_
  exact ja hwf (by simp [k4]) rfl
 have k4':(mu.length:Int)=(gl.length:Int):=by omega
 have hp:(decide (0<=im)&&decide (im<=sg.length)&&decide (sg.length<=64)&&decide (mu.length=gl.length))=true:=by simp [k4]; omega
 rw [hp,hx];refine bG hx k4 k4' ?_;refine bR ?_
 have hl:sg.length<2^63:=by omega
 rw [aE,aE];refine QT ?_;refine jd [1,3] rfl (fun c σ S' => ∃ (k:Nat),k<=sg.length/\c=sg.length-k/\(sg.drop k).all Ss.Sig.right=sg.all Ss.Sig.right/\σ=[(1, .ptr (lid S.nx 0) 0),(3,vnat k)]/\S'=St S [] [some (5,[vl jm sg,vint im,vl vint gl,vl V.bool mu, .bool me])]) sg.length ?_ ?_
 ·exact ⟨0,by omega,rfl,rfl,by simp [Fr.only],rfl⟩
 ·rintro c σ T ⟨k,hk,rfl,hd,rfl,rfl⟩
  by_cases hkt:k<sg.length
  ·have hst:=Ss.drop_all Ss.Sig.right hkt;have hw:=jg hkt hl;have c2:=rsig_v sg[k] (h2 _ (ah hkt));generalize hz0:Ss.Sig.right sg[k]=z at *
   obtain ⟨⟨a,b⟩,hb⟩ : ∃ s,sg[k]=s:=⟨_,rfl⟩
   rw [hb] at c2;have c2':bS 40 [.agg [vl vint a,vl vint b]] (.bool z):=c2
   refine bx hkt ?_
   refine bK hkt hb ?_;refine QL (c2') ?_
   by_cases hz:z=true
   ·refine bB hz ?_;refine QN ?_
    refine bt hw hkt ?_
    show js _ _ _ _ _ _ _;exact again ⟨by omega,k+1,by omega,rfl,by rw [<-hd,hst,hz,aE],by simp [Fr.only],rfl⟩
   ·have hz':z=false:=by simpa using hz
    refine bB hz' ?_;refine bR ?_
    rw [<-hd,hst,hz',aX];exact bN
  ·refine bx hkt ?_
   rw [<-hd,Ss.drop_all_end _ hkt];exact bN
end Go.Vw
