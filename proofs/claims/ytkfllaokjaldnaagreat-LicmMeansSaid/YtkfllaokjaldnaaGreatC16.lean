import Derived.Test.YtkfllaokjaldnaaGreatC15
/- Part of the proof. -/
set_option linter.unusedVariables false
set_option linter.unusedSimpArgs false
set_option maxRecDepth 10000
set_option maxHeartbeats 16000000
namespace Go.Vw
open Go.Proofs Go.RowKit
attribute [-simp] List.map_set
theorem alc (g:List (List Nat)) (hg:G.Ok g) (hr:b8 45 [vl (vl cu) g] (.bool true)):b8 47 [vl (vl cu) g] (.tuple [vl cj (G.rNear g),cj 0]):=by
 intro S;refine b7 Tryz.func47 Tryz.ntmps47 fun hwf=>?_
 have hm256:=hg.max
 refine bz ?_
 refine QP ?_;refine QL hr ?_;refine bV ?_
 refine QP ?_;refine QL (awl g hg) ?_;refine QW ?_;generalize ht:G.table g=t;have htl:t.length=g.length:=by rw [<-ht]; simp [G.table]
 have hrl : ∀ a,a<g.length -> ∃ r,t[a]? = some r/\r.length=g.length:=by
  intro a ha;refine ⟨G.tableRow g a,by rw [<-ht]; simp [G.table,ha],G.abl g a⟩
 obtain ⟨f,hf⟩ : ∃ f:Nat->Int,f=fun b=>(G.bestTo t g.length b g.length).1:=⟨_,rfl⟩
 have hfin:G.rNear g=upTo f g.length:=by rw [hf]; simp only [G.rNear,ht,upTo]
 rw [hfin];refine QY ?_;refine qZ 5 1 rfl (by conv=>lhs; simp [Fr.set]) ?_
 refine bz ?_
 refine bX [0,4,5,6] (fun c σ S' => ∃ (b:Nat),b<=g.length/\c=g.length-b/\σ=[(0,vl (vl cu) g),(4,vl (vl V.bool) t),(5, .slice (lid S.nx 0) 0 b),(6,cu b)]/\S'=St S [] [some (1,(upTo f b).map cj)]) g.length ?_ ?_
 .exact ⟨0,by omega,rfl,by simp [Fr.oy,Fr.lk,cu],by simp [amt]⟩
 .rintro c σ T ⟨b,hb,rfl,rfl,rfl⟩
  by_cases hbt:b<g.length
  .have hwb:IntKind.i64.wrap ((b:Int)+1)=(b:Int)+1:=wrap_i64 (by omega) (by omega)
   refine bD hbt ?_
   refine bX [0,4,5,6,7,8,9] (fun c σ S' => ∃ (a:Nat),a<=g.length/\c=g.length-a/\σ=[(0,vl (vl cu) g),(4,vl (vl V.bool) t),(5, .slice (lid S.nx 0) 0 b),(6,cu b),(7,cj (G.bestTo t g.length b a).1),(8,cu (G.bestTo t g.length b a).2),(9,cu a)]/\S'=St S [] [some (1,(upTo f b).map cj)]) g.length ?_ ?_
   .exact ⟨0,by omega,rfl,by simp [Fr.oy,Fr.lk,cu,cj,G.bestTo],by simp⟩
   .rintro c σ T ⟨a,ha,rfl,rfl,rfl⟩
    by_cases hat:a<g.length
    .have hwa:IntKind.i64.wrap ((a:Int)+1)=(a:Int)+1:=wrap_i64 (by omega) (by omega);have hst : ∀ x,x=G.bestTo t g.length b (a+1)->x=if a≠b/\G.tabAt t a b=true/\(G.bestTo t g.length b a).2<G.cntTo t a g.length then ((a:Int),G.cntTo t a g.length) else G.bestTo t g.length b a:=fun x h=>h
     have hst:=hst _ rfl;obtain ⟨r,hr,hrl'⟩:=hrl a hat;have hta:a<t.length:=by omega
     have hra:t[a]=r:=by simpa [hta] using hr
     by_cases hab:a=b
     .subst hab;rw [if_neg (by simp)] at hst
      refine bD hat ?_
      show jx _ _ _ _ _ _ _;exact again ⟨ao hat (aW a),a+1,hat,rfl,by rw [hst]; simp [Fr.oy,Fr.lk,cu,cj]; exact hwa,rfl⟩
     .have hab' : ¬ (a:Int)=(b:Int):=by omega
      by_cases htab:G.tabAt t a b=true
      .have htb:r[b]'(by omega)=true:=by
        have:b<r.length:=by omega
        simpa [G.tabAt,hta,hra,this] using htab
       have hbr:b<r.length:=by omega
       have hab' : ¬ (a:Int)=(b:Int):=by omega
       repeat first|refine QG ?_|refine QY ?_ (r:=by conv=>lhs;simp[QV,hat,hab,hab',hta,hra,hbr,htb])
       refine bX [0,4,5,6,7,8,9,10,11] (fun c σ S' => ∃ (k:Nat),k<=g.length/\c=g.length-k/\σ=[(0,vl (vl cu) g),(4,vl (vl V.bool) t),(5, .slice (lid S.nx 0) 0 b),(6,cu b),(7,cj (G.bestTo t g.length b a).1),(8,cu (G.bestTo t g.length b a).2),(9,cu a),(10,cu (G.cntTo t a k)),(11,cu k)]/\S'=St S [] [some (1,(upTo f b).map cj)]) g.length ?_ ?_
       .exact ⟨0,by omega,rfl,by simp [Fr.oy,Fr.lk,cu,cj,G.cntTo],rfl⟩
       .rintro c σ T ⟨k,hk,rfl,rfl,rfl⟩;have hcle:=G.agn t a k
        by_cases hkt:k<g.length
        .have hwk:IntKind.i64.wrap ((k:Int)+1)=(k:Int)+1:=wrap_i64 (by omega) (by omega);have hwc:IntKind.i64.wrap ((G.cntTo t a k:Int)+1)=(G.cntTo t a k:Int)+1:=wrap_i64 (by omega) (by omega);obtain ⟨q,hq,hql⟩:=hrl k hkt;have htk:k<t.length:=by omega
         have hqk:t[k]=q:=by simpa [htk] using hq
         have haq:a<q.length:=by omega
         obtain ⟨x,hx⟩ : ∃ x,q[a]=x:=⟨_,rfl⟩
         have hxt:G.tabAt t k a=x:=by simp [G.tabAt,htk,hqk,haq,hx]
         have hcs:G.cntTo t a (k+1)=if x=true then G.cntTo t a k+1 else G.cntTo t a k:=by simp only [G.cntTo,hxt]
         cases x with
         | true =>
          refine bO hkt htk hqk haq hx ?_
          show jx _ _ _ _ _ _ _;exact again ⟨ao hkt (aW k),k+1,hkt,rfl,by rw [hcs]; simp [Fr.oy,Fr.lk,cu,cj,hwk,hwc],rfl⟩
         | false =>
          refine bO hkt htk hqk haq hx ?_
          show jx _ _ _ _ _ _ _;exact again ⟨ao hkt (aW k),k+1,hkt,rfl,by rw [hcs]; simp [Fr.oy,Fr.lk,cu,cj,hwk,hwc],rfl⟩
        .have hkg:k=g.length:=by omega
         subst hkg
         by_cases hgt:(G.bestTo t g.length b a).2<G.cntTo t a g.length
         .rw [if_pos ⟨hab,htab,hgt⟩] at hst
          refine bF hkt hgt ?_
          show jx _ _ _ _ _ _ _;exact again ⟨ao hat (aW a),a+1,hat,rfl,by rw [hst]; simp [Fr.oy,Fr.lk,cu,cj,hwa],rfl⟩
         .rw [if_neg (fun h=>hgt h.2.2)] at hst
          refine bF hkt hgt ?_
          show jx _ _ _ _ _ _ _;exact again ⟨ao hat (aW a),a+1,hat,rfl,by rw [hst]; simp [Fr.oy,Fr.lk,cu,cj,hwa],rfl⟩
      .have htb:r[b]'(by omega)=false:=by
        have:b<r.length:=by omega
        simpa [G.tabAt,hta,hra,this] using htab
       have hbr:b<r.length:=by omega
       rw [if_neg (fun h=>htab h.2.1)] at hst
       repeat first|refine QG ?_|refine QY ?_ (r:=by conv=>lhs;simp[QV,hat,hab,hab',hta,hra,hbr,htb])
       show jx _ _ _ _ _ _ _;exact again ⟨ao hat (aW a),a+1,hat,rfl,by rw [hst]; simp [Fr.oy,Fr.lk,cu,cj,hwa],rfl⟩
    .have hag:a=g.length:=by omega
     subst hag;have hfb:f b=(G.bestTo t g.length b g.length).1:=by rw [hf]
     have hc8:(b+1)*8<=140737488355328:=by omega
     have hc1:b+1<=140737488355328:=by omega
     refine bG hat hc8 hc1 ?_
     refine QA [2] (h:=⟨?_,b+1,hbt,rfl,by simp [cu,hwb],by rw [am6,hfb]; simp [cj]⟩);omega
  .refine bD hbt ?_
   have hag:b=g.length:=by omega
   subst hag;exact jf hwf ((Ghost.tp [] [cj 0] (frz1 (by simp) (by rfl) (jo cj (fun _=>rfl) _) (by simp [agm]))).toB _) rfl
end Go.Vw
namespace Go.Vw
open Go.Proofs Go.RowKit
theorem apt (g:List (List Int)) (h:Fits g):b8 78 [vl (vl cj) g] (.tuple [vl (vl cu) (G.fromI g),cj (G.err g)]):=by
 cases hr:G.right g with
 | false =>
  simp only [G.fromI,G.err,hr];exact ad6 g h.1 h.2 hr
 | true =>
  simp only [G.fromI,G.err,hr,if_true];rw [G.aan hr];exact ans _ (G.aag hr) (Yy g h hr)
end Go.Vw
namespace Go.Vw
open Go.Proofs Go.RowKit
attribute [-simp] List.map_set
def qd (x:Nat × List Nat):V := .agg [cu x.1,vl cu x.2]
theorem Yd (x:Nat × List Nat):(qd x).cells=[cu x.1,vl cu x.2]:=by simp [qd,V.cells]
theorem jbc (x:Nat × List Nat):(qd x).cells.length=2:=by rw [Yd]; rfl
theorem JG (x:Nat × List Nat):(qd x).closed=true:=rfl
theorem qx (f:Nat->Nat) (ls:List (Nat × List Nat)):V.renL f (jq qd ls)=jq qd ls:=KC JG f ls
theorem qy (p:Nat->Bool) (ls:List (Nat × List Nat)):V.idsL p (jq qd ls)=true:=KD JG p ls
theorem WJ (f:Nat->Nat) (n:Nat) (b:Bool):V.renL f (List.replicate n (V.bool b))=List.replicate n (V.bool b):=by
 have:=ad3 f (List.replicate n b);simpa using this
theorem WV (p:Nat->Bool) (n:Nat) (b:Bool):V.idsL p (List.replicate n (V.bool b))=true:=by
 have:=adf p (List.replicate n b);simpa using this
theorem few {u t:Nat} (hu:u<=256) (ht:t<=1048576):u*(1048576+1)+t<=1073741824:=by omega
theorem av4 {M:Nat} {inn:List Bool} {td:List Nat} {n:Nat} (h:G.todoM M inn (td++[n])<=1073741824):td.length+1<=1073741824:=by
 simp only [G.todoM,List.length_append,aC,aM] at h;have:=Nat.zero_le (G.unmet inn*(M+1));omega
theorem agk {M:Nat} {inn:List Bool} {td:List Nat} {n:Nat}:G.todoM M inn td<G.todoM M inn (td++[n]):=by
 simp [G.todoM]
theorem aic (g:List (List Int)) (h:Fits g) (hr:G.right g=false):b8 25 [vl (vl cj) g] (.tuple [vl qd [],cj 1]):=by
 intro S;have e:G.err g=1:=by simp [G.err,hr]
 refine b7 Tryz.func25 Tryz.ntmps25 fun hwf=>?_
 refine bz ?_
 refine QP ?_;refine QL (KJ g h) ?_;refine QW ?_
 refine bD e ?_
 exact jf (l:=[]) hwf ((Ghost.tp [] [cj 1] (Ghost.nl _)).toB _) rfl
theorem aug (g:List (List Nat)) (hg:G.Ok g) (near:List Int) (fr:List (List Nat)) (cn:b8 77 [vl (vl cu) g] (.tuple [vl cj near,cj 0])) (cf:b8 78 [vl (vl cu) g] (.tuple [vl (vl cu) fr,cj 0]))
  (hnl:near.length=g.length) (hfl:fr.length=g.length) (hfm : ∀ r∈fr,r.length<=1048576) (hfe : ∀ r∈fr, ∀ x∈r,x<g.length) :
  b8 25 [vl (vl cu) g] (.tuple [vl qd (G.loopsTo near fr g.length g.length),cj 0]):=by
 intro S;refine b7 Tryz.func25 Tryz.ntmps25 fun hwf=>?_
 have hm:=hg.max;have hp:=hg.pos;have hb1:g.length*1<=140737488355328:=by omega
 have hb0:g.length<=140737488355328:=by omega
 refine bz ?_
 refine QP ?_;refine QL cn ?_;refine bV ?_
 refine QP ?_;refine QL cf ?_;refine QW ?_;refine QY ?_;refine qZ 8 2 rfl (by conv=>lhs; simp [Fr.set]) ?_
 refine bz ?_
 refine bX [0,4,6,8,32,33] (fun c σ S' => ∃ h:Nat,h<=g.length/\c=g.length-h/\σ=[(0,vl (vl cu) g),(4,vl cj near),(6,vl (vl cu) fr),(8, .slice (lid S.nx 0) 0 (G.loopsTo near fr g.length h).length),(32,cu g.length),(33,cu h)]/\S'=St S [] [some (2,jq qd (G.loopsTo near fr g.length h))]) g.length ?_ ?_
 .exact ⟨0,by omega,rfl,by simp [Fr.oy,G.loopsTo],by simp [G.loopsTo,jq]⟩
 .rintro c σ T ⟨h,hh,rfl,rfl,rfl⟩
  by_cases hht:h<g.length
  .have hw:IntKind.i64.wrap ((h:Int)+1)=(h:Int)+1:=wrap_i64 (by omega) (by omega);have hhn:h<near.length:=by omega
   have hhf:h<fr.length:=by omega
   have hnd:near.getD h 0=near[h]:=by simp [hhn]
   have hfd:fr.getD h []=fr[h]:=by simp [hhf]
   have hrow:=hfm _ (ah hhf);have hrowe:=hfe _ (ah hhf);have hst:G.loopsTo near fr g.length (h+1)=if (0<h/\near[h]<0)\/G.backs near h fr[h]=[] then G.loopsTo near fr g.length h else G.loopsTo near fr g.length h++[(h,G.picked (G.loopIn fr h (G.backs near h fr[h]) g.length) g.length)]:=by
    simp only [G.loopsTo,hnd,hfd]
   have hlo:=G.abp near fr g.length h;generalize G.loopsTo near fr g.length h=ls at *
   by_cases hskip:0<h/\near[h]<0
   .rw [if_pos (.inl hskip)] at hst;obtain ⟨h1,h2⟩:=hskip;have h1':(0:Int)<(h:Int):=by omega
    refine bO hht hhn h1 h1' h2 ?_
    show jx _ _ _ _ _ _ _;exact again ⟨ao hht (aW h),h+1,hht,rfl,by rw [hst]; simp [Fr.oy,hw],by rw [hst]⟩
   .have hge:0<h -> ¬ near[h]<0:=fun h1 h2=>hskip ⟨h1,h2⟩
    refine bD hht ?_
    refine QT ?_;refine jbs (0<h) [0,4,6,8,9,32,33,44] rfl (by conv=>lhs; reduce) (fun hyes=>⟨_,by conv=>lhs; simp [QV,hyes,hhn,(hge hyes)],by conv=>lhs; simp [Fr.oy]⟩) (fun hno=>⟨_,by conv=>lhs; simp [QV,hno,hhn],by conv=>lhs; simp [Fr.oy]⟩) ?_
    refine bG hb1 hb0 hhf ?_
    refine qZ 11 1 rfl (by conv=>lhs; simp [Fr.set]) ?_
    refine bD hhf ?_
    generalize hts:G.backs near h fr[h]=ts at *
    have htsl:ts.length<=fr[h].length:=by rw [<-hts]; exact List.length_filter_le _ _
    refine bX [0,4,6,8,9,10,11,32,33,51,52,53] (fun c σ S' => ∃ (k:Nat) (todo:List Nat),k<=fr[h].length/\c=fr[h].length-k/\todo++G.backs near h (fr[h].drop k)=ts/\σ=[(0,vl (vl cu) g),(4,vl cj near),(6,vl (vl cu) fr),(8, .slice (lid S.nx 0) 0 ls.length),(9,cu h),(10, .slice (lid S.nx 1) 0 g.length),(11, .slice (lid S.nx 2) 0 todo.length),(32,cu g.length),(33,cu h),(51,vl cu fr[h]),(52,cu fr[h].length),(53,cu k)]/\S'=St S [] [some (2,jq qd ls),some (1,(List.replicate g.length false).map V.bool),some (1,todo.map cu)]) fr[h].length ?_ ?_
    .exact ⟨0,[],by omega,rfl,by simpa using hts,by simp [Fr.oy],by simp⟩
    .rintro c σ T ⟨k,todo,hk,rfl,hdo,rfl,rfl⟩;have htdl:todo.length<=ts.length:=by rw [<-hdo]; simp
     by_cases hkt:k<fr[h].length
     .have hwk:IntKind.i64.wrap ((k:Int)+1)=(k:Int)+1:=wrap_i64 (by omega) (by omega);rw [am hkt] at hdo;generalize hpe:fr[h][k]=p at hdo;have hd:=jbq near h p (by omega)
      refine bF hkt hpe ?_
      refine QP ?_;refine QL hd ?_;refine QW ?_
      cases hb:G.cy near h p with
      | true =>
       have hc8:(todo.length+1)*8<=140737488355328:=by omega
       have hc1:todo.length+1<=140737488355328:=by omega
       have hdo':(todo++[p])++G.backs near h (fr[h].drop (k+1))=ts:=by
        rw [<-hdo]; simp [G.backs,hb]
       refine bG hb hc8 hc1 ?_
       refine QA [0,1,4] (h2:=by simp [qx,qy,WJ,WV]) (hl:=by conv=>lhs; simp [qx,qy,WJ,WV]) (h:=⟨?_,k+1,todo++[p],hkt,rfl,hdo',by simp [hwk],by simp⟩);omega
      | false =>
       have hdo':todo++G.backs near h (fr[h].drop (k+1))=ts:=by
        rw [<-hdo]; simp [G.backs,hb]
       refine bD hb ?_
       show jx _ _ _ _ _ _ _;exact again ⟨ao hkt (aW k),k+1,todo,hkt,rfl,hdo',by simp [Fr.oy,hwk],by simp⟩
     .have hke:k=fr[h].length:=by omega
      subst hke;simp only [List.drop_length] at hdo;have hts':todo=ts:=by simpa [G.backs] using hdo
      subst hts'
      by_cases hemp:todo=[]
      .rw [if_pos (.inr hemp)] at hst;subst hemp
       refine bD hkt ?_
       refine QA [0] (h2:=by simp [qx,qy,WJ,WV]) (hl:=by conv=>lhs; simp [qx,qy,WJ,WV]) (h:=⟨?_,h+1,hht,rfl,by rw [hst]; simp [hw],by rw [hst]⟩);omega
      .rw [if_neg (by rintro (h1 | h1); exact hskip h1; exact hemp h1)] at hst;have hlen0 : ¬ todo.length=0:=fun e=>hemp (aO e)
       have hlt : ∀ t∈todo,t<g.length:=fun t ht=>hrowe t (by rw [<-hts] at ht; exact (List.mem_filter.1 ht).1)
       have hS0:=G.Srch.start (fr:=fr) hht hlt
       refine bG hkt hlen0 hht ?_
       have hum:G.unmet ((List.replicate g.length false).set h true)<=g.length:=by
        have:=List.count_le_length (a:=false) (l:=(List.replicate g.length false).set h true);simpa [G.unmet] using this
       have hm0:G.todoM (1048576) ((List.replicate g.length false).set h true) todo<=1073741824:=by
        exact few (by omega) (by omega)
       refine bX [0,4,6,8,9,10,11,32,33] (fun c σ S' => ∃ (inn:List Bool) (td:List Nat),G.Srch fr h todo g.length inn td/\c=G.todoM (1048576) inn td/\c<=1073741824/\σ=[(0,vl (vl cu) g),(4,vl cj near),(6,vl (vl cu) fr),(8, .slice (lid S.nx 0) 0 ls.length),(9,cu h),(10, .slice (lid S.nx 1) 0 g.length),(11, .slice (lid S.nx 2) 0 td.length),(32,cu g.length),(33,cu h)]/\S'=St S [] [some (2,jq qd ls),some (1,inn.map V.bool),some (1,td.map cu)]) (G.todoM (1048576) ((List.replicate g.length false).set h true) todo) ?_ ?_
       .exact ⟨_,_,hS0,rfl,hm0,by simp [Fr.oy],by simp [List.map_set]⟩
       .rintro c σ T ⟨inn,td,hS,rfl,hcm,rfl,rfl⟩;have hil:=hS.len;rcases List.eq_nil_or_concat td with rfl | ⟨td,n,rfl⟩
        .have hie:=G.apb hS;rw [<-hie] at hst;refine QY ?_;refine QT ?_;refine jD rfl rfl rfl ?_;refine QT ?_;refine jP 4 rfl rfl ?_;refine QY ?_
         apply jv
         .exact Reach.voidCell 1 (k:=3) (i:=1) (by simp) rfl rfl
         simp only [bl,bm,aq,au,aC,aM,Nat.reduceAdd]
         refine bz ?_
         refine bX [0,4,6,8,15,32,33,102,103,104] (fun c σ S' => ∃ k:Nat,k<=g.length/\c=g.length-k/\σ=[(0,vl (vl cu) g),(4,vl cj near),(6,vl (vl cu) fr),(8, .slice (lid S.nx 0) 0 ls.length),(15, .ptr (lid S.nx 3) 0),(32,cu g.length),(33,cu h),(102, .slice (lid S.nx 1) 0 g.length),(103,cu g.length),(104,cu k)]/\S'=St S [] [some (2,jq qd ls),some (1,inn.map V.bool),some (1,[]),some (2,[cu h, .slice (lid S.nx 4) 0 (G.picked inn k).length]),some (1,(G.picked inn k).map cu)]) g.length ?_ ?_
         .exact ⟨0,by omega,rfl,by simp [Fr.oy],by simp [G.picked]⟩
         .rintro c σ T ⟨k,hk,rfl,rfl,rfl⟩;have hpl:=G.abv inn k
          by_cases hkt:k<g.length
          .have hwk:IntKind.i64.wrap ((k:Int)+1)=(k:Int)+1:=wrap_i64 (by omega) (by omega);have hki:k<inn.length:=by omega
           obtain ⟨x,hx⟩ : ∃ x,inn[k]=x:=⟨_,rfl⟩
           have hxd:inn.getD k false=x:=by simp [hki,hx]
           have hps:G.picked inn (k+1)=if x=true then G.picked inn k++[k] else G.picked inn k:=by simp only [G.picked,hxd]
           have hc8:((G.picked inn k).length+1)*8<=140737488355328:=by omega
           have hc1:(G.picked inn k).length+1<=140737488355328:=by omega
           generalize G.picked inn k=pk at *
           cases x with
           | true =>
            refine bO hkt hki hx hc8 hc1 ?_
            refine QA [0,1,2,3,6] (h2:=by simp [qx,qy]) (hl:=by conv=>lhs; simp [qx,qy]) (h:=⟨?_,k+1,hkt,rfl,by simp [hwk],by rw [hps]; simp⟩);omega
           | false =>
            refine bO hkt hki hx hc8 hc1 ?_
            show jx _ _ _ _ _ _ _;exact again ⟨ao hkt (aW k),k+1,hkt,rfl,by simp [Fr.oy,hwk],by rw [hps]; simp⟩
          .have hke:k=g.length:=by omega
           subst hke;generalize G.picked inn g.length=pk at *
           refine bR hkt ?_;refine QT ?_;refine jD rfl rfl rfl ?_;refine QT ?_;refine jP 6 rfl rfl ?_
           apply jv
           .exact Reach.frzCell (k:=3) (j:=4) (i:=1) (n:=pk.length) (cells':=pk.map cu) (by omega) (by simp) (by simp) rfl rfl rfl (jo cu (fun _=>rfl) _) (by simp)
           simp only [aq,au];have hfl2:ls.length*2=(jq qd ls).length:=by rw [JK jbc]
           have hc8:(ls.length+1)*32<=140737488355328:=by omega
           have hc1:ls.length+1<=140737488355328:=by omega
           have hsnoc:jq qd (ls++[(h,pk)])=jq qd ls++[cu h,V.list (pk.map cu)]:=by rw [Jl,Yd]; rfl
           repeat first|refine QG ?_|refine QY ?_ (r:=by conv=>lhs;simp[QV,hfl2,hc8,hc1,rep0])
           refine QA [6] (h2:=by simp [qx,qy]) (hl:=by conv=>lhs; simp [qx,qy]) (h:=⟨?_,h+1,hht,rfl,by rw [hst]; simp [hw],by rw [hst,hsnoc]; simp⟩);omega
        .rw [List.concat_eq_append] at *
         have hn:=hS.lt n (by simp);have hni:n<inn.length:=by omega
         have hnf:n<fr.length:=by omega
         have hfn:fr.getD n []=fr[n]:=by simp [hnf]
         have hrn:=hfm _ (ah hnf);have htl:td.length+1<=1073741824:=av4 hcm;have hw1:IntKind.i64.wrap ((td.length:Int)+1-1)=(td.length:Int):=by
          rw [wrap_i64 (by omega) (by omega)]; omega
         have hw2:IntKind.i64.wrap (td.length:Int)=(td.length:Int):=wrap_i64 (by omega) (by omega);have h0:(0:Int)<(td.length:Int)+1:=by omega
         have h1:(td.length:Int)<(td.length:Int)+1:=by omega
         have h2:(td.length:Int)<=(td.length:Int)+1:=by omega
         have hsub : ∀ t∈td,t∈td++[n]:=fun t ht=>by simp [ht]
         have hre : ∀ t∈td++[n],t=n\/t∈td:=fun t ht=>by
          rcases aG.1 ht with h | h
          .exact .inr h
          .simp at h; exact .inl h
         refine bR h0 ?_;refine QT ?_;refine jC rfl rfl rfl ?_;refine QT ?_;refine jz rfl ?_;refine QT ?_;refine jL 5 rfl rfl ?_;refine QY ?_ (r:=by conv=>lhs;simp[QV,hw1,hw2,h0,h1]);refine QY ?_ (r:=by conv=>lhs;simp[QV,hw1,hw2,h0,h1,h2]);refine acz 11 td.length rfl (by simp) rfl (by conv=>lhs; simp [au,aq]) ?_;obtain ⟨x,hx⟩ : ∃ x,inn[n]=x:=⟨_,rfl⟩
         have hxd:inn.getD n false=x:=by simp [hni,hx]
         cases x with
         | true =>
          have hS':=hS.seen hxd hsub hre
          refine bG hn hni hx ?_
          refine QA [0,1,2] (h2:=by simp [qx,qy]) (hl:=by conv=>lhs; simp [qx,qy]) (h:=⟨?_,inn,td,hS',rfl,bd (Nat.le_of_lt agk) hcm,by simp,by simp⟩);exact agk
         | false =>
          have hS':=hS.take (todo':=td++fr[n]) (by simp) (by rw [hfn]; exact hfe _ (ah hnf)) hxd (fun t ht=>by
           rcases aG.1 ht with h | h
           .exact .inl (by simp [h])
           .exact .inr (by rw [hfn]; exact h)) (fun t ht=>by
           rcases hre t ht with h | h
           .exact .inl h
           .exact .inr (by simp [h])) (fun t ht=>by rw [hfn] at ht; simp [ht])
          have hmm:=G.alv (M:=1048576) (todo:=td++[n]) (todo':=td++fr[n]) hni hx hrn (by simp; omega);have hc8:(td.length+fr[n].length)*8<=140737488355328:=by omega
          have hc1:td.length+fr[n].length<=140737488355328:=by omega
          repeat first|refine QG ?_|refine QY ?_ (r:=by conv=>lhs;simp[QV,hn,hni,hx,hnf,Wq,ajw,hc8,hc1,al2])
          refine QA [0,1,3] (h2:=by simp [qx,qy]) (hl:=by conv=>lhs; simp [qx,qy]) (h:=⟨?_,_,_,hS',rfl,bd (Nat.le_of_lt hmm) hcm,by simp,by simp⟩);exact hmm
  .have hhe:h=g.length:=by omega
   subst hhe
   refine bD hht ?_
   exact jf hwf ((Ghost.tp [] [cj 0] (aej (k:=0) jbc JG _ (by simp) rfl)).toB _) rfl
end Go.Vw
namespace Go.Vw
open Go.Proofs Go.RowKit
namespace G
theorem JY (near:List Int) (fr:List (List Nat)) (N:Nat) : ∀ k, ∀ x∈loopsTo near fr N k,x.2.length<=N
 | 0,x,h=>by simp [loopsTo] at h
 | k+1,x,h=>by
  simp only [loopsTo] at h;split at h
  .exact JY near fr N k x h
  .rcases aG.1 h with h | h
   .exact JY near fr N k x h
   .simp at h;rw [h];exact abv _ N
noncomputable def loopsI (g:List (List Int)):List (Nat × List Nat):=if right g then loopsTo (rNear (nats g)) (froms (nats g)) (nats g).length (nats g).length else []
theorem ami (g:List (List Int)):(loopsI g).length<=256:=by
 simp only [loopsI];split
 .rename_i h;have:=(aag h).max;have:=abp (rNear (nats g)) (froms (nats g)) (nats g).length (nats g).length;omega
 .simp
theorem af8 (g:List (List Int)) : ∀ x∈loopsI g,x.2.length<=256:=by
 simp only [loopsI];split
 .rename_i h;have h1:=(aag h).max;intro x hx;have:=JY _ _ _ _ x hx;omega
 .simp
theorem amy {g:List (List Nat)} (hg:Ok g) : ∀ r∈froms g,r.length<=1048576:=by
 intro r hr;have k1:=Wp _ _ r hr;have k2:=ab2 hg.row 0;have k3:=hg.max;rw [aca] at k1;omega
theorem at5 {g:List (List Nat)} (hg:Ok g) : ∀ r∈froms g, ∀ x∈r,x<g.length:=by
 intro r hr x hx;obtain ⟨i,hi,rfl⟩:=a7 hr;have hig:i<g.length:=by rw [aa4] at hi; exact hi
 have:=(aar hg i x hig).1 (by simpa [hi] using hx);exact this.1
end G
theorem akb (g:List (List Int)) (h:Fits g):b8 25 [vl (vl cj) g] (.tuple [vl qd (G.loopsI g),cj (G.err g)]):=by
 cases hr:G.right g with
 | false =>
  simp only [G.loopsI,G.err,hr];exact aic g h hr
 | true =>
  have c1:=KJ g h;have c2:=apt g h;simp only [G.loopsI,G.cD,G.fromI,G.err,hr,if_true] at c1 c2 ⊢;rw [G.aan hr] at c1 c2 ⊢;have hg:=G.aag hr;exact aug (G.nats g) hg _ _ c1 c2 (G.aa8 hg).len (G.aa4 _) (G.amy hg) (G.at5 hg)
end Go.Vw
namespace Ss
open Go.Vw.G
def tabOf (hm:List Int) (v:Int):Int:=hm.getD v.toNat 0
theorem ame {e:Env} {f:Fn} (h:check e f=true) {k:Nat} (hk:wt f<k) (j:Nat):licTo (k+j) f=licTo k f:=by
 have add : ∀ (k:Nat) (f:Fn),licTo (k+j) f=licTo j (licTo k f):=by
  intro k
  induction k with
  | zero=>intro f; rw [a8]; rfl
  | succ k ih =>
   intro f;rw [show k+1+j=k+j+1 by omega]
   cases hf:first f.blocks (homeOf f) (lps f.blocks) with
   | none=>rw [aap _ hf,aap _ hf,aap _ hf]
   | some m =>
    obtain ⟨p,n,i⟩:=m;rw [WT _ hf,WT _ hf,ih]
 rw [add,aap _ (ac2 k f h hk)]
theorem ac8 {e:Env} {f:Fn} (h:check e f=true) {p n i:Nat} (hf:first f.blocks (homeOf f) (lps f.blocks)=some (p,n,i)):licF (moved f p n i)=licF f:=by
 obtain ⟨h1,h2,h3⟩:=jcu h hf;unfold licF;rw [WT _ hf];obtain ⟨j,hj⟩ : ∃ j,wt f=wt (moved f p n i)+1+j:=⟨wt f-(wt (moved f p n i)+1),by omega⟩
 rw [hj];exact (ame h1 (aW _) j).symm
structure LOk (e:Env) (f g:Fn) (hm:List Int):Prop where
 chk:check e g=true
 fits:g.Fits
 fin:licF g=licF f
 sig:g.sig=f.sig
 types:g.types=f.types
 succs:Ss.succs g.blocks=Ss.succs f.blocks
 len:hm.length=f.types.length
 home : ∀ v∈allL g.blocks,tabOf hm v=homeOf g v
theorem LOk.first {e:Env} {f g:Fn} {hm:List Int} (h:LOk e f g hm):Ss.first g.blocks (tabOf hm) (lps f.blocks)=Ss.first g.blocks (homeOf g) (lps g.blocks):=by
 have e1:lps g.blocks=lps f.blocks:=by unfold lps; rw [h.succs]
 rw [e1];refine jaX (fun n x hx a ha => ?_) _;have hb:g.blocks.getD n default∈g.blocks\/g.blocks.getD n default=default:=by
  rw [ag]
  cases hn:g.blocks[n]? with
  | none=>exact .inr rfl
  | some b=>exact .inl (aA hn)
 rcases hb with hb | hb
 .exact h.home a (ash h.chk _ hb x hx a ha)
 .rw [hb] at hx
  cases hx
theorem LOk.start {e:Env} {f:Fn} (h:check e f=true) (hf:f.Fits):LOk e f f (homesI f):=⟨h,hf,rfl,rfl,rfl,rfl,ach f,fun v hv=>akn h v hv⟩
theorem LOk.end {e:Env} {f g:Fn} {hm:List Int} (h:LOk e f g hm) (hf:Ss.first g.blocks (tabOf hm) (lps f.blocks)=none):g=licF f:=by
 rw [h.first] at hf;have:=aap (wt g+1) hf;rw [<-h.fin]; exact this.symm
theorem LOk.step {e:Env} {f g:Fn} {hm:List Int} (h:LOk e f g hm) {p n i:Nat} (hf:Ss.first g.blocks (tabOf hm) (lps f.blocks)=some (p,n,i)) :
  ∃ (hp:p<g.blocks.length) (hn:n<g.blocks.length) (hi:i<g.blocks[n].code.length) (o:Nat),p≠n/\g.blocks[n].code[i].outs=[(o:Int)]/\o<hm.length/\moveAt g.blocks p n i=(g.blocks.set n (cutAt g.blocks[n] i)).set p (cC g.blocks[p] g.blocks[n].code[i])/\LOk e f (moved g p n i) (hm.set o (p:Int))/\wt (moved g p n i)<wt g:=by
 rw [h.first] at hf;obtain ⟨bp,bn,x,hm',hx,hc,hr⟩:=abx h.chk hf;obtain ⟨s1,s2,s3⟩:=jcu h.chk hf;have hd:=aa3 h.chk;obtain ⟨hp,ep⟩:=ae.1 hm'.hp;obtain ⟨hn,en⟩:=ae.1 hm'.hn;obtain ⟨hi,ei⟩:=ae.1 hm'.hi;have hbm:bn∈g.blocks:=aA hm'.hn;have hxm:x∈bn.code:=aA hm'.hi;obtain ⟨o,ho⟩:=hd.one bn hbm x hxm hx;have hoi:=hd.outs bn hbm x hxm o (by rw [ho]; simp);rw [h.types] at hoi;have heq:=hm'.eq;subst en;subst ep;subst ei;refine ⟨hp,hn,hi,o.toNat,hm'.ne,by rw [ho]; congr 1; have:=hoi.1; omega,by rw [h.len]; have:=hoi.1; have:=hoi.2; omega,heq, ?_,s3⟩;refine ⟨s1,ab6 h.chk h.fits hf,(ac8 h.chk hf).trans h.fin,h.sig,h.types,s2.trans h.succs,by rw [List.length_set]; exact h.len,fun v hv => ?_⟩;have hv2:v∈allL g.blocks:=hm'.all.mem_iff.1 hv;have hvi:=anv hd v hv2;rw [h.types] at hvi
 rw [an1 h.chk hm' s1 v hv2,ho];unfold tabOf
 by_cases e1:v=o
 .subst e1;rw [if_pos (by simp),ag,aX (by rw [h.len]; have:=hvi.1; have:=hvi.2; omega)]; rfl
 .rw [if_neg (by simpa using e1),ag,aQ (by have:=hvi.1; have:=hoi.1; omega), <-ag];exact h.home v hv2
end Ss
namespace Ss
def putLs (i:Int):Nat->List Def->List (List Int)->Option (List Def)
 | _,ds,[]=>some ds
 | j,ds,l::r=>(put i ((j:Int)-1) ds l).bind fun d=>putLs i (j+1) d r
theorem jbT (i:Int) : ∀ (code:List Ins) (k:Nat) (ds:List Def),putLs i (k+1) ds (code.map (·.outs))=putCode i k ds code
 | [],k,ds=>rfl
 | x::r,k,ds=>by
  have e:(((k+1:Nat):Int)-1)=(k:Int):=by omega
  simp only [List.map_cons,putLs,putCode,e]
  congr 1
  funext d
  exact jbT i r (k+1) d
def Block.lists (b:Block):List (List Int):=b.params::b.code.map (·.outs)
theorem ah8 (i:Nat) (ds:List Def) (b:Block):putLs i 0 ds b.lists=(put i (-1) ds b.params).bind fun d=>putCode i 0 d b.code:=by
 simp only [Block.lists,putLs]
 congr 1
 funext d
 exact jbT i b.code 0 d
theorem aqa {i:Int} {j:Nat} {ds:List Def} {ls:List (List Int)} (h:j<ls.length):putLs i j ds (ls.drop j)=(put i ((j:Int)-1) ds ls[j]).bind fun d=>putLs i (j+1) d (ls.drop (j+1)):=by
 rw [am h,putLs]
theorem ao1 {i:Int} {j:Nat} {ds:List Def} {ls:List (List Int)} (h : ¬ j<ls.length):putLs i j ds (ls.drop j)=some ds:=by
 have:ls.drop j=[]:=by rw [aH]; omega
 rw [this,putLs]
end Ss
namespace Go.Vw
open Go.Proofs Go.RowKit
attribute [-simp] List.map_set
def qb (d:Ss.Def):V := .agg [cj (if d.made then d.block else -1),cj (if d.made then d.pos else 0)]
theorem Yc (d:Ss.Def):(qb d).cells=[cj (if d.made then d.block else -1),cj (if d.made then d.pos else 0)]:=rfl
theorem JE (d:Ss.Def):(qb d).closed=true:=rfl
theorem amc (d:Ss.Def):qb d = .agg [cj (if d.made then d.block else -1),cj (if d.made then d.pos else 0)]:=nr rfl
theorem KO (f:Nat->Nat) (l:List Ss.Def):V.renL f (jq qb l)=jq qb l:=KC JE f l
theorem KT (p:Nat->Bool) (l:List Ss.Def):V.idsL p (jq qb l)=true:=KD JE p l
def rdefsV:Option (List Ss.Def)->V
 | some d => .tuple [vl qb d, .bool true]
 | none => .tuple [.list [], .bool false]
theorem axm (f:Ss.Fn) (hf:f.Fits) (hts:f.types.length<=1048576):b8 44 [jM f] (rdefsV (Ss.defsOf f)):=by
 intro S;obtain ⟨_,_,⟨hbl0,hbf⟩⟩:=hf;obtain ⟨⟨fi,fo⟩,ts,bs⟩:=f;simp only at hts hbl0 hbf;have hbl:bs.length<2^63:=by omega
 have htl:ts.length<2^63:=by omega
 generalize hD:Ss.defsOf ⟨⟨fi,fo⟩,ts,bs⟩=D;refine b7 Tryz.func44 Tryz.ntmps44 fun hwf=>?_
 refine QY ?_;refine QY ?_;refine qZ 4 2 rfl (by conv=>lhs; simp [Fr.set]) ?_
 refine bz ?_
 refine bX [1,4,5] (fun c σ S' => ∃ (k:Nat),k<=ts.length/\c=ts.length-k/\σ=[(1, .ptr (lid S.nx 0) 0),(4, .slice (lid S.nx 1) 0 k),(5,cu k)]/\S'=St S [] [some (4,[vl cj fi,vl cj fo,vl cj ts,vl je bs]),some (2,jq qb (List.replicate k ⟨false,0,0⟩))]) ts.length ?_ ?_
 .exact ⟨0,by omega,rfl,by simp [Fr.oy],by simp [jq]⟩
 .rintro c σ T ⟨k,hk,rfl,rfl,rfl⟩
  by_cases hkt:k<ts.length
  .have hw:=jg hkt htl;have hfl2:k*2=(jq qb (List.replicate k ⟨false,0,0⟩)).length:=by rw [JK (enc:=qb) (s:=2) (fun _=>rfl)]; simp
   have hc16:(k+1)*16<=140737488355328:=by omega
   have hc1:k+1<=140737488355328:=by omega
   have hsnoc:jq qb (List.replicate (k+1) ⟨false,0,0⟩)=jq qb (List.replicate k ⟨false,0,0⟩)++[.int .i64 (-1), .int .i64 0]:=by rw [List.replicate_succ',Jl,Yc]; rfl
   repeat first|refine QG ?_|refine QY ?_ (r:=by conv=>lhs;simp[QV,hkt,hfl2,hc16,hc1,rep0])
   refine QA [0,3] (h2:=by simp [KO,KT]) (hl:=by conv=>lhs; simp [KO,KT]) (h:=⟨?_,k+1,hkt,rfl,by simp [hw],by rw [hsnoc]⟩);omega
  .have hke:k=ts.length:=by omega
   subst hke
   refine bD hkt ?_
   refine bX [1,4,6] (fun c σ S' => ∃ (k:Nat) (d:List Ss.Def),k<=bs.length/\c=bs.length-k/\d.length=ts.length/\(∀ x∈d,x.made=true->0<=x.block)/\Ss.cI k d (bs.drop k)=D/\σ=[(1, .ptr (lid S.nx 0) 0),(4, .slice (lid S.nx 1) 0 ts.length),(6,cu k)]/\S'=St S [] [some (4,[vl cj fi,vl cj fo,vl cj ts,vl je bs]),some (2,jq qb d)]) bs.length ?_ ?_
   .exact ⟨0,List.replicate ts.length ⟨false,0,0⟩,by omega,rfl,by simp,by simp,by rw [<-hD]; rfl,by simp [Fr.oy],rfl⟩
   .rintro c σ T ⟨k,d,hk,rfl,hdl,hnn,hpd,rfl,rfl⟩
    by_cases hkt:k<bs.length
    .have hw:=jg hkt hbl;have hst:=WM (ds:=d) hkt;rw [<-Ss.ah8] at hst;have hbk:=hbf _ (ah hkt);obtain ⟨⟨ps,code,⟨tk,ta,to,az⟩⟩,hx⟩ : ∃ b,bs[k]=b:=⟨_,rfl⟩
     rw [hx] at hst hbk;obtain ⟨⟨hpl,_⟩,⟨hcl,hcf⟩,_⟩:=hbk;simp only at hst hpl hcl hcf;obtain ⟨L,hL⟩ : ∃ L,Ss.Block.lists ⟨ps,code,⟨tk,ta,to,az⟩⟩=L:=⟨_,rfl⟩
     rw [hL] at hst;have hLl:L.length=code.length+1:=by rw [<-hL]; simp [Ss.Block.lists]
     refine bF hkt hx ?_
     refine bX [1,4,6,7,8] (fun c σ S' => ∃ (j:Nat) (d:List Ss.Def) (p:Int),j<=L.length/\c=L.length-j/\p=(j:Int)-1/\d.length=ts.length/\(∀ x∈d,x.made=true->0<=x.block)/\((Ss.putLs k j d (L.drop j)).bind fun d=>Ss.cI (k+1) d (bs.drop (k+1)))=D/\σ=[(1, .ptr (lid S.nx 0) 0),(4, .slice (lid S.nx 1) 0 ts.length),(6,cu k),(7, .ptr (lid S.nx 2) 0),(8, .int .i64 p)]/\S'=St S [] [some (4,[vl cj fi,vl cj fo,vl cj ts,vl je bs]),some (2,jq qb d),some (6,[vl cj ps,vl js code,cj tk,cj ta,vl ji to,vl cj az])]) L.length ?_ ?_
     .exact ⟨0,d, -1,by omega,rfl,by omega,hdl,hnn,by rw [<-hpd,hst]; rfl,by simp [Fr.oy],rfl⟩
     .rintro c σ T ⟨j,d,p,hj,rfl,hp,hdl,hnn,hpd,rfl,rfl⟩
      by_cases hjt:j<L.length
      .have hwp:IntKind.i64.wrap (p+1)=p+1:=wrap_i64 (by omega) (by omega);have hpc:p<(code.length:Int):=by omega
       have hst:=Ss.aqa (i:=(k:Int)) (ds:=d) hjt;rw [hst] at hpd;obtain ⟨l,hl⟩ : ∃ l,L[j]=l:=⟨_,rfl⟩
       rw [hl, <-hp] at hpd;have hlen:l.length<2^63:=by
        cases j with
        | zero =>
         have:l=ps:=by rw [<-hl]; simp [<-hL,Ss.Block.lists]
         rw [this]; omega
        | succ m =>
         have hm:m<code.length:=by omega
         have:l=code[m].outs:=by rw [<-hl]; simp [<-hL,Ss.Block.lists]
         have hxf:=hcf _ (ah hm);obtain ⟨_,_,_,hxo,_⟩:=hxf;rw [this]; omega
       refine bD hpc ?_
       refine jaj (fun σ S'=>σ=[(1, .ptr (lid S.nx 0) 0),(4, .slice (lid S.nx 1) 0 ts.length),(6,cu k),(7, .ptr (lid S.nx 2) 0),(8, .int .i64 p),(9,vl cj l)]/\S'=St S [] [some (4,[vl cj fi,vl cj fo,vl cj ts,vl je bs]),some (2,jq qb d),some (6,[vl cj ps,vl js code,cj tk,cj ta,vl ji to,vl cj az])]) [1,4,6,7,8,9] ?_ ?_
       .cases j with
        | zero =>
         obtain rfl:l=ps:=by rw [<-hl]; simp [<-hL,Ss.Block.lists]
         obtain rfl:p = -1:=by omega
         refine bz ?_
         exact ⟨by simp [Fr.oy],by simp⟩
        | succ m =>
         have hm:m<code.length:=by omega
         obtain rfl:p=(m:Int):=by omega
         obtain ⟨⟨o1,o2,o3,o4⟩,hxm⟩ : ∃ x,code[m]=x:=⟨_,rfl⟩
         obtain rfl:l=o4:=by
          have:l=code[m].outs:=by rw [<-hl]; simp [<-hL,Ss.Block.lists]
          rw [this,hxm]
         refine bF hm hxm ?_
         exact ⟨by simp [Fr.oy],by simp⟩
       rintro σ S' ⟨rfl,rfl⟩
       refine bz ?_
       refine bX [1,4,6,7,8,9,10] (fun c σ S' => ∃ (m:Nat) (d2:List Ss.Def),m<=l.length/\c=l.length-m/\d2.length=ts.length/\(∀ x∈d2,x.made=true->0<=x.block)/\(((Ss.put k p d2 (l.drop m)).bind fun d=>Ss.putLs k (j+1) d (L.drop (j+1))).bind fun d=>Ss.cI (k+1) d (bs.drop (k+1)))=D/\σ=[(1, .ptr (lid S.nx 0) 0),(4, .slice (lid S.nx 1) 0 ts.length),(6,cu k),(7, .ptr (lid S.nx 2) 0),(8, .int .i64 p),(9,vl cj l),(10,cu m)]/\S'=St S [] [some (4,[vl cj fi,vl cj fo,vl cj ts,vl je bs]),some (2,jq qb d2),some (6,[vl cj ps,vl js code,cj tk,cj ta,vl ji to,vl cj az])]) l.length ?_ ?_
       .exact ⟨0,d,by omega,rfl,hdl,hnn,hpd,by simp [Fr.oy],rfl⟩
       .rintro c σ T ⟨m,d2,hm,rfl,hdl,hnn,hpd,rfl,rfl⟩
        by_cases hmt:m<l.length
        .have hwm:=jg hmt hlen;have hst:Ss.put k p d2 (l.drop m)=if l[m]<0\/(d2.length:Int)<=l[m]\/(d2.getD l[m].toNat default).made=true then none else Ss.put k p (d2.set l[m].toNat ⟨true,k,p⟩) (l.drop (m+1)):=by rw [am hmt,Ss.put]
         obtain ⟨v,hxv⟩ : ∃ v,l[m]=v:=⟨_,rfl⟩
         rw [hxv] at hst;have bad:(v<0\/(d2.length:Int)<=v\/(d2.getD v.toNat default).made=true)->D=none:=fun hb=>by rw [<-hpd,hst,if_pos hb]; rfl
         by_cases q1:v<0
         .refine bG hmt hxv q1 ?_
          obtain rfl:=bad (.inl q1);exact jf hwf ((Ghost.tp [] [_] (Ghost.nl _)).toB _) rfl
         obtain ⟨n,rfl⟩ : ∃ n:Nat,v=n:=⟨v.toNat,by omega⟩
         by_cases q2:n<d2.length
         case neg =>
          have q2':(ts.length:Int)<=(n:Int):=by omega
          obtain rfl:=bad (.inr (.inl (by omega)))
          refine bH hmt hxv q1 q2' ?_
          exact jf hwf ((Ghost.tp [] [_] (Ghost.nl _)).toB _) rfl
         have q2' : ¬ (ts.length:Int)<=(n:Int):=by omega
         obtain ⟨⟨dm,db,dp⟩,hdx⟩ : ∃ x,d2[n]=x:=⟨_,rfl⟩
         have hdg:d2.getD (n:Int).toNat default=⟨dm,db,dp⟩:=by simp [q2,hdx]
         have hcell:(jq qb d2)[n*2]? = some (cj (if dm then db else -1)):=WZ (enc:=qb) (s:=2) (fun _=>rfl) d2 n 0 ⟨dm,db,dp⟩ _ (by rw [<-hdx]; exact ac q2) rfl;have hfl:(jq qb d2).length=d2.length*2:=JK (enc:=qb) (s:=2) (fun _=>rfl) d2;have hn2:n<ts.length:=by omega
         by_cases q3:dm=true
         .obtain rfl:=bad (.inr (.inr (by rw [hdg]; exact q3)));subst q3;have hb0:0<=db:=by
           have:=hnn _ (ah q2);rw [hdx] at this;exact this rfl
          repeat first|refine QG ?_|refine QY ?_ (r:=by conv=>lhs;simp[QV,hmt,hxv,q1,q2',hcell,hn2,hb0])
          exact jf hwf ((Ghost.tp [] [_] (Ghost.nl _)).toB _) rfl
         .obtain rfl:dm=false:=by simpa using q3
          have hfit:n*2+2<=(jq qb d2).length:=by omega
          rw [if_neg (by rw [hdg]; rintro (h | h | h)<;>first | exact q1 h | exact q3 h | omega)] at hst;have hfs:=jaW (enc:=qb) (s:=2) (fun _=>rfl) ⟨true,k,p⟩ d2 n q2
          repeat first|refine QG ?_|refine QY ?_ (r:=by conv=>lhs;simp[QV,hmt,hxv,q1,q2',hcell,hn2,hfit])
          show jx _ _ _ _ _ _ _;exact again ⟨ao hmt (aW m),m+1,d2.set n ⟨true,k,p⟩,hmt,rfl,by simp [hdl],fun x hx hm=>(List.mem_or_eq_of_mem_set hx).elim (fun h=>hnn x h hm) (fun h=>by rw [h]; simp),by rw [<-hpd,hst]; rfl,by simp [Fr.oy,hwm],by rw [hfs]; simp [Yc]⟩
        .have e1:l.drop m=[]:=by rw [aH]; omega
         rw [e1] at hpd;have hpd2:((Ss.putLs k (j+1) d2 (L.drop (j+1))).bind fun d=>Ss.cI (k+1) d (bs.drop (k+1)))=D:=hpd
         refine bF hmt hwp ?_
         show jx _ _ _ _ _ _ _;exact again ⟨ao hjt (aW j),j+1,d2,p+1,hjt,rfl,by omega,hdl,hnn,hpd2,by simp [Fr.oy,hwp],rfl⟩
      .have hpc : ¬ p<(code.length:Int):=by omega
       rw [Ss.ao1 hjt] at hpd;simp only [Option.bind_some] at hpd
       refine bD hpc ?_
       refine QA [0,1] (h2:=by simp [KO,KT]) (hl:=by conv=>lhs; simp [KO,KT]) (h:=⟨?_,k+1,d,hkt,rfl,hdl,hnn,hpd,by simp [hw],by simp⟩);omega
    .refine bD hkt ?_
     have e1:bs.drop k=[]:=by rw [aH]; omega
     rw [e1] at hpd;have hpe:D=some d:=by rw [<-hpd]; rfl
     subst hpe;have hfz:=aej (B:=S) (u:=[]) (l:=[some (4,[vl cj fi,vl cj fo,vl cj ts,vl je bs]),some (2,jq qb d)]) (k:=1) (enc:=qb) (s:=2) (fun _=>rfl) JE d (by simp) (by rfl);rw [hdl] at hfz;exact jf hwf ((Ghost.tp [] [_] hfz).toB _) rfl
end Go.Vw
namespace Ev
def valsI (v:List Int) (l:List Int):List Int:=l.map fun i=>v.getD i.toNat 0
end Ev
namespace Go.Vw
open Go.Proofs Go.RowKit
theorem jm (f:Nat->Nat) (l:List Int):V.renL f (l.map vu)=l.map vu:=by
 induction l with
 | nil=>rfl
 | cons x l ih=>simp only [List.map_cons,V.renL,ih]; rfl
theorem jp (p:Nat->Bool) (l:List Int):V.idsL p (l.map vu)=true:=by
 induction l with
 | nil=>rfl
 | cons x l ih=>simp only [List.map_cons,V.idsL,ih]; rfl
end Go.Vw
namespace Go.Vw
open Go.Proofs Go.RowKit
attribute [-simp] List.map_set
theorem avo (t:Int):b8 85 [cj t] (.bool (Ss.isKind t)):=by
 intro S;refine b7 Tryz.func85 Tryz.ntmps85 fun hwf=>?_
 by_cases h:t=127
 .refine bD h ?_
  exact ja hwf (by simp [Ss.isKind,h]) rfl
 .refine bD h ?_
  exact ja hwf (by simp [Ss.isKind,h]) rfl
theorem ZN (most:Nat) (l:List Int) (hl:l.length<2^63):b8 42 [vl cj l,cu most] (.bool (Ss.kinds most l)):=by
 intro S
 by_cases h:l.length<=most
 case neg =>
  have h':(most:Int)<(l.length:Int):=by omega
  have hX:Ss.kinds most l=false:=by simp [Ss.kinds,h]
  rw [hX];refine b7 Tryz.func42 Tryz.ntmps42 fun hwf=>?_
  refine bF h h' ?_
  exact bS
 have h' : ¬ (most:Int)<(l.length:Int):=by omega
 have hX:Ss.kinds most l=l.all Ss.isKind:=by simp [Ss.kinds,h]
 rw [hX];refine b7 Tryz.func42 Tryz.ntmps42 fun hwf=>?_
 refine bF h h' ?_
 refine bX [0,5] (fun c σ S' => ∃ (k:Nat),k<=l.length/\c=l.length-k/\(l.drop k).all Ss.isKind=l.all Ss.isKind/\σ=[(0,vl cj l),(5,cu k)]/\S'=St S [] []) l.length ?_ ?_
 .exact ⟨0,by omega,rfl,rfl,by simp [Fr.oy],rfl⟩
 .rintro c σ T ⟨k,hk,rfl,hd,rfl,rfl⟩
  by_cases hkt:k<l.length
  .have hst:=Ss.aas Ss.isKind hkt;have hw:=jg hkt hl
   refine bD hkt ?_
   refine bN hkt ?_;refine QL (avo l[k]) ?_;generalize Ss.isKind l[k]=z at *
   by_cases hz:z=true
   .refine bJ hz ?_;refine QN ?_
    refine bF hw hkt ?_
    show jx _ _ _ _ _ _ _;exact again ⟨by omega,k+1,by omega,rfl,by rw [<-hd,hst,hz,aE],by simp [Fr.oy],rfl⟩
   .have hz':z=false:=by simpa using hz
    refine bJ hz' ?_;refine bW ?_
    rw [<-hd,hst,hz',aV];exact bS
  .refine bD hkt ?_
   rw [<-hd,Ss.aai _ hkt];exact bS
theorem ao0 (s:Ss.Sig) (hs:s.Fits):b8 43 [jn s] (.bool s.right):=by
 intro S;obtain ⟨⟨h1,_⟩,⟨h2,_⟩⟩:=hs;obtain ⟨a,b⟩:=s;simp only at h1 h2;have hX:Ss.Sig.right ⟨a,b⟩=(Ss.kinds 8 a&&Ss.kinds 8 b):=rfl;rw [hX];have c1:b8 42 [vl cj a, .int .i64 8] (.bool (Ss.kinds 8 a)):=ZN 8 a (by omega);have c2:b8 42 [vl cj b, .int .i64 8] (.bool (Ss.kinds 8 b)):=ZN 8 b (by omega);generalize Ss.kinds 8 a=x at *
 generalize Ss.kinds 8 b=y at *
 refine b7 Tryz.func43 Tryz.ntmps43 fun hwf=>?_
 refine bz ?_
 refine QP ?_;refine QL (c1) ?_
 by_cases hx:x=true
 .refine bJ hx ?_;refine QL (c2) ?_;refine bV ?_
  exact ja hwf (by simp [hx]) rfl
 .have hx':x=false:=by simpa using hx
  refine bJ hx' ?_;refine bW ?_
  exact ja hwf (by simp [hx']) rfl
theorem WA (e:Ss.Env) (he:e.Fits):b8 41 [qQ e] (.bool e.right):=by
 intro S;obtain ⟨⟨h1,h2⟩,_,⟨h4,_⟩,h5⟩:=he;obtain ⟨sg,im,gl,mu,me⟩:=e;simp only at h1 h2 h4 h5;have hX:Ss.Env.right ⟨sg,im,gl,mu,me⟩=(decide (0<=im)&&decide (im<=sg.length)&&decide (sg.length<=64)&&decide (mu.length=gl.length)&&Ss.kinds 32 gl&&sg.all Ss.Sig.right):=rfl;rw [hX];have c1:b8 42 [vl cj gl, .int .i64 32] (.bool (Ss.kinds 32 gl)):=ZN 32 gl (by omega);generalize Ss.kinds 32 gl=x at *
 refine b7 Tryz.func41 Tryz.ntmps41 fun hwf=>?_
 by_cases k3:(64:Int)<(sg.length:Int)
 .refine bD k3 ?_
  exact ja hwf (by simp; omega) rfl
 by_cases k1:im<0
 .refine bF k1 k3 ?_
  exact ja hwf (by simp; omega) rfl
 by_cases k2:(sg.length:Int)<im
 .refine bG k1 k2 k3 ?_
  exact ja hwf (by simp; omega) rfl
 refine bG k1 k2 k3 ?_
 refine QP ?_ (r:=by conv=>lhs;simp[QV,k1,k2,k3]);refine QL (c1) ?_
 by_cases hx:x=true
 case neg =>
  have hx':x=false:=by simpa using hx
  refine bJ hx' ?_;refine bW ?_
  exact ja hwf (by simp [hx']) rfl
 by_cases k4:mu.length=gl.length
 case neg =>
  have k4' : ¬ (mu.length:Int)=(gl.length:Int):=by omega
  refine bM hx k4 k4' ?_;refine bW ?_
  exact ja hwf (by simp [k4]) rfl
 have k4':(mu.length:Int)=(gl.length:Int):=by omega
 have hp:(decide (0<=im)&&decide (im<=sg.length)&&decide (sg.length<=64)&&decide (mu.length=gl.length))=true:=by simp [k4]; omega
 rw [hp,hx];refine bM hx k4 k4' ?_;refine bW ?_
 have hl:sg.length<2^63:=by omega
 rw [aE,aE];refine bX [1,3] (fun c σ S' => ∃ (k:Nat),k<=sg.length/\c=sg.length-k/\(sg.drop k).all Ss.Sig.right=sg.all Ss.Sig.right/\σ=[(1, .ptr (lid S.nx 0) 0),(3,cu k)]/\S'=St S [] [some (5,[vl jn sg,cj im,vl cj gl,vl V.bool mu, .bool me])]) sg.length ?_ ?_
 .exact ⟨0,by omega,rfl,rfl,by simp [Fr.oy],rfl⟩
 .rintro c σ T ⟨k,hk,rfl,hd,rfl,rfl⟩
  by_cases hkt:k<sg.length
  .have hst:=Ss.aas Ss.Sig.right hkt;have hw:=jg hkt hl;have c2:=ao0 sg[k] (h2 _ (ah hkt));generalize hz0:Ss.Sig.right sg[k]=z at *
   obtain ⟨⟨a,b⟩,hb⟩ : ∃ s,sg[k]=s:=⟨_,rfl⟩
   rw [hb] at c2;have c2':b8 43 [.agg [vl cj a,vl cj b]] (.bool z):=c2
   refine bD hkt ?_
   refine bQ hkt hb ?_;refine QL (c2') ?_
   by_cases hz:z=true
   .refine bJ hz ?_;refine QN ?_
    refine bF hw hkt ?_
    show jx _ _ _ _ _ _ _;exact again ⟨by omega,k+1,by omega,rfl,by rw [<-hd,hst,hz,aE],by simp [Fr.oy],rfl⟩
   .have hz':z=false:=by simpa using hz
    refine bJ hz' ?_;refine bW ?_
    rw [<-hd,hst,hz',aV];exact bS
  .refine bD hkt ?_
   rw [<-hd,Ss.aai _ hkt];exact bS
end Go.Vw
namespace Ev
def holds (kinds:List Int) (memory:Bool) (s:State):Bool :=
 !(!decide ((s.mem.length:Int).tmod 256=0)||decide (s.most<s.mem.length)||decide (4096<s.most)||(!memory && !decide (s.most=0)))&&(!(!decide (s.globals.length=kinds.length)||decide (s.fuel<0)||decide (1024<s.fuel)||decide (4096<s.input.length)||decide (4096<s.log.length))&&fitsL kinds s.globals)
structure StFits (s:State):Prop where
 mem:Go.Vw.byteL s.mem
 most : -9223372036854775808<=s.most/\s.most<9223372036854775808
 globals:words s.globals
 fuel : -9223372036854775808<=s.fuel/\s.fuel<9223372036854775808
 input:words s.input
 log:words s.log
end Ev
namespace Go.Vw
open Go.Proofs Go.RowKit
attribute [-simp] List.map_set
theorem aq7 (kinds:List Int) (memory:Bool) (s:Ev.State) (hk:kinds.length<2^62) (hs:Ev.StFits s):b8 122 [vl cj kinds, .bool memory,qe s] (.bool (Ev.holds kinds memory s)):=by
 intro S;obtain ⟨⟨hm,_⟩,_,⟨hg,_⟩,_,⟨hin,_⟩,⟨hlg,_⟩⟩:=hs;obtain ⟨mem,most,gl,fuel,inp,log⟩:=s;simp only at hm hg hin hlg;have henc:qe ⟨mem,most,gl,fuel,inp,log⟩ = .agg [vl vby mem,cj most,vl vu gl,cj fuel,vl vu inp,vl vu log]:=rfl;rw [henc];obtain ⟨b1,hb1⟩ : ∃ b,b=(!decide ((mem.length:Int).tmod 256=0)||decide (most<mem.length)||decide (4096<most)||(!memory && !decide (most=0))):=⟨_,rfl⟩
 obtain ⟨b2,hb2⟩ : ∃ b,b=(!decide (gl.length=kinds.length)||decide (fuel<0)||decide (1024<fuel)||decide (4096<inp.length)||decide (4096<log.length)):=⟨_,rfl⟩
 have hX:Ev.holds kinds memory ⟨mem,most,gl,fuel,inp,log⟩=(!b1&&(!b2&&Ev.fitsL kinds gl)):=by rw [hb1,hb2]; rfl
 rw [hX]
 by_cases c1 : ¬ (mem.length:Int).tmod 256=0
 .skip
  have e:b1=true:=by rw [hb1]; simp [c1]
  rw [e];simp only [Bool.not_true,aV,Bool.and_false];refine b7 Tryz.func122 Tryz.ntmps122 fun hwf=>?_
  refine QY ?_;refine QH 5 0 ?_
  refine bD c1 ?_
  exact ja (X := .bool false) hwf (by simp) rfl
 have c1:(mem.length:Int).tmod 256=0:=Decidable.not_not.1 c1
 by_cases c2:most<(mem.length:Int)
 .skip
  have e:b1=true:=by rw [hb1]; simp [c1,c2]
  rw [e];simp only [Bool.not_true,aV,Bool.and_false];refine b7 Tryz.func122 Tryz.ntmps122 fun hwf=>?_
  refine QY ?_;refine QH 5 0 ?_
  refine bF c1 c2 ?_
  exact ja (X := .bool false) hwf (by simp) rfl
 by_cases c3:4096<most
 .skip
  have e:b1=true:=by rw [hb1]; simp [c1,c2,c3]
  rw [e];simp only [Bool.not_true,aV,Bool.and_false];refine b7 Tryz.func122 Tryz.ntmps122 fun hwf=>?_
  refine QY ?_;refine QH 5 0 ?_
  refine bG c1 c2 c3 ?_
  exact ja (X := .bool false) hwf (by simp) rfl
 by_cases c4:memory=false /\ ¬ most=0
 .obtain ⟨rfl,c4⟩:=c4;have e:b1=true:=by rw [hb1]; simp [c1,c2,c3,c4]
  rw [e];simp only [Bool.not_true,aV,Bool.and_false];refine b7 Tryz.func122 Tryz.ntmps122 fun hwf=>?_
  refine QY ?_;refine QH 5 0 ?_
  refine bH c1 c2 c3 c4 ?_
  exact ja (X := .bool false) hwf (by simp) rfl
 have eb1:b1=false:=by
  rw [hb1]
  cases memory with
  | true=>simp [c1,c2,c3]
  | false =>
   have h0:most=0:=Decidable.not_not.1 fun h=>c4 ⟨rfl,h⟩
   simp only [bv c1,bw c2,bw c3,bv h0]; rfl
 obtain ⟨f1,f2,hf⟩ : ∃ (f1:Bool) (f2:memory=false->(most=0)=True),True:=⟨true,fun h=>eq_true (Decidable.not_not.1 fun h2=>c4 ⟨h,h2⟩),trivial⟩
 by_cases d1 : ¬ gl.length=kinds.length
 .have dI : ¬ (gl.length:Int)=(kinds.length:Int):=by omega
  have e:b2=true:=by rw [hb2]; simp [d1]
  rw [eb1,e];simp only [Bool.not_true,aV,Bool.and_false,Bool.not_false]
  cases memory with
  | true =>
   refine b7 Tryz.func122 Tryz.ntmps122 fun hwf=>?_
   refine QY ?_;refine QH 5 0 ?_
   refine bO c1 c2 c3 d1 dI ?_
   exact ja (X := .bool false) hwf (by simp) rfl
  | false =>
   have c5:=f2 rfl;refine b7 Tryz.func122 Tryz.ntmps122 fun hwf=>?_
   refine QY ?_;refine QH 5 0 ?_
   refine bB c1 c2 c3 c5 d1 dI ?_
   exact ja (X := .bool false) hwf (by simp) rfl
 have d1:gl.length=kinds.length:=Decidable.not_not.1 d1;have dI:(gl.length:Int)=(kinds.length:Int):=by omega
 by_cases d2:fuel<0
 .skip
  have e:b2=true:=by rw [hb2]; simp [d1,d2]
  rw [eb1,e];simp only [Bool.not_true,aV,Bool.and_false,Bool.not_false]
  cases memory with
  | true =>
   refine b7 Tryz.func122 Tryz.ntmps122 fun hwf=>?_
   refine QY ?_;refine QH 5 0 ?_
   refine bB c1 c2 c3 d1 dI d2 ?_
   exact ja (X := .bool false) hwf (by simp) rfl
  | false =>
   have c5:=f2 rfl;refine b7 Tryz.func122 Tryz.ntmps122 fun hwf=>?_
   refine QY ?_;refine QH 5 0 ?_
   repeat first|refine QG ?_|refine QY ?_ (r:=by conv=>lhs;simp[QV,c1,c2,c3,c5,d1,dI,d2])
   exact ja (X := .bool false) hwf (by simp) rfl
 by_cases d3:1024<fuel
 .skip
  have e:b2=true:=by rw [hb2]; simp [d1,d2,d3]
  rw [eb1,e];simp only [Bool.not_true,aV,Bool.and_false,Bool.not_false]
  cases memory with
  | true =>
   refine b7 Tryz.func122 Tryz.ntmps122 fun hwf=>?_
   refine QY ?_;refine QH 5 0 ?_
   repeat first|refine QG ?_|refine QY ?_ (r:=by conv=>lhs;simp[QV,c1,c2,c3,d1,d2,dI,d3])
   exact ja (X := .bool false) hwf (by simp) rfl
  | false =>
   have c5:=f2 rfl;refine b7 Tryz.func122 Tryz.ntmps122 fun hwf=>?_
   refine QY ?_;refine QH 5 0 ?_
   repeat first|refine QG ?_|refine QY ?_ (r:=by conv=>lhs;simp[QV,c1,c2,c3,c5,d1,d2,dI,d3])
   exact ja (X := .bool false) hwf (by simp) rfl
 by_cases d4:4096<inp.length
 .have d4I:(4096:Int)<(inp.length:Int):=by omega
  have e:b2=true:=by rw [hb2]; simp [d1,d2,d3,d4]
  rw [eb1,e];simp only [Bool.not_true,aV,Bool.and_false,Bool.not_false]
  cases memory with
  | true =>
   refine b7 Tryz.func122 Tryz.ntmps122 fun hwf=>?_
   refine QY ?_;refine QH 5 0 ?_
   repeat first|refine QG ?_|refine QY ?_ (r:=by conv=>lhs;simp[QV,c1,c2,c3,d1,d2,d3,dI,d4,d4I])
   exact ja (X := .bool false) hwf (by simp) rfl
  | false =>
   have c5:=f2 rfl;refine b7 Tryz.func122 Tryz.ntmps122 fun hwf=>?_
   refine QY ?_;refine QH 5 0 ?_
   repeat first|refine QG ?_|refine QY ?_ (r:=by conv=>lhs;simp[QV,c1,c2,c3,c5,d1,d2,d3,dI,d4,d4I])
   exact ja (X := .bool false) hwf (by simp) rfl
 have d4I : ¬ (4096:Int)<(inp.length:Int):=by omega
 by_cases d5:4096<log.length
 .have d5I:(4096:Int)<(log.length:Int):=by omega
  have e:b2=true:=by rw [hb2]; simp [d1,d2,d3,d4,d5]
  rw [eb1,e];simp only [Bool.not_true,aV,Bool.and_false,Bool.not_false]
  cases memory with
  | true =>
   refine b7 Tryz.func122 Tryz.ntmps122 fun hwf=>?_
   refine QY ?_;refine QH 5 0 ?_
   repeat first|refine QG ?_|refine QY ?_ (r:=by conv=>lhs;simp[QV,c1,c2,c3,d1,d2,d3,d4,d4I,dI,d5,d5I])
   exact ja (X := .bool false) hwf (by simp) rfl
  | false =>
   have c5:=f2 rfl;refine b7 Tryz.func122 Tryz.ntmps122 fun hwf=>?_
   refine QY ?_;refine QH 5 0 ?_
   repeat first|refine QG ?_|refine QY ?_ (r:=by conv=>lhs;simp[QV,c1,c2,c3,c5,d1,d2,d3,d4,d4I,dI,d5,d5I])
   exact ja (X := .bool false) hwf (by simp) rfl
 have d5I : ¬ (4096:Int)<(log.length:Int):=by omega
 have eb2:b2=false:=by rw [hb2]; simp [d1,d2,d3,d4,d5]
 rw [eb1,eb2];simp only [Bool.not_false,aE];obtain ⟨mm,hmm⟩ : ∃ mm:Bool,mm=memory:=⟨_,rfl⟩
 cases memory with
 | true =>
  refine b7 Tryz.func122 Tryz.ntmps122 fun hwf=>?_
  refine QY ?_;refine QH 5 0 ?_
  repeat first|refine QG ?_|refine QY ?_ (r:=by conv=>lhs;simp[QV,c1,c2,c3,d1,dI,d2,d3,d4,d4I,d5,d5I])
  refine bX [0,5,7] (fun c σ S' => ∃ (k:Nat),k<=kinds.length/\c=kinds.length-k/\Ev.fitsL (kinds.drop k) (gl.drop k)=Ev.fitsL kinds gl/\σ=[(0,vl cj kinds),(5,(V.agg [vl vby mem,cj most,vl vu gl,cj fuel,vl vu inp,vl vu log]).ref),(7,cu k)]/\S'=St S [] [none]) kinds.length ?_ ?_
  .exact ⟨0,by omega,rfl,rfl,by simp [Fr.oy,Fr.lk],by simp⟩
  .rintro c σ T ⟨k,hk',rfl,hd,rfl,rfl⟩
   by_cases hkt:k<kinds.length
   .have hw:=jg hkt (by omega);have hka:k<gl.length:=by omega
    rw [Ev.aby hkt hka] at hd;have cf:=jbp kinds[k] gl[k];have hfe:Ev.fits kinds[k] gl[k]=(decide (kinds[k]=126)||(decide (kinds[k]=127)&&decide (gl[k]<4294967296))):=rfl;rw [<-hfe] at cf;obtain ⟨b,hb⟩ : ∃ b,b=Ev.fits kinds[k] gl[k]:=⟨_,rfl⟩
    rw [<-hb] at cf hd;obtain ⟨x,hx⟩ : ∃ x,kinds[k]=x:=⟨_,rfl⟩
    obtain ⟨y,hy⟩ : ∃ y,gl[k]=y:=⟨_,rfl⟩
    rw [hx,hy] at cf
    cases b with
    | true =>
     rw [aE] at hd
     refine bD hkt ?_
     refine bY (r:=by conv=>lhs;simp[QV,hkt,hka,hx,hy]) (k:=?_);refine QL cf ?_;refine QW ?_
     refine bD hw ?_
     show jx _ _ _ _ _ _ _;exact again ⟨ao hkt (aW k),k+1,hkt,rfl,hd,by simp [Fr.oy,Fr.lk],rfl⟩
    | false =>
     rw [aV] at hd;rw [<-hd]
     refine bD hkt ?_
     refine bY (r:=by conv=>lhs;simp[QV,hkt,hka,hx,hy]) (k:=?_);refine QL cf ?_;refine bV ?_
     exact ja (X := .bool false) hwf (by simp) rfl
   .rw [Ev.ab8 hkt (by omega)] at hd;rw [<-hd]
    refine bD hkt ?_
    exact ja (X := .bool true) hwf (by simp) rfl
 | false =>
  have c5:=f2 rfl;refine b7 Tryz.func122 Tryz.ntmps122 fun hwf=>?_
  refine QY ?_;refine QH 5 0 ?_
  repeat first|refine QG ?_|refine QY ?_ (r:=by conv=>lhs;simp[QV,c1,c2,c3,c5,d1,dI,d2,d3,d4,d4I,d5,d5I])
  refine bX [0,5,7] (fun c σ S' => ∃ (k:Nat),k<=kinds.length/\c=kinds.length-k/\Ev.fitsL (kinds.drop k) (gl.drop k)=Ev.fitsL kinds gl/\σ=[(0,vl cj kinds),(5,(V.agg [vl vby mem,cj most,vl vu gl,cj fuel,vl vu inp,vl vu log]).ref),(7,cu k)]/\S'=St S [] [none]) kinds.length ?_ ?_
  .exact ⟨0,by omega,rfl,rfl,by simp [Fr.oy,Fr.lk],by simp⟩
  .rintro c σ T ⟨k,hk',rfl,hd,rfl,rfl⟩
   by_cases hkt:k<kinds.length
   .have hw:=jg hkt (by omega);have hka:k<gl.length:=by omega
    rw [Ev.aby hkt hka] at hd;have cf:=jbp kinds[k] gl[k];have hfe:Ev.fits kinds[k] gl[k]=(decide (kinds[k]=126)||(decide (kinds[k]=127)&&decide (gl[k]<4294967296))):=rfl;rw [<-hfe] at cf;obtain ⟨b,hb⟩ : ∃ b,b=Ev.fits kinds[k] gl[k]:=⟨_,rfl⟩
    rw [<-hb] at cf hd;obtain ⟨x,hx⟩ : ∃ x,kinds[k]=x:=⟨_,rfl⟩
    obtain ⟨y,hy⟩ : ∃ y,gl[k]=y:=⟨_,rfl⟩
    rw [hx,hy] at cf
    cases b with
    | true =>
     rw [aE] at hd
     refine bD hkt ?_
     refine bY (r:=by conv=>lhs;simp[QV,hkt,hka,hx,hy]) (k:=?_);refine QL cf ?_;refine QW ?_
     refine bD hw ?_
     show jx _ _ _ _ _ _ _;exact again ⟨ao hkt (aW k),k+1,hkt,rfl,hd,by simp [Fr.oy,Fr.lk],rfl⟩
    | false =>
     rw [aV] at hd;rw [<-hd]
     refine bD hkt ?_
     refine bY (r:=by conv=>lhs;simp[QV,hkt,hka,hx,hy]) (k:=?_);refine QL cf ?_;refine bV ?_
     exact ja (X := .bool false) hwf (by simp) rfl
   .rw [Ev.ab8 hkt (by omega)] at hd;rw [<-hd]
    refine bD hkt ?_
    exact ja (X := .bool true) hwf (by simp) rfl
theorem aul (e:Ss.Env) (s:Ev.State) (he:e.Fits) (hs:Ev.StFits s):b8 90 [qQ e,qe s] (.bool (Ev.holds e.globals e.mem s)):=by
 intro S;have ch:=aq7 e.globals e.mem s (by have:=he.2.2.1; simp only [Ss.Ints] at this; omega) hs;generalize Ev.holds e.globals e.mem s=b at *
 clear he hs;obtain ⟨sg,im,gl,mu,me⟩:=e;obtain ⟨mem,most,glb,fuel,inp,log⟩:=s;simp only at ch;have ch':b8 122 [vl cj gl, .bool me, .agg [vl vby mem,cj most,vl vu glb,cj fuel,vl vu inp,vl vu log]] (.bool b):=ch;have h1:qQ ⟨sg,im,gl,mu,me⟩ = .agg [vl jn sg,cj im,vl cj gl,vl V.bool mu, .bool me]:=rfl;have h2:qe ⟨mem,most,glb,fuel,inp,log⟩ = .agg [vl vby mem,cj most,vl vu glb,cj fuel,vl vu inp,vl vu log]:=rfl;rw [h1,h2];refine b7 Tryz.func90 Tryz.ntmps90 fun hwf=>?_
 refine QY ?_;refine QH 2 0 ?_;refine QH 3 1 ?_;refine QP ?_;refine QL (ch') ?_;refine bV ?_
 exact ja (X := .bool b) hwf (by simp) rfl
theorem avv (e:Ss.Env) (s:Ev.State) (he:e.Fits) (hs:Ev.StFits s):b8 53 [qQ e,qe s] (.bool (e.right&&Ev.holds e.globals e.mem s)):=by
 intro S;have c1:=WA e he;have c2:=aul e s he hs;generalize Ev.holds e.globals e.mem s=b at *
 generalize e.right=a at *
 clear he hs;obtain ⟨sg,im,gl,mu,me⟩:=e;obtain ⟨mem,most,glb,fuel,inp,log⟩:=s;have h1:qQ ⟨sg,im,gl,mu,me⟩ = .agg [vl jn sg,cj im,vl cj gl,vl V.bool mu, .bool me]:=rfl;have h2:qe ⟨mem,most,glb,fuel,inp,log⟩ = .agg [vl vby mem,cj most,vl vu glb,cj fuel,vl vu inp,vl vu log]:=rfl;rw [h1] at c1 c2 ⊢;rw [h2] at c2 ⊢;refine b7 Tryz.func53 Tryz.ntmps53 fun hwf=>?_
 refine QY ?_;refine QH 2 0 ?_;refine QH 3 1 ?_;refine QP ?_;refine QL (c1) ?_
 cases a with
 | false =>
  refine bV ?_
  exact ja (X := .bool false) hwf (by simp) rfl
 | true =>
  refine QZ ?_;refine QL (c2) ?_;refine bV ?_
  exact ja (X := .bool b) hwf (by simp) (by simp)
theorem awc (m:List Int) (most pages:Int) (hm:byteL m) (hm1 : -9223372036854775808<=most) (hm2:most<9223372036854775808) (hp:Ev.U64 pages) : ∃ (m':List Int) (n:Int),b8 152 [vl vby m,cj most,vu pages] (.tuple [vl vby m',vu n])/\byteL m'/\m.length<=m'.length/\0<=n/\n<4294967296/\(m.length<=4096->m'.length<=4096):=by
 obtain ⟨hl,hby⟩:=hm;obtain ⟨p0,p1⟩:=hp;have hb8:m.length*1<=140737488355328:=by omega
 have hcl : ∀ l:List Int,(l.map vby).all V.cG=true:=fun l=>jo vby (fun _=>rfl) l
 have hap : ∀ S,jU 1 1 S .nils (vl vby m)=some (.slice S.nx 0 m.length,S.add (1,m.map vby)):=fun S=>by
  have:=zS (S:=S) (s:=1) (b:=1) (xs:=m.map vby) (fun x hx=>by
   obtain ⟨y,_,rfl⟩:=bi.1 hx
   rfl) (by rw [aI]; omega) (by rw [aI]; omega)
  rw [jct,aI] at this;exact this
 by_cases c1:(m.length:Int).tmod 256=0
 .by_cases c2:16<pages
  .refine ⟨m,4294967295,fun S => ?_,⟨hl,hby⟩,a9 _,by omega,by omega,fun h=>h⟩;refine b7 Tryz.func152 Tryz.ntmps152 fun hwf=>?_
   refine QY ?_;refine bR hap ?_
   refine bF c1 c2 ?_
   exact jf hwf ((Ghost.tp [] [_] (frz1 (k:=0) (by simp) (by rfl) (hcl m) (by simp))).toB _) rfl
  .obtain ⟨k,rfl⟩ : ∃ k:Nat,pages=(k:Int):=⟨pages.toNat,by omega⟩
   have w1:IntKind.i64.wrap (k:Int)=(k:Int):=wrap_i64 (by omega) (by omega);have w2:IntKind.i64.wrap ((k:Int)*256)=(k:Int)*256:=wrap_i64 (by omega) (by omega);have w3:IntKind.i64.wrap ((m.length:Int)+(k:Int)*256)=(m.length:Int)+(k:Int)*256:=wrap_i64 (by omega) (by omega);obtain ⟨q,hq⟩ : ∃ q,q=(if 4096<most then 4096 else most):=⟨_,rfl⟩
   have hmin:jcS (.int .i64 most) (.int .i64 4096)=some (.int .i64 q):=by rw [hq]; simp [jcS]
   by_cases c3:q<(m.length:Int)+(k:Int)*256
   .refine ⟨m,4294967295,fun S => ?_,⟨hl,hby⟩,a9 _,by omega,by omega,fun h=>h⟩;refine b7 Tryz.func152 Tryz.ntmps152 fun hwf=>?_
    refine QY ?_;refine bR hap ?_
    repeat first|refine QG ?_|refine QY ?_ (r:=by conv=>lhs;simp[QV,c1,c2,w1,w2,w3,hmin,c3])
    exact jf hwf ((Ghost.tp [] [_] (frz1 (k:=0) (by simp) (by rfl) (hcl m) (by simp))).toB _) rfl
   .have hq4:q<=4096:=by rw [hq]; split<;>omega
    have hlk:m.length+k*256<=4096:=by omega
    obtain ⟨d,hd⟩ : ∃ d,(m.length:Int).tdiv 256=d:=⟨_,rfl⟩
    have hd0:0<=d/\d<=4096:=by
     rw [Int.tdiv_eq_ediv_of_nonneg (by omega)] at hd;omega
    have wd:IntKind.i64.wrap d=d:=wrap_i64 (by omega) (by omega);have wd2:IntKind.u64.wrap d=d:=bU;have hb8':(m.length+k*256)*1<=140737488355328:=by omega
    have hb9':m.length+k*256<=140737488355328:=by omega
    have hrep:List.replicate (k*256) (V.int .u8 0)=(List.replicate (k*256) (0:Int)).map vby:=by rw [List.map_replicate]; rfl
    refine ⟨m++List.replicate (k*256) 0,d,fun S => ?_,⟨by simp; omega,fun x hx => ?_⟩,by simp,by omega,by omega,fun _=>by simp; omega⟩
    .have hapN : ∀ S:Store, ∀ o,S.get o=some (1,m.map vby)->zW 1 1 [.int .u8 0] S (.slice o 0 m.length) (.int .i64 ((k:Int)*256))=some (.slice S.nx 0 (m.length+k*256),(S.del o).add (1,(m++List.replicate (k*256) 0).map vby)):=by
      intro S o ho;have hkk:(k:Int)*256=((k*256:Nat):Int):=by omega
      rw [hkk];simp only [zW,ho];rw [if_pos (by refine ⟨by omega,trivial,by simp,by rw [bq]; exact hb8',by rw [bq]; exact hb9'⟩)];simp only [bq,List.drop_zero,Nat.mul_one,jcK];rw [hrep,List.take_of_length_le (by simp),List.map_append]
     refine b7 Tryz.func152 Tryz.ntmps152 fun hwf=>?_
     refine QY ?_;refine bR hap ?_
     repeat first|refine QG ?_|refine QY ?_ (r:=by conv=>lhs;simp[QV,c1,c2,w1,w2,w3,hmin,c3,hapN,hd,wd,wd2])
     exact jf hwf ((Ghost.tp [] [_] (frz1 (k:=1) (cells:=(m++List.replicate (k*256) 0).map vby) (by simp) (by simp) (hcl _) (by simp))).toB _) rfl
    .rcases aG.1 hx with h | h
     .exact hby x h
     .have:=List.eq_of_mem_replicate h;omega
 .refine ⟨m,4294967295,fun S => ?_,⟨hl,hby⟩,a9 _,by omega,by omega,fun h=>h⟩;refine b7 Tryz.func152 Tryz.ntmps152 fun hwf=>?_
  refine QY ?_;refine bR hap ?_
  refine bD c1 ?_
  exact jf hwf ((Ghost.tp [] [_] (frz1 (k:=0) (by simp) (by rfl) (hcl m) (by simp))).toB _) rfl
theorem asj (a:List Int):b8 56 [vl vby a,vl vby a] (.bool true):=by
 intro S;have hall:(a.map vby).all YS=true:=by simp [YS,vby]
 obtain ⟨s,hs⟩ : ∃ s,Kw (vl vby a)=some (.str s):=⟨_,by rw [vl,Kw,if_pos hall]⟩
 have hsq:opSeq false (.str s) (.str s)=some (.bool true):=by simp [opSeq]
 refine b7 Tryz.func56 Tryz.ntmps56 fun hwf=>?_
 refine QY ?_;refine QY ?_ (r:=by conv=>lhs;simp[QV,hs,hsq])
 refine bz ?_
 exact bS
end Go.Vw
namespace Ev
structure Ops where
 eval:Int->List Int->Int × Int
 load:List Int->Int->Int->Int->Int × Int
 store:List Int->Int->Int->Int->Int->List Int × Int
 grow:List Int->Int->Int->List Int × Int
abbrev Res:=List Int × State × Int
def mask32 (x:Int):Int:=Go.IntKind.u64.wrap (((x % 2^Go.IntKind.u64.bits).toNat &&& 4294967295 % 2^Go.IntKind.u64.bits:Nat):Int)
def hostL:List Int->List Int->List Int × List Int × Int
 | [],inp=>([],inp,0)
 | _::_,[]=>([],[],39)
 | t::ts,x::inp =>
  let r:=hostL ts inp
  if r.2.2=0 then ((if t=127 then mask32 x else x)::r.1,r.2.1,0) else ([],r.2.1,r.2.2)
def hostF (s:State) (n:Int) (outs args:List Int):Option Res :=
 if s.log.length+1+args.length<=17592186044416 then
  let r:=hostL outs s.input
  some (r.1,{ s with log:=s.log++n::args,input:=r.2.1 },r.2.2)
 else none
def inR (n:Nat) (l:List Int):Bool:=l.all fun i=>decide (0<=i)&&decide (i<n)
def cE:List Int->List Int->List Int->List Int
 | v,i::is,x::xs=>cE (v.set i.toNat x) is xs
 | v,_,_=>v
def oneF (O:Ops) (call:Int->List Int->State->Option Res) (x:Ss.Ins) (a:List Int) (s:State):Option Res :=
 if x.op=256 then some ([x.n],s,0)
 else if x.op=258 then (if s.fuel=0 then some ([],s,36) else some ([0],{ s with fuel:=s.fuel-1 },0))
 else if x.op=27 then (match a with
  | [p,q,r]=>some ([if r=0 then q else p],s,0)
  | _=>none)
 else if x.op=35 then (match s.globals[x.n.toNat]? with
  | some g=>some ([g],s,0)
  | none=>none)
 else if x.op=36 then (match a with
  | [p]=>if x.n.toNat<s.globals.length then some ([0],{ s with globals:=s.globals.set x.n.toNat p },0) else none
  | _=>none)
 else if x.op=16 then call x.n a s
 else if x.op=257 then (match a with
  | [p]=>some ([0],s,if insideI s.mem.length p x.n=true then 0 else 35)
  | _=>none)
 else match Ss.accOf x.op with
 | some c=>if c.store=true then (match a with
   | [p,q]=>some ([0],if (O.store s.mem x.op p x.n q).2=0 then { s with mem:=(O.store s.mem x.op p x.n q).1 } else s,if (O.store s.mem x.op p x.n q).2=0 then 0 else 38)
   | _=>none)
  else (match a with
   | [p]=>some ([(O.load s.mem x.op p x.n).1],s,if (O.load s.mem x.op p x.n).2=0 then 0 else 38)
   | _=>none)
 | none=>if x.op=63 then some ([(s.mem.length:Int).tdiv 256],s,0)
  else if x.op=64 then (match a with
   | [p]=>some ([(O.grow s.mem s.most p).2],{ s with mem:=(O.grow s.mem s.most p).1 },0)
   | _=>none)
  else some ([(O.eval x.op a).1],s,(O.eval x.op a).2)
def codeF (O:Ops) (call:Int->List Int->State->Option Res):List Ss.Ins->List Int->State->Option Res
 | [],v,s=>some (v,s,0)
 | x::r,v,s=>if inR v.length x.args=true then
   (match oneF O call x (valsI v x.args) s with
   | some (out,s',e)=>if e≠0 then some ([],s',e)
    else if inR v.length x.outs=true/\x.outs.length<=out.length then codeF O call r (cE v x.outs out) s' else none
   | none=>none)
  else none
def pickF (v:List Int) (t:Ss.Term):Option Nat :=
 if t.kind=2 then (if inR v.length [t.arg]=true then some (if v.getD t.arg.toNat 0=0 then 1 else 0) else none)
 else if t.kind=3 then (if inR v.length [t.arg]=true/\0<t.to.length then some (if v.getD t.arg.toNat 0<((t.to.length-1:Nat):Int) then (v.getD t.arg.toNat 0).toNat else t.to.length-1) else none)
 else some 0
structure Prog where
 env:Ss.Env
 fns:List Ss.Fn
def callG (P:Prog) (go:Nat->Ss.Fn->List Int->Nat->List Int->State->Option Res) (d:Nat) (n:Int) (args:List Int) (s:State):Option Res :=
 if n<P.env.imports then
  (match P.env.sigs[n.toNat]? with
  | some t=>hostF s n t.out args
  | none=>none)
 else if 16<=d then some ([],s,37)
 else match P.fns[(n-P.env.imports).toNat]? with
  | some f=>go (d+1) f (List.replicate f.types.length 0) 0 args s
  | none=>none
def cF (O:Ops) (P:Prog):Nat->Nat->Ss.Fn->List Int->Nat->List Int->State->Option Res
 | 0,_,_,_,_,_,_=>none
 | N+1,d,f,v,at_,args,s=>match f.blocks[at_]? with
  | none=>none
  | some b=>if inR v.length b.params=true/\b.params.length<=args.length then
    (match codeF O (callG P (cF O P N) d) b.code (cE v b.params args) s with
    | none=>none
    | some (v2,s2,e)=>if e≠0 then some ([],s2,e)
     else if b.term.kind=4 then (if inR v2.length b.term.args=true then some (valsI v2 b.term.args,s2,0) else none)
     else if b.term.kind=5 then some ([],s2,32)
     else match pickF v2 b.term with
      | none=>none
      | some k=>match b.term.to[k]? with
       | none=>none
       | some ed=>if inR v2.length ed.args=true/\0<=ed.to then cF O P N d f v2 ed.to.toNat (valsI v2 ed.args) s2 else none)
   else none
abbrev callF (O:Ops) (P:Prog) (N:Nat):=callG P (cF O P N)
structure OpsOk (O:Ops):Prop where
 eval : ∀ op a,(∀ x∈a,U64 x)->a.length<2^62->U64 (O.eval op a).1
 evalFit : ∀ op a,(∀ x∈a,U64 x)->a.length<2^62->argsOk op a->fits (Ss.rsigT op) (O.eval op a).1=true/\(partialO op=false->(O.eval op a).2=0)
 load : ∀ m op ad off,Go.Vw.byteL m->U64 ad->U64 off->U64 (O.load m op ad off).1/\(((Ss.accOf op).getD ⟨0,0,false,false⟩).kind=127->(O.load m op ad off).1<4294967296)
 store : ∀ m op ad off n,Go.Vw.byteL m->U64 ad->U64 off->U64 n->Go.Vw.byteL (O.store m op ad off n).1/\((O.store m op ad off n).2=0->(O.store m op ad off n).1.length=m.length)
 grow : ∀ m most p,Go.Vw.byteL m -> -9223372036854775808<=most->most<9223372036854775808->U64 p->Go.Vw.byteL (O.grow m most p).1/\m.length<=(O.grow m most p).1.length/\0<=(O.grow m most p).2/\(O.grow m most p).2<4294967296
 storeLen : ∀ m op ad off n,(O.store m op ad off n).2=0->(O.store m op ad off n).1.length=m.length
 growLen : ∀ m most p,m.length<=(O.grow m most p).1.length
 growCap : ∀ m most p,m.length<=4096->(O.grow m most p).1.length<=4096
end Ev
namespace Go.Vw
open Go.Proofs Go.RowKit
theorem ajq (m:List Int):(m.map vu).flatMap V.cells=m.map vu:=by
 induction m with
 | nil=>rfl
 | cons x m ih=>rw [List.map_cons,List.flatMap_cons,ih]; rfl
theorem ahp (l:List Int) (hl:l.length<=1048576) (S:Store):jU 1 8 S .nils (vl vu l)=some (.slice S.nx 0 l.length,S.add (1,l.map vu)):=by
 have:=zS (S:=S) (s:=1) (b:=8) (xs:=l.map vu) (fun x hx=>by
  obtain ⟨y,_,rfl⟩:=bi.1 hx
  rfl) (by rw [aI]; omega) (by rw [aI]; omega)
 rw [ajq,aI] at this;exact this
theorem avy (l:List Int) (hl:l.length<=1048576) (S:Store):jU 1 1 S .nils (vl vby l)=some (.slice S.nx 0 l.length,S.add (1,l.map vby)):=by
 have:=zS (S:=S) (s:=1) (b:=1) (xs:=l.map vby) (fun x hx=>by
  obtain ⟨y,_,rfl⟩:=bi.1 hx
  rfl) (by rw [aI]; omega) (by rw [aI]; omega)
 rw [jct,aI] at this;exact this
end Go.Vw
