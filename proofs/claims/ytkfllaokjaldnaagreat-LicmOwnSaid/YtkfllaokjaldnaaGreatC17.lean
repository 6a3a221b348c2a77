import Derived.Test.YtkfllaokjaldnaaGreatC12
import Derived.Test.YtkfllaokjaldnaaGreatC10
import Derived.Test.YtkfllaokjaldnaaGreatC9
import Derived.Test.YtkfllaokjaldnaaGreatC16
/- Part of the proof. -/
set_option linter.unusedVariables false
set_option linter.unusedSimpArgs false
set_option maxRecDepth 10000
set_option maxHeartbeats 16000000
namespace Ss
def putLs (i:Int):Nat→List Def→List (List Int)→Option (List Def)
 | _,ds,[]=>some ds
 | j,ds,l::r=>(put i ((j:Int)-1) ds l).bind fun d=>putLs i (j+1) d r
theorem jbv (i:Int) : ∀ (code:List Ins) (k:Nat) (ds:List Def),putLs i (k+1) ds (code.map (·.outs))=putCode i k ds code
 | [],k,ds=>rfl
 | x::r,k,ds=>by
  have e:(((k+1:Nat):Int)-1)=(k:Int):=by omega
  simp only [List.map_cons,putLs,putCode,e]
  congr 1
  funext d
  exact jbv i r (k+1) d
def Block.lists (b:Block):List (List Int):=b.params::b.code.map (·.outs)
theorem putLs_block (i:Nat) (ds:List Def) (b:Block):putLs i 0 ds b.lists=(put i (-1) ds b.params).bind fun d=>putCode i 0 d b.code:=by
 simp only [Block.lists,putLs]
 congr 1
 funext d
 exact jbv i b.code 0 d
theorem putLs_one {i:Int} {j:Nat} {ds:List Def} {ls:List (List Int)} (h:j<ls.length):putLs i j ds (ls.drop j)=(put i ((j:Int)-1) ds ls[j]).bind fun d=>putLs i (j+1) d (ls.drop (j+1)):=by
 rw [List.drop_eq_getElem_cons h,putLs]
theorem putLs_end {i:Int} {j:Nat} {ds:List Def} {ls:List (List Int)} (h : ¬ j<ls.length):putLs i j ds (ls.drop j)=some ds:=by
 have:ls.drop j=[]:=by rw [List.drop_eq_nil_iff]; omega
 rw [this,putLs]
end Ss
namespace Go.Vw
open Go.Proofs Go.RowKit
attribute [-simp] List.map_set
def jV (d:Ss.Def):V := .agg [vint (if d.made then d.block else -1),vint (if d.made then d.pos else 0)]
theorem WX (d:Ss.Def):(jV d).cells=[vint (if d.made then d.block else -1),vint (if d.made then d.pos else 0)]:=rfl
theorem JI (d:Ss.Def):(jV d).closed=true:=rfl
theorem encRDef_eq (d:Ss.Def):jV d = .agg [vint (if d.made then d.block else -1),vint (if d.made then d.pos else 0)]:=nr rfl
theorem KM (f:Nat→Nat) (l:List Ss.Def):V.renL f (je jV l)=je jV l:=JM JI f l
theorem KR (p:Nat→Bool) (l:List Ss.Def):V.idsL p (je jV l)=true:=JN JI p l
def rdefsV:Option (List Ss.Def)→V
 | some d => .tuple [vl jV d, .bool true]
 | none => .tuple [.list [], .bool false]
theorem Defs_v (f:Ss.Fn) (hf:f.Fits) (hts:f.types.length≤1048576):VPure Tryz.prog 44 [ql f] (rdefsV (Ss.defsOf f)):=by
 intro S;obtain ⟨_,_,⟨hbl0,hbf⟩⟩:=hf;obtain ⟨⟨fi,fo⟩,ts,bs⟩:=f;simp only at hts hbl0 hbf;have hbl:bs.length<2^63:=by omega
 have htl:ts.length<2^63:=by omega
 generalize hD:Ss.defsOf ⟨⟨fi,fo⟩,ts,bs⟩=D;refine QB (c:=jd Tryz.f44) Tryz.func44 Tryz.ntmps44 fun hwf=>?_
 refine QT ?_;refine QY ?_;refine QT ?_;refine QY ?_;refine qW 4 2 rfl (by conv=>lhs; simp [Fr.set]) ?_
 repeat first|refine QG ?_|refine QY ?_
 refine QT ?_;refine jc [1,4,5] rfl (fun c σ S' => ∃ (k:Nat),k≤ts.length∧c=ts.length-k∧σ=[(1, .ptr (lid S.nx 0) 0),(4, .slice (lid S.nx 1) 0 k),(5,vnat k)]∧S'=St S [] [some (4,[vl vint fi,vl vint fo,vl vint ts,vl jb bs]),some (2,je jV (List.replicate k ⟨false,0,0⟩))]) ts.length ?_ ?_
 ·exact ⟨0,by omega,rfl,by simp [Fr.only],by simp [je]⟩
 ·rintro c σ T ⟨k,hk,rfl,rfl,rfl⟩
  by_cases hkt:k<ts.length
  ·have hw:=ji hkt htl;have hfl2:k*2=(je jV (List.replicate k ⟨false,0,0⟩)).length:=by rw [zm (enc:=jV) (s:=2) (fun _=>rfl)]; simp
   have hc16:(k+1)*16≤140737488355328:=by omega
   have hc1:k+1≤140737488355328:=by omega
   have hsnoc:je jV (List.replicate (k+1) ⟨false,0,0⟩)=je jV (List.replicate k ⟨false,0,0⟩)++[.int .i64 (-1), .int .i64 0]:=by rw [List.replicate_succ',qK,WX]; rfl
   repeat first|refine QG ?_|refine QY ?_ (r:=by conv=>lhs;simp[QV,hkt,hfl2,hc16,hc1,rep0])
   refine QA [0,3] (h2:=by simp [KM,KR]) (hl:=by conv=>lhs; simp [KM,KR]) (h:=⟨?_,k+1,hkt,rfl,by simp [hw],by rw [hsnoc]⟩);omega
  ·have hke:k=ts.length:=by omega
   subst hke
   repeat first|refine QG ?_|refine QY ?_ (r:=by conv=>lhs;simp[QV,hkt])
   refine QT ?_;refine jc [1,4,6] rfl (fun c σ S' => ∃ (k:Nat) (d:List Ss.Def),k≤bs.length∧c=bs.length-k∧d.length=ts.length∧(∀ x∈d,x.made=true→0≤x.block)∧Ss.putBlocks k d (bs.drop k)=D∧σ=[(1, .ptr (lid S.nx 0) 0),(4, .slice (lid S.nx 1) 0 ts.length),(6,vnat k)]∧S'=St S [] [some (4,[vl vint fi,vl vint fo,vl vint ts,vl jb bs]),some (2,je jV d)]) bs.length ?_ ?_
   ·exact ⟨0,List.replicate ts.length ⟨false,0,0⟩,by omega,rfl,by simp,by simp,by rw [←hD]; rfl,by simp [Fr.only],rfl⟩
   ·rintro c σ T ⟨k,d,hk,rfl,hdl,hnn,hpd,rfl,rfl⟩
    by_cases hkt:k<bs.length
    ·have hw:=ji hkt hbl;have hst:=WG (ds:=d) hkt;rw [←Ss.putLs_block] at hst;have hbk:=hbf _ (List.getElem_mem hkt);obtain ⟨⟨ps,code,⟨tk,ta,to,az⟩⟩,hx⟩ : ∃ b,bs[k]=b:=⟨_,rfl⟩
     rw [hx] at hst hbk;obtain ⟨⟨hpl,_⟩,⟨hcl,hcf⟩,_⟩:=hbk;simp only at hst hpl hcl hcf;obtain ⟨L,hL⟩ : ∃ L,Ss.Block.lists ⟨ps,code,⟨tk,ta,to,az⟩⟩=L:=⟨_,rfl⟩
     rw [hL] at hst;have hLl:L.length=code.length+1:=by rw [←hL]; simp [Ss.Block.lists]
     repeat first|refine QG ?_|refine QY ?_ (r:=by conv=>lhs;simp[QV,hkt,hx])
     refine QT ?_;refine jc [1,4,6,7,8] rfl (fun c σ S' => ∃ (j:Nat) (d:List Ss.Def) (p:Int),j≤L.length∧c=L.length-j∧p=(j:Int)-1∧d.length=ts.length∧(∀ x∈d,x.made=true→0≤x.block)∧((Ss.putLs k j d (L.drop j)).bind fun d=>Ss.putBlocks (k+1) d (bs.drop (k+1)))=D∧σ=[(1, .ptr (lid S.nx 0) 0),(4, .slice (lid S.nx 1) 0 ts.length),(6,vnat k),(7, .ptr (lid S.nx 2) 0),(8, .int .i64 p)]∧S'=St S [] [some (4,[vl vint fi,vl vint fo,vl vint ts,vl jb bs]),some (2,je jV d),some (6,[vl vint ps,vl jg code,vint tk,vint ta,vl jf to,vl vint az])]) L.length ?_ ?_
     ·exact ⟨0,d, -1,by omega,rfl,by omega,hdl,hnn,by rw [←hpd,hst]; rfl,by simp [Fr.only],rfl⟩
     ·rintro c σ T ⟨j,d,p,hj,rfl,hp,hdl,hnn,hpd,rfl,rfl⟩
      by_cases hjt:j<L.length
      ·have hwp:IntKind.i64.wrap (p+1)=p+1:=wrap_i64 (by omega) (by omega);have hpc:p<(code.length:Int):=by omega
       have hst:=Ss.putLs_one (i:=(k:Int)) (ds:=d) hjt;rw [hst] at hpd;obtain ⟨l,hl⟩ : ∃ l,L[j]=l:=⟨_,rfl⟩
       rw [hl, ←hp] at hpd;have hlen:l.length<2^63:=by
        cases j with
        | zero =>
         have:l=ps:=by rw [←hl]; simp [←hL,Ss.Block.lists]
         rw [this]; omega
        | succ m =>
         have hm:m<code.length:=by omega
         have:l=code[m].outs:=by rw [←hl]; simp [←hL,Ss.Block.lists]
         have hxf:=hcf _ (List.getElem_mem hm);obtain ⟨_,_,_,hxo,_⟩:=hxf;rw [this]; omega
       repeat first|refine QG ?_|refine QY ?_ (r:=by conv=>lhs;simp[QV,hpc])
       refine Wc (fun σ S'=>σ=[(1, .ptr (lid S.nx 0) 0),(4, .slice (lid S.nx 1) 0 ts.length),(6,vnat k),(7, .ptr (lid S.nx 2) 0),(8, .int .i64 p),(9,vl vint l)]∧S'=St S [] [some (4,[vl vint fi,vl vint fo,vl vint ts,vl jb bs]),some (2,je jV d),some (6,[vl vint ps,vl jg code,vint tk,vint ta,vl jf to,vl vint az])]) [1,4,6,7,8,9] ?_ ?_
       ·cases j with
        | zero =>
         obtain rfl:l=ps:=by rw [←hl]; simp [←hL,Ss.Block.lists]
         obtain rfl:p = -1:=by omega
         repeat first|refine QG ?_|refine QY ?_
         exact ⟨by simp [Fr.only],by simp⟩
        | succ m =>
         have hm:m<code.length:=by omega
         obtain rfl:p=(m:Int):=by omega
         obtain ⟨⟨o1,o2,o3,o4⟩,hxm⟩ : ∃ x,code[m]=x:=⟨_,rfl⟩
         obtain rfl:l=o4:=by
          have:l=code[m].outs:=by rw [←hl]; simp [←hL,Ss.Block.lists]
          rw [this,hxm]
         repeat first|refine QG ?_|refine QY ?_ (r:=by conv=>lhs;simp[QV,hm,hxm])
         exact ⟨by simp [Fr.only],by simp⟩
       rintro σ S' ⟨rfl,rfl⟩
       repeat first|refine QG ?_|refine QY ?_
       refine QT ?_;refine jc [1,4,6,7,8,9,10] rfl (fun c σ S' => ∃ (m:Nat) (d2:List Ss.Def),m≤l.length∧c=l.length-m∧d2.length=ts.length∧(∀ x∈d2,x.made=true→0≤x.block)∧(((Ss.put k p d2 (l.drop m)).bind fun d=>Ss.putLs k (j+1) d (L.drop (j+1))).bind fun d=>Ss.putBlocks (k+1) d (bs.drop (k+1)))=D∧σ=[(1, .ptr (lid S.nx 0) 0),(4, .slice (lid S.nx 1) 0 ts.length),(6,vnat k),(7, .ptr (lid S.nx 2) 0),(8, .int .i64 p),(9,vl vint l),(10,vnat m)]∧S'=St S [] [some (4,[vl vint fi,vl vint fo,vl vint ts,vl jb bs]),some (2,je jV d2),some (6,[vl vint ps,vl jg code,vint tk,vint ta,vl jf to,vl vint az])]) l.length ?_ ?_
       ·exact ⟨0,d,by omega,rfl,hdl,hnn,hpd,by simp [Fr.only],rfl⟩
       ·rintro c σ T ⟨m,d2,hm,rfl,hdl,hnn,hpd,rfl,rfl⟩
        by_cases hmt:m<l.length
        ·have hwm:=ji hmt hlen;have hst:Ss.put k p d2 (l.drop m)=if l[m]<0∨(d2.length:Int)≤l[m]∨(d2.getD l[m].toNat default).made=true then none else Ss.put k p (d2.set l[m].toNat ⟨true,k,p⟩) (l.drop (m+1)):=by rw [List.drop_eq_getElem_cons hmt,Ss.put]
         obtain ⟨v,hxv⟩ : ∃ v,l[m]=v:=⟨_,rfl⟩
         rw [hxv] at hst;have bad:(v<0∨(d2.length:Int)≤v∨(d2.getD v.toNat default).made=true)→D=none:=fun hb=>by rw [←hpd,hst,if_pos hb]; rfl
         by_cases q1:v<0
         ·repeat first|refine QG ?_|refine QY ?_ (r:=by conv=>lhs;simp[QV,hmt,hxv,q1])
          obtain rfl:=bad (.inl q1);exact jh hwf ((Ghost.tuple [] [_] (Ghost.nils_list _)).toB _) rfl
         obtain ⟨n,rfl⟩ : ∃ n:Nat,v=n:=⟨v.toNat,by omega⟩
         by_cases q2:n<d2.length
         case neg =>
          have q2':(ts.length:Int)≤(n:Int):=by omega
          obtain rfl:=bad (.inr (.inl (by omega)))
          repeat first|refine QG ?_|refine QY ?_ (r:=by conv=>lhs;simp[QV,hmt,hxv,q1,q2'])
          exact jh hwf ((Ghost.tuple [] [_] (Ghost.nils_list _)).toB _) rfl
         have q2' : ¬ (ts.length:Int)≤(n:Int):=by omega
         obtain ⟨⟨dm,db,dp⟩,hdx⟩ : ∃ x,d2[n]=x:=⟨_,rfl⟩
         have hdg:d2.getD (n:Int).toNat default=⟨dm,db,dp⟩:=by simp [q2,hdx]
         have hcell:(je jV d2)[n*2]? = some (vint (if dm then db else -1)):=WU (enc:=jV) (s:=2) (fun _=>rfl) d2 n 0 ⟨dm,db,dp⟩ _ (by rw [←hdx]; exact List.getElem?_eq_getElem q2) rfl;have hfl:(je jV d2).length=d2.length*2:=zm (enc:=jV) (s:=2) (fun _=>rfl) d2;have hn2:n<ts.length:=by omega
         by_cases q3:dm=true
         ·obtain rfl:=bad (.inr (.inr (by rw [hdg]; exact q3)));subst q3;have hb0:0≤db:=by
           have:=hnn _ (List.getElem_mem q2);rw [hdx] at this;exact this rfl
          repeat first|refine QG ?_|refine QY ?_ (r:=by conv=>lhs;simp[QV,hmt,hxv,q1,q2',hcell,hn2,hb0])
          exact jh hwf ((Ghost.tuple [] [_] (Ghost.nils_list _)).toB _) rfl
         ·obtain rfl:dm=false:=by simpa using q3
          have hfit:n*2+2≤(je jV d2).length:=by omega
          rw [if_neg (by rw [hdg]; rintro (h | h | h)<;>first | exact q1 h | exact q3 h | omega)] at hst;have hfs:=jaF (enc:=jV) (s:=2) (fun _=>rfl) ⟨true,k,p⟩ d2 n q2
          repeat first|refine QG ?_|refine QY ?_ (r:=by conv=>lhs;simp[QV,hmt,hxv,q1,q2',hcell,hn2,hfit])
          show jp _ _ _ _ _ _ _;exact again ⟨Nat.sub_lt_sub_left hmt (Nat.lt_succ_self m),m+1,d2.set n ⟨true,k,p⟩,hmt,rfl,by simp [hdl],fun x hx hm=>(List.mem_or_eq_of_mem_set hx).elim (fun h=>hnn x h hm) (fun h=>by rw [h]; simp),by rw [←hpd,hst]; rfl,by simp [Fr.only,hwm],by rw [hfs]; simp [WX]⟩
        ·have e1:l.drop m=[]:=by rw [List.drop_eq_nil_iff]; omega
         rw [e1] at hpd;have hpd2:((Ss.putLs k (j+1) d2 (L.drop (j+1))).bind fun d=>Ss.putBlocks (k+1) d (bs.drop (k+1)))=D:=hpd
         repeat first|refine QG ?_|refine QY ?_ (r:=by conv=>lhs;simp[QV,hmt,hwp])
         show jp _ _ _ _ _ _ _;exact again ⟨Nat.sub_lt_sub_left hjt (Nat.lt_succ_self j),j+1,d2,p+1,hjt,rfl,by omega,hdl,hnn,hpd2,by simp [Fr.only,hwp],rfl⟩
      ·have hpc : ¬ p<(code.length:Int):=by omega
       rw [Ss.putLs_end hjt] at hpd;simp only [Option.bind_some] at hpd
       repeat first|refine QG ?_|refine QY ?_ (r:=by conv=>lhs;simp[QV,hpc])
       refine QA [0,1] (h2:=by simp [KM,KR]) (hl:=by conv=>lhs; simp [KM,KR]) (h:=⟨?_,k+1,d,hkt,rfl,hdl,hnn,hpd,by simp [hw],by simp⟩);omega
    ·repeat first|refine QG ?_|refine QY ?_ (r:=by conv=>lhs;simp[QV,hkt])
     have e1:bs.drop k=[]:=by rw [List.drop_eq_nil_iff]; omega
     rw [e1] at hpd;have hpe:D=some d:=by rw [←hpd]; rfl
     subst hpe;have hfz:=frzSt (B:=S) (u:=[]) (l:=[some (4,[vl vint fi,vl vint fo,vl vint ts,vl jb bs]),some (2,je jV d)]) (k:=1) (enc:=jV) (s:=2) (fun _=>rfl) JI d (by simp) (by rfl);rw [hdl] at hfz;exact jh hwf ((Ghost.tuple [] [_] hfz).toB _) rfl
attribute [local simp] encRDef_eq
abbrev ckR (e:Ss.Env) (f:Ss.Fn) (ds:List Ss.Def) (near:List Int):V := .ref (.agg (ckC e f (vl jV ds) (vl vint near)))
theorem reqF_step {α:Type} {p:α→α→Bool} {l m:List α} {k:Nat} (h1:k<l.length) (h2:k<m.length):eqF p (l.drop k) (m.drop k)=(p l[k] m[k]&&eqF p (l.drop (k+1)) (m.drop (k+1))):=by
 rw [List.drop_eq_getElem_cons h1,List.drop_eq_getElem_cons h2,eqF]
theorem reqF_end {α:Type} {p:α→α→Bool} {l m:List α} {k:Nat} (h1 : ¬ k<l.length) (h2 : ¬ k<m.length):eqF p (l.drop k) (m.drop k)=true:=by
 have e1:l.drop k=[]:=by rw [List.drop_eq_nil_iff]; omega
 have e2:m.drop k=[]:=by rw [List.drop_eq_nil_iff]; omega
 rw [e1,e2,eqF]
theorem jcb (e:Ss.Env) (f:Ss.Fn) (ds:List Ss.Def) (near:List Int) (l:List Int) (hl:l.length≤1048576) (hv:Ss.InTs f.types.length l):VPure Tryz.prog 48 [ckR e f ds near,vl vint l] (vl vint (Ss.typesOf f.types l)):=by
 intro S;obtain ⟨⟨fi,fo⟩,ts,bs⟩:=f;simp only at hv;generalize hg:(fun v:Int=>ts.getD v.toNat 0)=g;have hX:Ss.typesOf ts l=l.map g:=by rw [Ss.typesOf,hg]
 simp only;rw [hX];refine QB (c:=jd Tryz.f48) Tryz.func48 Tryz.ntmps48 fun hwf=>?_
 refine QT ?_;refine QY ?_;refine QT ?_;refine QY ?_;refine qW 5 1 rfl (by conv=>lhs; simp [Fr.set]) ?_
 repeat first|refine QG ?_|refine QY ?_
 refine QT ?_;refine jc [0,1,5,6] rfl (fun c σ S' => ∃ (k:Nat) (out:List Int),k≤l.length∧c=l.length-k∧out=(l.take k).map g∧out.length=k∧σ=[(0,ckR e ⟨⟨fi,fo⟩,ts,bs⟩ ds near),(1,vl vint l),(5, .slice (lid S.nx 0) 0 k),(6,vnat k)]∧S'=St S [] [some (1,out.map vint)]) l.length ?_ ?_
 ·exact ⟨0,[],by omega,rfl,by simp,rfl,by simp [Fr.only],by simp⟩
 ·rintro c σ T ⟨k,out,hk,rfl,ho,hlen,rfl,rfl⟩
  by_cases hkt:k<l.length
  ·have hw:=ji hkt (by omega);obtain ⟨h0,h1⟩:=hv _ (List.getElem_mem hkt);obtain ⟨v,hx⟩ : ∃ v,l[k]=v:=⟨_,rfl⟩
   rw [hx] at h0 h1;obtain ⟨n,rfl⟩ : ∃ n:Nat,v=n:=⟨v.toNat,by omega⟩
   have hn:n<ts.length:=by omega
   have hgn:g (n:Int)=ts[n]:=by rw [←hg]; simp [hn]
   have htk:l.take (k+1)=l.take k++[(n:Int)]:=by rw [List.take_add_one,List.getElem?_eq_getElem hkt,hx]; rfl
   have hb:(k+1)*8≤140737488355328:=by omega
   have hb':k+1≤140737488355328:=by omega
   repeat first|refine QG ?_|refine QY ?_ (r:=by conv=>lhs;simp[QV,hkt,hx,hn,hlen,hb,hb'])
   refine QT ?_;refine QJ (St S [] [none]) (St S [] [none]) [] ?_ (r:=by conv=>lhs; simp [QV,hkt,hx,hn,hlen,hb,hb']);refine QI ?_ (r:=by conv=>lhs;simp[QV,hkt,hx,hn,hlen,hb,hb']);refine QI ?_ (r:=by conv=>lhs;simp[QV,hkt,hx,hn,hlen,hb,hb']);refine QW ?_
   repeat first|refine QG ?_|refine QY ?_ (r:=by conv=>lhs;simp[QV,hkt,hx,hn,hlen,hb,hb'])
   refine QA [2] (h:=⟨?_,k+1,out++[ts[n]],hkt,rfl,by rw [htk,List.map_append,ho]; simp [hgn],by simp [hlen],by simp [hw],by simp⟩);omega
  ·have hke:k=l.length:=by omega
   subst hke;rw [List.take_length] at ho
   repeat first|refine QG ?_|refine QY ?_ (r:=by conv=>lhs;simp[QV,hkt])
   rw [←ho];exact jh hwf ((frz1 (by simp) (by rfl) (jF vint (fun _=>rfl) _) (by simpa using hlen)).toB _) rfl
theorem jcc (e:Ss.Env) (f:Ss.Fn) (ds:List Ss.Def) (near:List Int) (block pos:Int) (l types:List Int) (hds:ds.length=f.types.length) (htl:f.types.length<2^63) (hnl:near.length<2^63) (hl:l.length<2^63) (hnn : ∀ x∈ds,x.made=true→0≤x.block) :
  VPure Tryz.prog 89 [ckR e f ds near,vl vint l,vl vint types,vint block,vint pos] (.bool (Ss.asks f.types ds near block pos l types)):=by
 intro S;obtain ⟨⟨fi,fo⟩,ts,bs⟩:=f;simp only at hds htl ⊢;unfold Ss.asks;generalize hP:Ss.askOk ts ds near block pos=P
 by_cases hlm:l.length=types.length
 case neg =>
  have hlm' : ¬ (l.length:Int)=(types.length:Int):=by omega
  rw [eqF_len hlm];refine QB (c:=jd Tryz.f89) Tryz.func89 Tryz.ntmps89 fun hwf=>?_
  repeat first|refine QG ?_|refine QY ?_ (r:=by conv=>lhs;simp[QV,hlm,hlm'])
  exact ja hwf rfl rfl
 have hlm':(l.length:Int)=(types.length:Int):=by omega
 refine QB (c:=jd Tryz.f89) Tryz.func89 Tryz.ntmps89 fun hwf=>?_
 repeat first|refine QG ?_|refine QY ?_ (r:=by conv=>lhs;simp[QV,hlm,hlm'])
 refine QT ?_;refine jc [0,1,2,3,4,11] rfl (fun c σ S' => ∃ (k:Nat),k≤l.length∧c=l.length-k∧eqF P (l.drop k) (types.drop k)=eqF P l types∧σ=[(0,ckR e ⟨⟨fi,fo⟩,ts,bs⟩ ds near),(1,vl vint l),(2,vl vint types),(3,vint block),(4,vint pos),(11,vnat k)]∧S'=St S [] []) l.length ?_ ?_
 ·exact ⟨0,by omega,rfl,rfl,by simp [Fr.only],rfl⟩
 ·rintro c σ T ⟨k,hk,rfl,hd,rfl,rfl⟩
  by_cases hkt:k<l.length
  case neg =>
   have hkm : ¬ k<types.length:=by omega
   repeat first|refine QG ?_|refine QY ?_ (r:=by conv=>lhs;simp[QV,hkt])
   rw [←hd,reqF_end hkt hkm];exact ja hwf rfl rfl
  have hkm:k<types.length:=by omega
  have hw:=ji hkt hl;have hst:=reqF_step (p:=P) hkt hkm;obtain ⟨v,hx⟩ : ∃ v,l[k]=v:=⟨_,rfl⟩
  obtain ⟨t,ht⟩ : ∃ t,types[k]=t:=⟨_,rfl⟩
  rw [hx,ht] at hst
  by_cases h0:v<0
  ·have e:P v t=false:=by rw [←hP]; simp [Ss.askOk]; omega
   rw [e,Bool.false_and,hd] at hst
   repeat first|refine QG ?_|refine QY ?_ (r:=by conv=>lhs;simp[QV,hkt,hx,h0])
   rw [hst];exact ja hwf rfl rfl
  obtain ⟨n,rfl⟩ : ∃ n:Nat,v=n:=⟨v.toNat,by omega⟩
  by_cases hnt:n<ts.length
  case neg =>
   have h1':(ts.length:Int)≤(n:Int):=by omega
   have e:P n t=false:=by rw [←hP]; simp [Ss.askOk]; omega
   rw [e,Bool.false_and,hd] at hst
   repeat first|refine QG ?_|refine QY ?_ (r:=by conv=>lhs;simp[QV,hkt,hx,h0,h1'])
   rw [hst];exact ja hwf rfl rfl
  have h1' : ¬ (ts.length:Int)≤(n:Int):=by omega
  have h1:n<ds.length:=by omega
  obtain ⟨tt,htt⟩ : ∃ x,ts[n]=x:=⟨_,rfl⟩
  obtain ⟨⟨dm,db,dp⟩,hdx⟩ : ∃ x,ds[n]=x:=⟨_,rfl⟩
  have hX:P n t=(decide (tt=t)&&(dm&&(if db=block then decide (dp<pos) else G.dominates near db block))):=by
   rw [←hP];simp [Ss.askOk,h1,hnt,htt,hdx,Bool.and_assoc]
  rw [hX] at hst
  by_cases h2:tt=t
  case neg =>
   rw [decide_eq_false h2,Bool.false_and,Bool.false_and,hd] at hst
   repeat first|refine QG ?_|refine QY ?_ (r:=by conv=>lhs;simp[QV,hkt,hkm,hx,ht,h0,h1',hnt,htt,h2])
   rw [hst];exact ja hwf rfl rfl
  rw [decide_eq_true h2,Bool.true_and] at hst
  cases dm with
  | false =>
   rw [Bool.false_and,Bool.false_and,hd] at hst
   repeat first|refine QG ?_|refine QY ?_ (r:=by conv=>lhs;simp[QV,hkt,hkm,hx,ht,h0,h1',hnt,htt,h2,h1,hdx])
   rw [hst];exact ja hwf rfl rfl
  | true =>
   have hb0 : ¬ db<0:=by
    have:=hnn _ (List.getElem_mem h1);rw [hdx] at this;have:=this rfl;simp only at this;omega
   rw [Bool.true_and] at hst
   by_cases h3:db=block
   ·rw [if_pos h3] at hst;subst h3
    by_cases h4:dp<pos
    ·have h4' : ¬ pos≤dp:=by omega
     rw [decide_eq_true h4,Bool.true_and,hd] at hst
     repeat first|refine QG ?_|refine QY ?_ (r:=by conv=>lhs;simp[QV,hkt,hkm,hx,ht,h0,h1',hnt,htt,h2,h1,hdx,hb0,h4'])
     refine QA [] (h:=⟨?_,k+1,hkt,rfl,hst.symm,by simp [hw],by simp⟩);omega
    ·have h4':pos≤dp:=by omega
     rw [decide_eq_false h4,Bool.false_and,hd] at hst
     repeat first|refine QG ?_|refine QY ?_ (r:=by conv=>lhs;simp[QV,hkt,hkm,hx,ht,h0,h1',hnt,htt,h2,h1,hdx,hb0,h4'])
     rw [hst];exact ja hwf rfl rfl
   ·rw [if_neg h3] at hst;have cd:=RDominates_v near db block hnl;generalize G.dominates near db block=y at *
    repeat first|refine QG ?_|refine QY ?_ (r:=by conv=>lhs;simp[QV,hkt,hkm,hx,ht,h0,h1',hnt,htt,h2,h1,hdx,hb0,h3])
    refine QT ?_;refine QD (r:=by conv=>lhs;simp[QV,hkt,hkm,hx,ht,h0,h1',hnt,htt,h2,h1,hdx,hb0,h3]) (k:=?_);refine QL (cd) ?_
    by_cases hy:y=true
    ·rw [hy,Bool.true_and,hd] at hst;refine QM (by conv=>lhs;simp[QV,hy]) ?_;refine QN ?_
     repeat first|refine QG ?_|refine QY ?_
     refine QA [] (h:=⟨?_,k+1,hkt,rfl,hst.symm,by simp [hw],by simp⟩);omega
    ·have hy':y=false:=by simpa using hy
     rw [hy',Bool.false_and,hd] at hst;refine QM (by conv=>lhs;simp[QV,hy']) ?_;refine QN ?_
     repeat first|refine QG ?_|refine QY ?_
     rw [hst];exact ja hwf rfl rfl
end Go.Vw
namespace Ss
def rin (op a b:Int):Bool:=decide (a≤op)&&decide (op≤b)
def rof (op:Int):Int :=
 if rin op 69 79∨rin op 103 120∨op=172∨op=173∨op=192∨op=193 then 127
 else if rin op 80 90∨rin op 121 138∨op=167∨rin op 194 196 then 126 else 0
def runary (op:Int):Bool:=decide (op=69)||(decide (op=80)||(rin op 103 105||(rin op 121 123||decide (167≤op))))
def rsigT (op:Int):Int:=if op=172∨op=173 then 126 else if rin op 69 90∨op=167 then 127 else rof op
def rsig (op:Int):List Int × Int × Bool :=
 if rof op=0 then ([],0,false) else (if runary op then [rof op] else [rof op,rof op],rsigT op,true)
theorem rsig_small : ∀ n:Nat,n<256→rsig (n:Int)=numSig (n:Int):=by decide +kernel
theorem rsig_eq (op:Int):rsig op=numSig op:=by
 by_cases h:0≤op∧op<256
 ·obtain ⟨n,rfl⟩:=Int.eq_ofNat_of_zero_le h.1;exact rsig_small n (by have:=h.2; omega)
 ·have h1:rof op=0:=by
   unfold rof;rw [if_neg (by simp only [rin,Bool.and_eq_true,decide_eq_true_eq]; omega),if_neg (by simp only [rin,Bool.and_eq_true,decide_eq_true_eq]; omega)]
  have h2:find op=none:=by
   cases hf:find op with
   | none=>rfl
   | some g =>
    exfalso
    obtain ⟨hm,hh⟩:=YF hf;have ha : ∀ g∈groups,0≤g.first∧g.first+g.many≤256:=by decide +kernel
    have:=ha g hm;simp only [Grp.has,Bool.and_eq_true,decide_eq_true_eq] at hh;omega
  simp [rsig,h1,numSig,h2]
end Ss
namespace Go.Vw
open Go.Proofs Go.RowKit
attribute [-simp] List.map_set
theorem in_v (op a b:Int):VPure Tryz.prog 126 [vint op,vint a,vint b] (.bool (Ss.rin op a b)):=by
 intro S
 by_cases h:a≤op
 ·have hX:Ss.rin op a b=decide (op≤b):=by simp [Ss.rin,h]
  rw [hX];refine QB (c:=jd Tryz.f126) Tryz.func126 Tryz.ntmps126 fun hwf=>?_
  repeat first|refine QG ?_|refine QY ?_ (r:=by conv=>lhs;simp[QV,h])
  exact ja hwf (by simp) rfl
 ·have hX:Ss.rin op a b=false:=by simp [Ss.rin,h]
  rw [hX];refine QB (c:=jd Tryz.f126) Tryz.func126 Tryz.ntmps126 fun hwf=>?_
  repeat first|refine QG ?_|refine QY ?_ (r:=by conv=>lhs;simp[QV,h])
  exact ja hwf (by simp) rfl
theorem Fits_v (t n:Int):VPure Tryz.prog 91 [vint t,vu n] (.bool (decide (t=126)||(decide (t=127)&&decide (n<4294967296)))):=by
 intro S;refine QB (c:=jd Tryz.f91) Tryz.func91 Tryz.ntmps91 fun hwf=>?_
 by_cases h:t=126
 ·repeat first|refine QG ?_|refine QY ?_ (r:=by conv=>lhs;simp[QV,h])
  exact ja hwf (by simp [h]) rfl
 by_cases h2:t=127
 ·repeat first|refine QG ?_|refine QY ?_ (r:=by conv=>lhs;simp[QV,h,h2])
  exact ja hwf (by simp [h,h2]) rfl
 ·repeat first|refine QG ?_|refine QY ?_ (r:=by conv=>lhs;simp[QV,h,h2])
  exact ja hwf (by simp [h,h2]) rfl
theorem Of_v (op:Int):VPure Tryz.prog 125 [vint op] (vint (Ss.rof op)):=by
 intro S;have c1:VPure Tryz.prog 126 [vint op, .int .i64 69, .int .i64 79] (.bool (Ss.rin op 69 79)):=in_v op 69 79;have c2:VPure Tryz.prog 126 [vint op, .int .i64 103, .int .i64 120] (.bool (Ss.rin op 103 120)):=in_v op 103 120;have c3:VPure Tryz.prog 126 [vint op, .int .i64 80, .int .i64 90] (.bool (Ss.rin op 80 90)):=in_v op 80 90;have c4:VPure Tryz.prog 126 [vint op, .int .i64 121, .int .i64 138] (.bool (Ss.rin op 121 138)):=in_v op 121 138;have c5:VPure Tryz.prog 126 [vint op, .int .i64 194, .int .i64 196] (.bool (Ss.rin op 194 196)):=in_v op 194 196;have hX:Ss.rof op=if Ss.rin op 69 79∨Ss.rin op 103 120∨op=172∨op=173∨op=192∨op=193 then 127
  else if Ss.rin op 80 90∨Ss.rin op 121 138∨op=167∨Ss.rin op 194 196 then 126 else 0:=rfl
 rw [hX];generalize Ss.rin op 69 79=x1 at *
 generalize Ss.rin op 103 120=x2 at *
 generalize Ss.rin op 80 90=x3 at *
 generalize Ss.rin op 121 138=x4 at *
 generalize Ss.rin op 194 196=x5 at *
 clear hX;refine QB (c:=jd Tryz.f125) Tryz.func125 Tryz.ntmps125 fun hwf=>?_
 repeat first|refine QG ?_|refine QY ?_
 refine QT ?_;refine QP ?_;refine QL (c1) ?_
 by_cases h1:x1=true
 ·refine QM (by conv=>lhs;simp[QV,h1]) ?_;refine QN ?_
  repeat first|refine QG ?_|refine QY ?_
  exact ja hwf (by simp [h1]) rfl
 have g1:x1=false:=by simpa using h1
 refine QM (by conv=>lhs;simp[QV,g1]) ?_;refine QL (c2) ?_
 by_cases h2:x2=true
 ·refine QM (by conv=>lhs;simp[QV,h2]) ?_;refine QN ?_
  repeat first|refine QG ?_|refine QY ?_
  exact ja hwf (by simp [h2]) rfl
 have g2:x2=false:=by simpa using h2
 by_cases k1:op=172
 ·refine QM (by conv=>lhs;simp[QV,g2,k1]) ?_;refine QN ?_
  repeat first|refine QG ?_|refine QY ?_
  exact ja hwf (by simp [k1]) rfl
 by_cases k2:op=173
 ·refine QM (by conv=>lhs;simp[QV,g2,k1,k2]) ?_;refine QN ?_
  repeat first|refine QG ?_|refine QY ?_
  exact ja hwf (by simp [k2]) rfl
 by_cases k3:op=192
 ·refine QM (by conv=>lhs;simp[QV,g2,k1,k2,k3]) ?_;refine QN ?_
  repeat first|refine QG ?_|refine QY ?_
  exact ja hwf (by simp [k3]) rfl
 by_cases k4:op=193
 ·refine QM (by conv=>lhs;simp[QV,g2,k1,k2,k3,k4]) ?_;refine QN ?_
  repeat first|refine QG ?_|refine QY ?_
  exact ja hwf (by simp [k4]) rfl
 rw [if_neg (by simp [g1,g2,k1,k2,k3,k4])];refine QM (by conv=>lhs;simp[QV,g2,k1,k2,k3,k4]) ?_;refine QN ?_
 repeat first|refine QG ?_|refine QY ?_
 refine QT ?_;refine QP ?_;refine QL (c3) ?_
 by_cases h3:x3=true
 ·refine QM (by conv=>lhs;simp[QV,h3]) ?_;refine QN ?_
  repeat first|refine QG ?_|refine QY ?_
  exact ja hwf (by simp [h3]) rfl
 have g3:x3=false:=by simpa using h3
 refine QM (by conv=>lhs;simp[QV,g3]) ?_;refine QL (c4) ?_
 by_cases h4:x4=true
 ·refine QM (by conv=>lhs;simp[QV,h4]) ?_;refine QN ?_
  repeat first|refine QG ?_|refine QY ?_
  exact ja hwf (by simp [h4]) rfl
 have g4:x4=false:=by simpa using h4
 by_cases k5:op=167
 ·refine QM (by conv=>lhs;simp[QV,g4,k5]) ?_;refine QN ?_
  repeat first|refine QG ?_|refine QY ?_
  exact ja hwf (by simp [k5]) rfl
 refine QM (by conv=>lhs;simp[QV,g4,k5]) ?_;refine QL (c5) ?_
 by_cases h5:x5=true
 ·refine QM (by conv=>lhs;simp[QV,h5]) ?_;refine QN ?_
  repeat first|refine QG ?_|refine QY ?_
  exact ja hwf (by simp [h5]) rfl
 have g5:x5=false:=by simpa using h5
 refine QM (by conv=>lhs;simp[QV,g5]) ?_;refine QN ?_
 repeat first|refine QG ?_|refine QY ?_
 exact ja hwf (by simp [g3,g4,k5,g5]) rfl
theorem Unary_v (op:Int):VPure Tryz.prog 141 [vint op] (.bool (Ss.runary op)):=by
 intro S;have c1:VPure Tryz.prog 126 [vint op, .int .i64 103, .int .i64 105] (.bool (Ss.rin op 103 105)):=in_v op 103 105;have c2:VPure Tryz.prog 126 [vint op, .int .i64 121, .int .i64 123] (.bool (Ss.rin op 121 123)):=in_v op 121 123;have hX:Ss.runary op=(decide (op=69)||(decide (op=80)||(Ss.rin op 103 105||(Ss.rin op 121 123||decide (167≤op))))):=rfl;rw [hX];generalize Ss.rin op 103 105=x1 at *
 generalize Ss.rin op 121 123=x2 at *
 refine QB (c:=jd Tryz.f141) Tryz.func141 Tryz.ntmps141 fun hwf=>?_
 by_cases k1:op=69
 ·repeat first|refine QG ?_|refine QY ?_ (r:=by conv=>lhs;simp[QV,k1])
  exact ja hwf (by simp [k1]) rfl
 by_cases k2:op=80
 ·repeat first|refine QG ?_|refine QY ?_ (r:=by conv=>lhs;simp[QV,k1,k2])
  exact ja hwf (by simp [k2]) rfl
 repeat first|refine QG ?_|refine QY ?_
 refine QT ?_;refine QP ?_ (r:=by conv=>lhs;simp[QV,k1,k2]);refine QL (c1) ?_
 by_cases h1:x1=true
 ·refine QM (by conv=>lhs;simp[QV,h1]) ?_;refine QN ?_
  repeat first|refine QG ?_|refine QY ?_
  exact ja hwf (by simp [h1]) rfl
 have g1:x1=false:=by simpa using h1
 refine QM (by conv=>lhs;simp[QV,g1]) ?_;refine QL (c2) ?_
 by_cases h2:x2=true
 ·refine QM (by conv=>lhs;simp[QV,h2]) ?_;refine QN ?_
  repeat first|refine QG ?_|refine QY ?_
  exact ja hwf (by simp [h2]) rfl
 have g2:x2=false:=by simpa using h2
 refine QM (by conv=>lhs;simp[QV,g2]) ?_;refine QN ?_
 repeat first|refine QG ?_|refine QY ?_
 exact ja hwf (by simp [k1,k2,g1,g2]) rfl
theorem RNumSig_v (op:Int):VPure Tryz.prog 119 [vint op] (.tuple [vl vint (Ss.numSig op).1,vint (Ss.numSig op).2.1, .bool (Ss.numSig op).2.2]):=by
 intro S;rw [←Ss.rsig_eq op];have c1:=Of_v op;have c2:=Unary_v op;have c3:VPure Tryz.prog 126 [vint op, .int .i64 69, .int .i64 90] (.bool (Ss.rin op 69 90)):=in_v op 69 90;have hX:Ss.rsig op=if Ss.rof op=0 then ([],0,false) else (if Ss.runary op then [Ss.rof op] else [Ss.rof op,Ss.rof op],if op=172∨op=173 then 126 else if Ss.rin op 69 90∨op=167 then 127 else Ss.rof op,true):=rfl
 rw [hX];generalize Ss.rof op=t at *
 generalize Ss.runary op=un at *
 generalize Ss.rin op 69 90=x at *
 clear hX;refine QB (c:=jd Tryz.f119) Tryz.func119 Tryz.ntmps119 fun hwf=>?_
 repeat first|refine QG ?_|refine QY ?_
 refine QT ?_;refine QP ?_;refine QL (c1) ?_
 by_cases ht:t=0
 ·refine QW ?_
  repeat first|refine QG ?_|refine QY ?_ (r:=by conv=>lhs;simp[QV,ht])
  rw [if_pos ht];exact jh (l:=[]) hwf (Ghost.toB (Ghost.tuple [] [_,_] (Ghost.nils_list _)) _) rfl
 rw [if_neg ht];refine QW ?_
 repeat first|refine QG ?_|refine QY ?_ (r:=by conv=>lhs;simp[QV,ht])
 refine QT ?_;refine QP ?_;refine QL (c2) ?_;obtain ⟨r,hr⟩ : ∃ r,(if op=172∨op=173 then 126 else if x∨op=167 then 127 else t)=r:=⟨_,rfl⟩
 simp only [hr]
 by_cases hu:un=true
 ·rw [if_pos hu];refine QM (by conv=>lhs;simp[QV,hu]) ?_;refine QN ?_
  repeat first|refine QG ?_|refine QY ?_ (r:=by conv=>lhs;simp[QV,hu])
  refine vw_trim 6 1 rfl (by simp) rfl (by conv=>lhs; simp [List.set_cons_zero,List.set_cons_succ]) ?_;refine QT ?_;refine QP ?_;refine QL (c3) ?_
  by_cases hx:x=true
  ·skip
   refine QM (by conv=>lhs;simp[QV,hx]) ?_;refine QN ?_
   by_cases k1:op=172
   ·obtain rfl:r=126:=by rw [←hr]; simp [k1]
    repeat first|refine QG ?_|refine QY ?_ (r:=by conv=>lhs;simp[QV,hx,k1])
    exact jh hwf ((Ghost.tuple [] [_,_] (frz1 (k:=0) (by simp) (by rfl) (by rfl) (by rfl))).toB _) rfl
   by_cases k2:op=173
   ·obtain rfl:r=126:=by rw [←hr]; simp [k2]
    repeat first|refine QG ?_|refine QY ?_ (r:=by conv=>lhs;simp[QV,hx,k1,k2])
    exact jh hwf ((Ghost.tuple [] [_,_] (frz1 (k:=0) (by simp) (by rfl) (by rfl) (by rfl))).toB _) rfl
   obtain rfl:r=127:=by rw [←hr]; simp [k1,k2,hx]
   repeat first|refine QG ?_|refine QY ?_ (r:=by conv=>lhs;simp[QV,hx,k1,k2])
   exact jh hwf ((Ghost.tuple [] [_,_] (frz1 (k:=0) (by simp) (by rfl) (by rfl) (by rfl))).toB _) rfl
  have hx':x=false:=by simpa using hx
  by_cases hq:op=167
  ·skip
   refine QM (by conv=>lhs;simp[QV,hx',hq]) ?_;refine QN ?_;have k1 : ¬ op=172:=by omega
   have k2 : ¬ op=173:=by omega
   obtain rfl:r=127:=by rw [←hr]; simp [k1,k2,hq]
   repeat first|refine QG ?_|refine QY ?_ (r:=by conv=>lhs;simp[QV,hx',hq,k1,k2])
   exact jh hwf ((Ghost.tuple [] [_,_] (frz1 (k:=0) (by simp) (by rfl) (by rfl) (by rfl))).toB _) rfl
  refine QM (by conv=>lhs;simp[QV,hx',hq]) ?_;refine QN ?_
  by_cases k1:op=172
  ·obtain rfl:r=126:=by rw [←hr]; simp [k1]
   repeat first|refine QG ?_|refine QY ?_ (r:=by conv=>lhs;simp[QV,hx',hq,k1])
   exact jh hwf ((Ghost.tuple [] [_,_] (frz1 (k:=0) (by simp) (by rfl) (by rfl) (by rfl))).toB _) rfl
  by_cases k2:op=173
  ·obtain rfl:r=126:=by rw [←hr]; simp [k2]
   repeat first|refine QG ?_|refine QY ?_ (r:=by conv=>lhs;simp[QV,hx',hq,k1,k2])
   exact jh hwf ((Ghost.tuple [] [_,_] (frz1 (k:=0) (by simp) (by rfl) (by rfl) (by rfl))).toB _) rfl
  obtain rfl:r=t:=by rw [←hr]; simp [k1,k2,hx',hq]
  repeat first|refine QG ?_|refine QY ?_ (r:=by conv=>lhs;simp[QV,hx',hq,k1,k2])
  exact jh hwf ((Ghost.tuple [] [_,_] (frz1 (k:=0) (by simp) (by rfl) (by rfl) (by rfl))).toB _) rfl
 ·replace hu:un=false:=by simpa using hu
  rw [if_neg (by simp [hu])];refine QM (by conv=>lhs;simp[QV,hu]) ?_;refine QN ?_
  repeat first|refine QG ?_|refine QY ?_ (r:=by conv=>lhs;simp[QV,hu])
  refine QT ?_;refine QP ?_;refine QL (c3) ?_
  by_cases hx:x=true
  ·skip
   refine QM (by conv=>lhs;simp[QV,hx]) ?_;refine QN ?_
   by_cases k1:op=172
   ·obtain rfl:r=126:=by rw [←hr]; simp [k1]
    repeat first|refine QG ?_|refine QY ?_ (r:=by conv=>lhs;simp[QV,hx,k1])
    exact jh hwf ((Ghost.tuple [] [_,_] (frz1 (k:=0) (by simp) (by rfl) (by rfl) (by rfl))).toB _) rfl
   by_cases k2:op=173
   ·obtain rfl:r=126:=by rw [←hr]; simp [k2]
    repeat first|refine QG ?_|refine QY ?_ (r:=by conv=>lhs;simp[QV,hx,k1,k2])
    exact jh hwf ((Ghost.tuple [] [_,_] (frz1 (k:=0) (by simp) (by rfl) (by rfl) (by rfl))).toB _) rfl
   obtain rfl:r=127:=by rw [←hr]; simp [k1,k2,hx]
   repeat first|refine QG ?_|refine QY ?_ (r:=by conv=>lhs;simp[QV,hx,k1,k2])
   exact jh hwf ((Ghost.tuple [] [_,_] (frz1 (k:=0) (by simp) (by rfl) (by rfl) (by rfl))).toB _) rfl
  have hx':x=false:=by simpa using hx
  by_cases hq:op=167
  ·skip
   refine QM (by conv=>lhs;simp[QV,hx',hq]) ?_;refine QN ?_;have k1 : ¬ op=172:=by omega
   have k2 : ¬ op=173:=by omega
   obtain rfl:r=127:=by rw [←hr]; simp [k1,k2,hq]
   repeat first|refine QG ?_|refine QY ?_ (r:=by conv=>lhs;simp[QV,hx',hq,k1,k2])
   exact jh hwf ((Ghost.tuple [] [_,_] (frz1 (k:=0) (by simp) (by rfl) (by rfl) (by rfl))).toB _) rfl
  refine QM (by conv=>lhs;simp[QV,hx',hq]) ?_;refine QN ?_
  by_cases k1:op=172
  ·obtain rfl:r=126:=by rw [←hr]; simp [k1]
   repeat first|refine QG ?_|refine QY ?_ (r:=by conv=>lhs;simp[QV,hx',hq,k1])
   exact jh hwf ((Ghost.tuple [] [_,_] (frz1 (k:=0) (by simp) (by rfl) (by rfl) (by rfl))).toB _) rfl
  by_cases k2:op=173
  ·obtain rfl:r=126:=by rw [←hr]; simp [k2]
   repeat first|refine QG ?_|refine QY ?_ (r:=by conv=>lhs;simp[QV,hx',hq,k1,k2])
   exact jh hwf ((Ghost.tuple [] [_,_] (frz1 (k:=0) (by simp) (by rfl) (by rfl) (by rfl))).toB _) rfl
  obtain rfl:r=t:=by rw [←hr]; simp [k1,k2,hx',hq]
  repeat first|refine QG ?_|refine QY ?_ (r:=by conv=>lhs;simp[QV,hx',hq,k1,k2])
  exact jh hwf ((Ghost.tuple [] [_,_] (frz1 (k:=0) (by simp) (by rfl) (by rfl) (by rfl))).toB _) rfl
theorem RAccess_v (op:Int):VPure Tryz.prog 120 [vint op] (.tuple [vint ((Ss.accOf op).getD ⟨0,0,false,false⟩).kind,vint ((Ss.accOf op).getD ⟨0,0,false,false⟩).width, .bool ((Ss.accOf op).getD ⟨0,0,false,false⟩).store, .bool (Ss.accOf op).isSome]):=by
 intro S
 by_cases h:op=40∨op=41∨op=44∨op=45∨op=46∨op=47∨op=48∨op=49∨op=50∨op=51∨op=52∨op=53∨op=54∨op=55∨op=58∨op=59∨op=60∨op=61∨op=62
 ·refine QB (c:=jd Tryz.f120) Tryz.func120 Tryz.ntmps120 fun hwf=>?_
  rcases h with rfl | rfl | rfl | rfl | rfl | rfl | rfl | rfl | rfl | rfl | rfl | rfl | rfl | rfl | rfl | rfl | rfl | rfl | rfl
  all_goals
   repeat first|refine QG ?_|refine QY ?_
   exact ja hwf rfl rfl
 ·simp only [not_or] at h;obtain ⟨h1,h2,h3,h4,h5,h6,h7,h8,h9,h10,h11,h12,h13,h14,h15,h16,h17,h18,h19⟩:=h;have hn:Ss.accOf op=none:=by simp [Ss.accOf,Ss.accL,Ss.findK,h1,h2,h3,h4,h5,h6,h7,h8,h9,h10,h11,h12,h13,h14,h15,h16,h17,h18,h19]
  rw [hn];refine QB (c:=jd Tryz.f120) Tryz.func120 Tryz.ntmps120 fun hwf=>?_
  repeat first|refine QG ?_|refine QY ?_ (r:=by conv=>lhs;simp[QV,h1,h2,h3,h4,h5,h6,h7,h8,h9,h10,h11,h12,h13,h14,h15,h16,h17,h18,h19])
  exact ja hwf rfl rfl
end Go.Vw
namespace Ss
structure RForm where
 inn:List Int
 outs:List Int
 ok:Bool
deriving DecidableEq,Inhabited
def rformMem (op n:Int):RForm :=
 if op=257 then ⟨[127],[],decide (n≤8589934592)⟩
 else match accOf op with
  | some a=>if a.store then ⟨[127,a.kind],[],decide (n<4294967296)⟩ else ⟨[127],[a.kind],decide (n<4294967296)⟩
  | none=>if op=63 then ⟨[],[127],decide (n=0)⟩ else if op=64 then ⟨[127],[127],decide (n=0)⟩ else ⟨[],[],false⟩
def rformEnv (e:Env) (op n:Int):RForm :=
 if op=35∨op=36 then (if n<e.globals.length then (if op=35 then ⟨[],[e.globals.getD n.toNat 0],true⟩ else ⟨[e.globals.getD n.toNat 0],[],e.muts.getD n.toNat false⟩) else ⟨[],[],false⟩)
 else if op=16 then (if n<e.sigs.length then ⟨(e.sigs.getD n.toNat default).inn,(e.sigs.getD n.toNat default).out,true⟩ else ⟨[],[],false⟩)
 else if e.mem then rformMem op n else ⟨[],[],false⟩
def rform (e:Env) (op n out:Int):RForm :=
 if op=256 then ⟨[],[out],decide (out=126)||(decide (out=127)&&decide (n<4294967296))⟩
 else if op=258 then ⟨[],[],decide (n=0)⟩
 else match numSig op with
  | (l,t,true)=>⟨l,[t],decide (n=0)⟩
  | _=>if op=27 then ⟨[out,out,127],[out],decide (n=0)⟩ else rformEnv e op n
end Ss
namespace Go.Vw
open Go.Proofs Go.RowKit
attribute [-simp] List.map_set
def rformV (r:Ss.RForm):V := .tuple [vl vint r.inn,vl vint r.outs, .bool r.ok]
theorem Form_v (e:Ss.Env) (x:Ss.Ins) (out:Int) (hsl:e.sigs.length≤140737488355328) (hgl:e.globals.length≤140737488355328) (hml:e.muts.length=e.globals.length) (hx:x.Fits) :
  VPure Tryz.prog 88 [zk e,jg x,vint out] (rformV (Ss.rform e x.op x.n out)):=by
 intro S;obtain ⟨sg,im,gl,mu,me⟩:=e;obtain ⟨op,n,xa,xo⟩:=x;obtain ⟨ho,⟨h0,hn64⟩,_⟩:=hx;simp only at hsl hgl hml h0 ho hn64 ⊢;obtain ⟨m,rfl⟩ : ∃ m:Nat,n=m:=⟨n.toNat,by omega⟩
 have hns:=RNumSig_v op;have hac:=RAccess_v op;have hfi:=Fits_v out (m:Int);have hcg:IntKind.u64.wrap (gl.length:Int)=(gl.length:Int):=Kp (by omega) (by omega);have hcs:IntKind.u64.wrap (sg.length:Int)=(sg.length:Int):=Kp (by omega) (by omega);have hz:decide ((m:Int)=0)=decide (m=0):=by simp
 unfold Ss.rform;rw [hz];generalize (decide (out=126)||(decide (out=127)&&decide ((m:Int)<4294967296)))=fi at *
 generalize hsg:Ss.numSig op=sgv at *
 obtain ⟨l,t,b⟩:=sgv;generalize hak:((Ss.accOf op).getD ⟨0,0,false,false⟩).kind=ak at *
 generalize hast:((Ss.accOf op).getD ⟨0,0,false,false⟩).store=ast at *
 generalize ((Ss.accOf op).getD ⟨0,0,false,false⟩).width=aw at *
 generalize his:(Ss.accOf op).isSome=ais at *
 simp only at hns;refine QB (c:=jd Tryz.f88) Tryz.func88 Tryz.ntmps88 fun hwf=>?_
 repeat first|refine QG ?_|refine QY ?_
 refine QT ?_;refine QP ?_;refine QL (hns) ?_;refine QW ?_;refine QT ?_;refine QP ?_;refine QL (hac) ?_;refine QW ?_
 by_cases h1:op=256
 ·rw [if_pos h1]
  repeat first|refine QG ?_|refine QY ?_ (r:=by conv=>lhs;simp[QV,h1])
  refine QT ?_;refine QP ?_;refine QL (hfi) ?_;refine QW ?_
  repeat first|refine QG ?_|refine QY ?_
  exact jh hwf (((Ghost.tuple [] [_,_] (Ghost.nils_list _)).trans (Ghost.tuple [_] [_] (frz1 (k:=2) (by simp) (by rfl) (by rfl) (by rfl)))).toB _) rfl
 rw [if_neg h1]
 by_cases h2:op=258
 ·rw [if_pos h2]
  repeat first|refine QG ?_|refine QY ?_ (r:=by conv=>lhs;simp[QV,h1,h2])
  exact jh hwf (((Ghost.tuple [] [_,_] (Ghost.nils_list _)).trans (Ghost.tuple [_] [_] (Ghost.nils_list _))).toB _) rfl
 rw [if_neg h2]
 by_cases hb:b=true
 ·subst hb;simp only
  repeat first|refine QG ?_|refine QY ?_ (r:=by conv=>lhs;simp[QV,h1,h2])
  refine QT ?_;refine QJ (St S [] [some (5,[vl jC sg,vint im,vl vint gl,vl V.bool mu, .bool me]),some (4,[vint op, .int .u64 (m:Int),vl vint xa,vl vint xo])]) (St S [] [some (5,[vl jC sg,vint im,vl vint gl,vl V.bool mu, .bool me]),some (4,[vint op, .int .u64 (m:Int),vl vint xa,vl vint xo])]) [] ?_ (r:=by conv=>lhs; simp [QV,h1]);refine QI ?_ (r:=by conv=>lhs;simp[QV,h1]);refine QM (by conv=>lhs;simp[QV,h1]) ?_;refine QN ?_
  repeat first|refine QG ?_|refine QY ?_
  exact jh hwf ((Ghost.tuple [_] [_] (frz1 (k:=2) (by simp) (by rfl) (by rfl) (by rfl))).toB _) rfl
 obtain rfl:b=false:=by simpa using hb
 simp only
 by_cases h3:op=27
 ·rw [if_pos h3];subst h3
  repeat first|refine QG ?_|refine QY ?_ (r:=by conv=>lhs;simp[QV,h1,h2])
  refine QT ?_;refine KI (σm := ?sma) (Sm := ?Sma) (ZZ.mk _ (St S [] [some (5,[vl jC sg,vint im,vl vint gl,vl V.bool mu, .bool me]),some (4,[.int .i64 27, .int .u64 (m:Int),vl vint xa,vl vint xo])]) (St S [] [some (5,[vl jC sg,vint im,vl vint gl,vl V.bool mu, .bool me]),some (4,[.int .i64 27, .int .u64 (m:Int),vl vint xa,vl vint xo])]) []) 2 4 [0,1,2,3,4,5,6,7,8,9,10] [0,1,3,4,2,5,6,7,8,9,10] rfl (by kernel_rfl) (by conv=>lhs; reduce) (by kernel_rfl) (by decide) (by kernel_rfl) (by kernel_rfl) (by kernel_rfl) (by kernel_rfl) (by kernel_rfl) (by kernel_rfl) rfl (JG (by simp [subU,shpU,subL,shpL])) (Store.sub_refl _) (by conv=>lhs; reduce) (by conv=>lhs; reduce) ?H1a ?H2a ?H3a
  case H1a =>
   refine QZ ?_;refine QI ?_;refine QZ ?_;refine QI ?_;refine QW ?_;refine zu [6,7,8] (Eq.trans (b := ?_) ?_ rfl)
   rotate_left
   conv=>lhs; simp [Fr.only,Fr.look]
  case H2a =>
   refine QZ ?_;refine QI ?_;refine QI ?_;refine QW ?_;exact zD [6,7,8] [0,1,3,2] (by conv=>lhs; simp [Fr.only,Fr.look]) hwf (by decide) (by simp) (by conv=>lhs; simp) (by conv=>lhs; simp) (by conv=>lhs; simp)
  repeat first|refine QG ?_|refine QY ?_
  exact jh hwf (((Ghost.tuple [] [_,_] (frz1 (k:=2) (by simp) (by rfl) (by rfl) (by rfl))).trans (Ghost.tuple [_] [_] (frz1 (k:=3) (by simp) (by rfl) (by rfl) (by rfl)))).toB _) rfl
 rw [if_neg h3];unfold Ss.rformEnv;simp only
 by_cases h4:op=35∨op=36
 ·rw [if_pos h4]
  by_cases h5:m<gl.length
  case neg =>
   have h5' : ¬ (m:Int)<(gl.length:Int):=by omega
   have h5n:(gl.length:Int)≤(m:Int):=by omega
   rw [if_neg h5']
   by_cases h6:op=35
   ·repeat first|refine QG ?_|refine QY ?_ (r:=by conv=>lhs;simp[QV,h1,h2,h3,h6,hcg,h5,h5n])
    exact jh hwf (((Ghost.tuple [] [_,_] (Ghost.nils_list _)).trans (Ghost.tuple [_] [_] (Ghost.nils_list _))).toB _) rfl
   ·have h7:op=36:=by omega
    repeat first|refine QG ?_|refine QY ?_ (r:=by conv=>lhs;simp[QV,h1,h2,h3,h6,h7,hcg,h5,h5n])
    exact jh hwf (((Ghost.tuple [] [_,_] (Ghost.nils_list _)).trans (Ghost.tuple [_] [_] (Ghost.nils_list _))).toB _) rfl
  have h5':(m:Int)<(gl.length:Int):=by omega
  have h5n : ¬ (gl.length:Int)≤(m:Int):=by omega
  have hgd:gl.getD (m:Int).toNat 0=gl[m]:=by simp [h5]
  have hm:m<mu.length:=by omega
  obtain ⟨b,hb⟩ : ∃ b,mu[m]=b:=⟨_,rfl⟩
  have hmd:mu.getD (m:Int).toNat false=b:=by simp [hm,hb]
  rw [if_pos h5',hgd,hmd]
  by_cases h6:op=35
  ·rw [if_pos h6]
   repeat first|refine QG ?_|refine QY ?_ (r:=by conv=>lhs;simp[QV,h1,h2,h3,h6,hcg,h5,h5n])
   exact jh hwf (((Ghost.tuple [] [_,_] (Ghost.nils_list _)).trans (Ghost.tuple [_] [_] (frz1 (k:=2) (by simp) (by rfl) (by rfl) (by rfl)))).toB _) rfl
  ·have h7:op=36:=by omega
   rw [if_neg h6]
   repeat first|refine QG ?_|refine QY ?_ (r:=by conv=>lhs;simp[QV,h1,h2,h3,h6,h7,hcg,h5,h5n,hm,hb])
   exact jh hwf (((Ghost.tuple [] [_,_] (frz1 (k:=2) (by simp) (by rfl) (by rfl) (by rfl))).trans (Ghost.tuple [_] [_] (Ghost.nils_list _))).toB _) rfl
 rw [if_neg h4];have h6 : ¬ op=35:=fun h=>h4 (.inl h)
 have h7 : ¬ op=36:=fun h=>h4 (.inr h)
 by_cases h8:op=16
 ·rw [if_pos h8]
  by_cases h5:m<sg.length
  case neg =>
   have h5' : ¬ (m:Int)<(sg.length:Int):=by omega
   have h5n:(sg.length:Int)≤(m:Int):=by omega
   rw [if_neg h5']
   repeat first|refine QG ?_|refine QY ?_ (r:=by conv=>lhs;simp[QV,h1,h2,h3,h6,h7,h8,hcs,h5,h5n])
   exact jh hwf (((Ghost.tuple [] [_,_] (Ghost.nils_list _)).trans (Ghost.tuple [_] [_] (Ghost.nils_list _))).toB _) rfl
  have h5':(m:Int)<(sg.length:Int):=by omega
  have h5n : ¬ (sg.length:Int)≤(m:Int):=by omega
  obtain ⟨⟨a,b⟩,hab⟩ : ∃ x,sg[m]=x:=⟨_,rfl⟩
  have hgd:sg.getD (m:Int).toNat default=⟨a,b⟩:=by simp [h5,hab]
  rw [if_pos h5',hgd]
  repeat first|refine QG ?_|refine QY ?_ (r:=by conv=>lhs;simp[QV,h1,h2,h3,h6,h7,h8,hcs,h5,h5n,hab])
  exact ja hwf (by simp [rformV,vl]) rfl
 rw [if_neg h8]
 by_cases hme:me=true
 case neg =>
  have hme':me=false:=by simpa using hme
  rw [if_neg hme]
  repeat first|refine QG ?_|refine QY ?_ (r:=by conv=>lhs;simp[QV,h1,h2,h3,h6,h7,h8,hme'])
  exact jh hwf (((Ghost.tuple [] [_,_] (Ghost.nils_list _)).trans (Ghost.tuple [_] [_] (Ghost.nils_list _))).toB _) rfl
 subst hme;rw [if_pos rfl];unfold Ss.rformMem;rw [hz]
 by_cases k1:op=257
 ·rw [if_pos k1];subst k1
  repeat first|refine QG ?_|refine QY ?_ (r:=by conv=>lhs;simp[QV,h1,h2,h3,h6,h7,h8])
  refine QT ?_;refine QJ (St S [] [some (5,[vl jC sg,vint im,vl vint gl,vl V.bool mu, .bool true]),some (4,[.int .i64 257, .int .u64 (m:Int),vl vint xa,vl vint xo])]) (St S [] [some (5,[vl jC sg,vint im,vl vint gl,vl V.bool mu, .bool true]),some (4,[.int .i64 257, .int .u64 (m:Int),vl vint xa,vl vint xo])]) [] ?_ (r:=by conv=>lhs; simp [QV,h1]);refine QI ?_ (r:=by conv=>lhs;simp[QV,h1]);refine QM (by conv=>lhs;simp[QV,h1]) ?_;refine QN ?_
  repeat first|refine QG ?_|refine QY ?_
  exact jh hwf (((Ghost.tuple [] [_,_] (frz1 (k:=2) (by simp) (by rfl) (by rfl) (by rfl))).trans (Ghost.tuple [_] [_] (Ghost.nils_list _))).toB _) rfl
 rw [if_neg k1]
 cases hf:Ss.accOf op with
 | some a =>
  obtain ⟨b1,b2,b3,b4⟩:=a;rw [hf] at his hak hast;simp only [Option.isSome_some,Option.getD_some] at his hak hast;subst his hak hast;simp only;generalize hz4:decide ((m:Int)<4294967296)=z4 at *
  by_cases k2:b3=true
  ·subst k2;rw [if_pos rfl]
   repeat first|refine QG ?_|refine QY ?_ (r:=by conv=>lhs;simp[QV,h1,h2,h3,h6,h7,h8,k1,hz4])
   refine QT ?_;refine QJ (St S [] [some (5,[vl jC sg,vint im,vl vint gl,vl V.bool mu, .bool true]),some (4,[vint op, .int .u64 (m:Int),vl vint xa,vl vint xo])]) (St S [] [some (5,[vl jC sg,vint im,vl vint gl,vl V.bool mu, .bool true]),some (4,[vint op, .int .u64 (m:Int),vl vint xa,vl vint xo])]) [] ?_ (r:=by conv=>lhs; simp [QV,h1]);refine QI ?_ (r:=by conv=>lhs;simp[QV,h1,hz4]);refine QM (by conv=>lhs;simp[QV,h1,hz4]) ?_;refine QN ?_
   repeat first|refine QG ?_|refine QY ?_
   exact jh hwf (((Ghost.tuple [] [_,_] (frz1 (k:=2) (by simp) (by rfl) (by rfl) (by rfl))).trans (Ghost.tuple [_] [_] (Ghost.nils_list _))).toB _) rfl
  ·rw [if_neg k2];obtain rfl:b3=false:=by simpa using k2
   repeat first|refine QG ?_|refine QY ?_ (r:=by conv=>lhs;simp[QV,h1,h2,h3,h6,h7,h8,k1,hz4])
   refine QT ?_;refine KI (σm := ?smb) (Sm := ?Smb) (ZZ.mk _ (St S [] [some (5,[vl jC sg,vint im,vl vint gl,vl V.bool mu, .bool true]),some (4,[vint op, .int .u64 (m:Int),vl vint xa,vl vint xo])]) (St S [] [some (5,[vl jC sg,vint im,vl vint gl,vl V.bool mu, .bool true]),some (4,[vint op, .int .u64 (m:Int),vl vint xa,vl vint xo])]) []) 0 2 [0,1,2,3,4,5,6,7,8] [1,2,0,3,4,5,6,7,8] rfl (by kernel_rfl) (by conv=>lhs; reduce) (by kernel_rfl) (by decide) (by kernel_rfl) (by kernel_rfl) (by kernel_rfl) (by kernel_rfl) (by kernel_rfl) (by kernel_rfl) rfl (JG (by simp [subU,shpU,subL,shpL])) (Store.sub_refl _) (by conv=>lhs; reduce) (by conv=>lhs; reduce) ?H1b ?H2b ?H3b
   case H1b =>
    refine QM (by conv=>lhs;simp[QV,h1,hz4]) ?_;refine QI ?_;refine QM (by conv=>lhs;simp[QV,hz4]) ?_;refine QI ?_;refine QM (by conv=>lhs;simp[QV,hz4]) ?_;refine QN ?_;refine zu [6,7,8] (Eq.trans (b := ?_) ?_ rfl)
    rotate_left
    conv=>lhs; simp [Fr.only,Fr.look]
   case H2b =>
    refine QM (by conv=>lhs;simp[QV,h1,hz4]) ?_;refine QI ?_;refine QI ?_;refine QM (by conv=>lhs;simp[QV,hz4]) ?_;refine QN ?_;exact zD [6,7,8] [0,1,3,2] (by conv=>lhs; simp [Fr.only,Fr.look]) hwf (by decide) (by simp) (by conv=>lhs; simp) (by conv=>lhs; simp) (by conv=>lhs; simp)
   repeat first|refine QG ?_|refine QY ?_
   exact jh hwf (((Ghost.tuple [] [_,_] (frz1 (k:=2) (by simp) (by rfl) (by rfl) (by rfl))).trans (Ghost.tuple [_] [_] (frz1 (k:=3) (by simp) (by rfl) (by rfl) (by rfl)))).toB _) rfl
 | none =>
  rw [hf] at his hak hast;simp only [Option.isSome_none,Option.getD_none] at his hak hast;subst his hak hast;simp only
  by_cases k2:op=63
  ·rw [if_pos k2];subst k2
   repeat first|refine QG ?_|refine QY ?_ (r:=by conv=>lhs;simp[QV,h1,h2,h3,h6,h7,h8,k1])
   refine QT ?_;refine QJ (St S [] [some (5,[vl jC sg,vint im,vl vint gl,vl V.bool mu, .bool true]),some (4,[.int .i64 63, .int .u64 (m:Int),vl vint xa,vl vint xo])]) (St S [] [some (5,[vl jC sg,vint im,vl vint gl,vl V.bool mu, .bool true]),some (4,[.int .i64 63, .int .u64 (m:Int),vl vint xa,vl vint xo])]) [] ?_ (r:=by conv=>lhs; simp [QV,h1]);refine QI ?_ (r:=by conv=>lhs;simp[QV,h1]);refine QM (by conv=>lhs;simp[QV,h1]) ?_;refine QN ?_
   repeat first|refine QG ?_|refine QY ?_
   exact jh hwf (((Ghost.tuple [] [_,_] (Ghost.nils_list _)).trans (Ghost.tuple [_] [_] (frz1 (k:=2) (by simp) (by rfl) (by rfl) (by rfl)))).toB _) rfl
  rw [if_neg k2]
  by_cases k3:op=64
  ·rw [if_pos k3];subst k3
   repeat first|refine QG ?_|refine QY ?_ (r:=by conv=>lhs;simp[QV,h1,h2,h3,h6,h7,h8,k1,k2])
   refine QT ?_;refine KI (σm := ?smc) (Sm := ?Smc) (ZZ.mk _ (St S [] [some (5,[vl jC sg,vint im,vl vint gl,vl V.bool mu, .bool true]),some (4,[.int .i64 64, .int .u64 (m:Int),vl vint xa,vl vint xo])]) (St S [] [some (5,[vl jC sg,vint im,vl vint gl,vl V.bool mu, .bool true]),some (4,[.int .i64 64, .int .u64 (m:Int),vl vint xa,vl vint xo])]) []) 0 1 [0,1,2,3,4,5,6,7] [1,0,2,3,4,5,6,7] rfl (by kernel_rfl) (by conv=>lhs; reduce) (by kernel_rfl) (by decide) (by kernel_rfl) (by kernel_rfl) (by kernel_rfl) (by kernel_rfl) (by kernel_rfl) (by kernel_rfl) rfl (JG (by simp [subU,shpU,subL,shpL])) (Store.sub_refl _) (by conv=>lhs; reduce) (by conv=>lhs; reduce) ?H1c ?H2c ?H3c
   case H1c =>
    refine QM (by conv=>lhs;simp[QV,h1]) ?_;refine QI ?_;refine QZ ?_;refine QI ?_;refine QW ?_;refine zu [6,7,8] (Eq.trans (b := ?_) ?_ rfl)
    rotate_left
    conv=>lhs; simp [Fr.only,Fr.look]
   case H2c =>
    refine QM (by conv=>lhs;simp[QV,h1]) ?_;refine QI ?_;refine QI ?_;refine QW ?_;exact zD [6,7,8] [0,1,3,2] (by conv=>lhs; simp [Fr.only,Fr.look]) hwf (by decide) (by simp) (by conv=>lhs; simp) (by conv=>lhs; simp) (by conv=>lhs; simp)
   repeat first|refine QG ?_|refine QY ?_
   exact jh hwf (((Ghost.tuple [] [_,_] (frz1 (k:=2) (by simp) (by rfl) (by rfl) (by rfl))).trans (Ghost.tuple [_] [_] (frz1 (k:=3) (by simp) (by rfl) (by rfl) (by rfl)))).toB _) rfl
  rw [if_neg k3]
  repeat first|refine QG ?_|refine QY ?_ (r:=by conv=>lhs;simp[QV,h1,h2,h3,h6,h7,h8,k1,k2,k3])
  exact jh hwf (((Ghost.tuple [] [_,_] (Ghost.nils_list _)).trans (Ghost.tuple [_] [_] (Ghost.nils_list _))).toB _) rfl
end Go.Vw
namespace Ss
def rinsOk (e:Env) (f:Fn) (ds:List Def) (near:List Int) (block pos:Int) (x:Ins):Bool :=
 (rform e x.op x.n (insOut f.types x)).ok&&decide (typesOf f.types x.outs=(rform e x.op x.n (insOut f.types x)).outs)&&asks f.types ds near block pos x.args (rform e x.op x.n (insOut f.types x)).inn
end Ss
namespace Go.Vw
open Go.Proofs Go.RowKit
attribute [-simp] List.map_set
theorem rins_v (e:Ss.Env) (f:Ss.Fn) (ds:List Ss.Def) (near:List Int) (i k:Nat) (b:Ss.Block) (x:Ss.Ins) (hsl:e.sigs.length≤140737488355328) (hgl:e.globals.length≤140737488355328) (hml:e.muts.length=e.globals.length)
  (hds:ds.length=f.types.length) (htl:f.types.length<2^63) (hnl:near.length<2^63) (hnn : ∀ x∈ds,x.made=true→0≤x.block) (hi:f.blocks[i]? = some b) (hk:b.code[k]? = some x) (hx:x.Fits) (hol:x.outs.length≤1048576) (hov:Ss.InTs f.types.length x.outs) :
  VPure Tryz.prog 50 [ckR e f ds near,vnat i,vnat k] (.bool (Ss.rinsOk e f ds near i k x)):=by
 intro S;have cf:=Form_v e x (Ss.insOut f.types x) hsl hgl hml hx;have ct:=jcb e f ds near x.outs hol hov;have hal:=hx.2.2.1.1;have ca : ∀ l:List Int,VPure Tryz.prog 89 [ckR e f ds near,vl vint x.args,vl vint l,vnat i,vnat k] (.bool (Ss.asks f.types ds near i k x.args l)):=fun l=>jcc e f ds near i k x.args l hds htl hnl (by omega) hnn
 unfold Ss.rinsOk;generalize hr:Ss.rform e x.op x.n (Ss.insOut f.types x)=r at *
 have hql:(Ss.typesOf f.types x.outs).length<2^63:=by simp [Ss.typesOf]; omega
 generalize htt:Ss.typesOf f.types x.outs=tt at *
 obtain ⟨ri,ro,rk⟩:=r;have ceq:=Jz tt ro hql;obtain ⟨xo,xn,xa,xu⟩:=x;obtain ⟨ps,code,⟨tk,ta,to,az⟩⟩:=b;obtain ⟨⟨fi,fo⟩,ts,bs⟩:=f;obtain ⟨sg,im,gl,mu,me⟩:=e;simp only at *
 obtain ⟨hi1,hi2⟩:=List.getElem?_eq_some_iff.1 hi;obtain ⟨hk1,hk2⟩:=List.getElem?_eq_some_iff.1 hk;have ca':=ca ri;generalize Ss.asks ts ds near i k xa ri=ax at ca';generalize hio:Ss.insOut ts ⟨xo,xn,xa,xu⟩=io at cf;have cf':VPure Tryz.prog 88 [.agg [vl jC sg, .int .i64 im,vl vint gl,vl V.bool mu, .bool me], .agg [.int .i64 xo, .int .u64 xn,vl vint xa,vl vint xu], .int .i64 io] (.tuple [vl vint ri,vl vint ro, .bool rk]):=cf;refine QB (c:=jd Tryz.f50) Tryz.func50 Tryz.ntmps50 fun hwf=>?_
 repeat first|refine QG ?_|refine QY ?_ (r:=by conv=>lhs;simp[QV,hi1,hi2,hk1,hk2])
 refine Wc (fun σ S'=>σ=[(0,ckR ⟨sg,im,gl,mu,me⟩ ⟨⟨fi,fo⟩,ts,bs⟩ ds near),(1,vnat i),(2,vnat k),(7, .ptr (lid S.nx 0) 0),(8,vint io)]∧S'=St S [] [some (4,[vint xo,vu xn,vl vint xa,vl vint xu])]) [0,1,2,7,8] ?_ ?_
 ·cases xu with
  | nil =>
   have h0:io=0:=by rw [←hio]; rfl
   subst h0
   repeat first|refine QG ?_|refine QY ?_
   exact ⟨by simp [Fr.only],by simp⟩
  | cons v r =>
   obtain ⟨h0,h1⟩:=hov v (by simp);obtain ⟨n,rfl⟩ : ∃ n:Nat,v=n:=⟨v.toNat,by omega⟩
   have hn:n<ts.length:=by omega
   have h2:io=ts[n]:=by rw [←hio]; simp [Ss.insOut,hn]
   subst h2;have hpos:(0:Int)<((r.length:Int)+1):=by omega
   repeat first|refine QG ?_|refine QY ?_ (r:=by conv=>lhs;simp[QV,hn,hpos])
   exact ⟨by simp [Fr.only],by simp⟩
 rintro σ S' ⟨rfl,rfl⟩;refine QT ?_;refine QT ?_;refine QD (r:=by conv=>lhs;simp[QV]) (k:=?_);refine QL (cf') ?_;refine QW ?_
 by_cases h1:rk=true
 case neg =>
  have h1':rk=false:=by simpa using h1
  repeat first|refine QG ?_|refine QY ?_ (r:=by conv=>lhs;simp[QV,h1'])
  exact ja hwf (by simp [h1']) rfl
 refine QT ?_;refine QP ?_ (r:=by conv=>lhs;simp[QV,h1]);refine QL (ct) ?_;refine QZ ?_;refine QL (ceq) ?_
 by_cases h3:tt=ro
 case neg =>
  refine QM (by conv=>lhs;simp[QV,h3]) ?_;refine QN ?_
  repeat first|refine QG ?_|refine QY ?_
  exact ja hwf (by simp [h3]) rfl
 refine QM (by conv=>lhs;simp[QV,h3]) ?_;refine QL (ca') ?_;refine QW ?_
 repeat first|refine QG ?_|refine QY ?_
 exact ja hwf (by simp [h1,h3]) rfl
end Go.Vw
