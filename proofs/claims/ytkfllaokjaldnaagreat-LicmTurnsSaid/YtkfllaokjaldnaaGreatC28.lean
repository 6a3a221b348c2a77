import Derived.Test.YtkfllaokjaldnaaGreatC21
import Derived.Test.YtkfllaokjaldnaaGreatC16
import Derived.Test.YtkfllaokjaldnaaGreatC14
import Derived.Test.YtkfllaokjaldnaaGreatC15
/-
  Part of the proof (texts CDefs, CAsk, CNum, CMem).
-/
set_option linter.unusedVariables false
set_option linter.unusedSimpArgs false
namespace Ss
def putLs (i:Int):Nat→List Def→List (List Int)→Option (List Def)
 | _,ds,[]=>some ds
 | j,ds,l::r=>(put i ((j:Int)-1) ds l).bind fun d=>putLs i (j+1) d r
theorem jbo (i:Int) : ∀ (code:List Ins) (k:Nat) (ds:List Def),putLs i (k+1) ds (code.map (·.outs))=putCode i k ds code
 | [],k,ds=>rfl
 | x::r,k,ds=>by
  have e:(((k+1:Nat):Int)-1)=(k:Int):=by omega
  simp only [List.map_cons,putLs,putCode,e]
  congr 1
  funext d
  exact jbo i r (k+1) d
def Block.lists (b:Block):List (List Int):=b.params::b.code.map (·.outs)
theorem putLs_block (i:Nat) (ds:List Def) (b:Block):putLs i 0 ds b.lists=(put i (-1) ds b.params).bind fun d=>putCode i 0 d b.code:=by
 simp only [Block.lists,putLs]
 congr 1
 funext d
 exact jbo i b.code 0 d
theorem putLs_one {i:Int} {j:Nat} {ds:List Def} {ls:List (List Int)} (h:j<ls.length):putLs i j ds (ls.drop j)=(put i ((j:Int)-1) ds ls[j]).bind fun d=>putLs i (j+1) d (ls.drop (j+1)):=by
 rw [List.drop_eq_getElem_cons h,putLs]
theorem putLs_end {i:Int} {j:Nat} {ds:List Def} {ls:List (List Int)} (h : ¬ j<ls.length):putLs i j ds (ls.drop j)=some ds:=by
 have:ls.drop j=[]:=by rw [List.drop_eq_nil_iff]; omega
 rw [this,putLs]
end Ss
namespace Go.Vw
open Go.Proofs Go.RowKit
set_option maxRecDepth 10000
set_option maxHeartbeats 8000000
def jY (d:Ss.Def):V := .agg [vint (if d.made then d.block else -1),vint (if d.made then d.pos else 0)]
theorem WV (d:Ss.Def):(jY d).cells=[vint (if d.made then d.block else -1),vint (if d.made then d.pos else 0)]:=rfl
theorem JM (d:Ss.Def):(jY d).closed=true:=rfl
theorem encRDef_eq (d:Ss.Def):jY d = .agg [vint (if d.made then d.block else -1),vint (if d.made then d.pos else 0)]:=nr rfl
theorem zB (f:Nat→Nat) (l:List Ss.Def):V.renL f (jh jY l)=jh jY l:=JQ JM f l
theorem zF (p:Nat→Bool) (l:List Ss.Def):V.idsL p (jh jY l)=true:=JR JM p l
def rdefsV:Option (List Ss.Def)→V
 | some d => .tuple [vl jY d, .bool true]
 | none => .tuple [.list [], .bool false]
theorem Defs_v (f:Ss.Fn) (hf:f.Fits) (hts:f.types.length≤1048576):VPure Tryz.prog 44 [qD f] (rdefsV (Ss.defsOf f)):=by
 intro S;obtain ⟨_,_,⟨hbl0,hbf⟩⟩:=hf;obtain ⟨⟨fi,fo⟩,ts,bs⟩:=f;simp only at hts hbl0 hbf;have hbl:bs.length<2^63:=by omega
 have htl:ts.length<2^63:=by omega
 generalize hD:Ss.defsOf ⟨⟨fi,fo⟩,ts,bs⟩=D;refine jb (c:=jg Tryz.f44) Tryz.func44 rfl rfl (by simp [Tryz.ntmps44]) ?_;rw [Tryz.ntmps44];intro hwf
 repeat refine QS ?_
 refine QY ?_
 repeat refine QS ?_
 refine QY ?_;refine qW 4 2 rfl (by conv=>lhs; simp [Fr.set]) ?_
 repeat first|refine QG ?_|refine QY ?_
 repeat refine QS ?_
 refine je [1,4,5] rfl (fun c σ S' => ∃ (k:Nat),k≤ts.length∧c=ts.length-k∧σ=[(1, .ptr (lid S.nx 0) 0),(4, .slice (lid S.nx 1) 0 k),(5,vnat k)]∧S'=St S [] [some (4,[vl vint fi,vl vint fo,vl vint ts,vl jd bs]),some (2,jh jY (List.replicate k ⟨false,0,0⟩))]) ts.length ?_ ?_
 ·exact ⟨0,by omega,rfl,by simp [Fr.only],by simp [jh]⟩
 ·rintro c σ T ⟨k,hk,rfl,rfl,rfl⟩
  by_cases hkt:k<ts.length
  ·have hw:=jo hkt htl;have hfl2:k*2=(jh jY (List.replicate k ⟨false,0,0⟩)).length:=by rw [zP (enc:=jY) (s:=2) (fun _=>rfl)]; simp
   have hc16:(k+1)*16≤140737488355328:=by omega
   have hc1:k+1≤140737488355328:=by omega
   have hsnoc:jh jY (List.replicate (k+1) ⟨false,0,0⟩)=jh jY (List.replicate k ⟨false,0,0⟩)++[.int .i64 (-1), .int .i64 0]:=by rw [List.replicate_succ',zw,WV]; rfl
   repeat first|refine QG ?_|refine QY ?_ (r:=by conv=>lhs;simp[-List.map_set,QV,hkt,hfl2,hc16,hc1,rep0])
   refine jS [0,3] (by conv=>lhs; simp [Fr.only]) hwf (by decide) (by simp [-List.map_set,zB,zF]) (by conv=>lhs; simp [-List.map_set,zB,zF]) (by conv=>lhs; simp [-List.map_set,zB,zF]) (by conv=>lhs; simp [-List.map_set,zB,zF]) ⟨?_,k+1,hkt,rfl,by simp [hw],by rw [hsnoc]⟩;omega
  ·have hke:k=ts.length:=by omega
   subst hke
   repeat first|refine QG ?_|refine QY ?_ (r:=by conv=>lhs;simp[-List.map_set,QV,hkt])
   repeat refine QS ?_
   refine je [1,4,6] rfl (fun c σ S' => ∃ (k:Nat) (d:List Ss.Def),k≤bs.length∧c=bs.length-k∧d.length=ts.length∧(∀ x∈d,x.made=true→0≤x.block)∧Ss.putBlocks k d (bs.drop k)=D∧σ=[(1, .ptr (lid S.nx 0) 0),(4, .slice (lid S.nx 1) 0 ts.length),(6,vnat k)]∧S'=St S [] [some (4,[vl vint fi,vl vint fo,vl vint ts,vl jd bs]),some (2,jh jY d)]) bs.length ?_ ?_
   ·exact ⟨0,List.replicate ts.length ⟨false,0,0⟩,by omega,rfl,by simp,by simp,by rw [←hD]; rfl,by simp [Fr.only],rfl⟩
   ·rintro c σ T ⟨k,d,hk,rfl,hdl,hnn,hpd,rfl,rfl⟩
    by_cases hkt:k<bs.length
    ·have hw:=jo hkt hbl;have hst:=WF (ds:=d) hkt;rw [←Ss.putLs_block] at hst;have hbk:=hbf _ (List.getElem_mem hkt);obtain ⟨⟨ps,code,⟨tk,ta,to,az⟩⟩,hx⟩ : ∃ b,bs[k]=b:=⟨_,rfl⟩
     rw [hx] at hst hbk;obtain ⟨⟨hpl,_⟩,⟨hcl,hcf⟩,_⟩:=hbk;simp only at hst hpl hcl hcf;obtain ⟨L,hL⟩ : ∃ L,Ss.Block.lists ⟨ps,code,⟨tk,ta,to,az⟩⟩=L:=⟨_,rfl⟩
     rw [hL] at hst;have hLl:L.length=code.length+1:=by rw [←hL]; simp [Ss.Block.lists]
     repeat first|refine QG ?_|refine QY ?_ (r:=by conv=>lhs;simp[-List.map_set,QV,hkt,hx])
     repeat refine QS ?_
     refine je [1,4,6,7,8] rfl (fun c σ S' => ∃ (j:Nat) (d:List Ss.Def) (p:Int),j≤L.length∧c=L.length-j∧p=(j:Int)-1∧d.length=ts.length∧(∀ x∈d,x.made=true→0≤x.block)∧((Ss.putLs k j d (L.drop j)).bind fun d=>Ss.putBlocks (k+1) d (bs.drop (k+1)))=D∧σ=[(1, .ptr (lid S.nx 0) 0),(4, .slice (lid S.nx 1) 0 ts.length),(6,vnat k),(7, .ptr (lid S.nx 2) 0),(8, .int .i64 p)]∧S'=St S [] [some (4,[vl vint fi,vl vint fo,vl vint ts,vl jd bs]),some (2,jh jY d),some (6,[vl vint ps,vl jm code,vint tk,vint ta,vl jk to,vl vint az])]) L.length ?_ ?_
     ·exact ⟨0,d, -1,by omega,rfl,by omega,hdl,hnn,by rw [←hpd,hst]; rfl,by simp [Fr.only],rfl⟩
     ·rintro c σ T ⟨j,d,p,hj,rfl,hp,hdl,hnn,hpd,rfl,rfl⟩
      by_cases hjt:j<L.length
      ·have hwp:IntKind.i64.wrap (p+1)=p+1:=wrap_i64 (by omega) (by omega);have hpc:p<(code.length:Int):=by omega
       have hst:=Ss.putLs_one (i:=(k:Int)) (ds:=d) hjt;rw [hst] at hpd;obtain ⟨l,hl⟩ : ∃ l,L[j]=l:=⟨_,rfl⟩
       rw [hl, ←hp] at hpd;have hlen:l.length<2^63:=by
        cases j with
        | zero =>
         have:l=ps:=by rw [←hl]; simp [←hL,Ss.Block.lists]
         rw [this]; omega
        | succ m =>
         have hm:m<code.length:=by omega
         have:l=code[m].outs:=by rw [←hl]; simp [←hL,Ss.Block.lists]
         have hxf:=hcf _ (List.getElem_mem hm);obtain ⟨_,_,_,hxo,_⟩:=hxf;rw [this]; omega
       repeat first|refine QG ?_|refine QY ?_ (r:=by conv=>lhs;simp[-List.map_set,QV,hpc])
       refine Yf (fun σ S'=>σ=[(1, .ptr (lid S.nx 0) 0),(4, .slice (lid S.nx 1) 0 ts.length),(6,vnat k),(7, .ptr (lid S.nx 2) 0),(8, .int .i64 p),(9,vl vint l)]∧S'=St S [] [some (4,[vl vint fi,vl vint fo,vl vint ts,vl jd bs]),some (2,jh jY d),some (6,[vl vint ps,vl jm code,vint tk,vint ta,vl jk to,vl vint az])]) [1,4,6,7,8,9] ?_ ?_
       ·cases j with
        | zero =>
         obtain rfl:l=ps:=by rw [←hl]; simp [←hL,Ss.Block.lists]
         obtain rfl:p = -1:=by omega
         repeat first|refine QG ?_|refine QY ?_
         exact ⟨by simp [Fr.only],by simp⟩
        | succ m =>
         have hm:m<code.length:=by omega
         obtain rfl:p=(m:Int):=by omega
         obtain ⟨⟨o1,o2,o3,o4⟩,hxm⟩ : ∃ x,code[m]=x:=⟨_,rfl⟩
         obtain rfl:l=o4:=by
          have:l=code[m].outs:=by rw [←hl]; simp [←hL,Ss.Block.lists]
          rw [this,hxm]
         repeat first|refine QG ?_|refine QY ?_ (r:=by conv=>lhs;simp[-List.map_set,QV,hm,hxm])
         exact ⟨by simp [Fr.only],by simp⟩
       rintro σ S' ⟨rfl,rfl⟩
       repeat first|refine QG ?_|refine QY ?_
       repeat refine QS ?_
       refine je [1,4,6,7,8,9,10] rfl (fun c σ S' => ∃ (m:Nat) (d2:List Ss.Def),m≤l.length∧c=l.length-m∧d2.length=ts.length∧(∀ x∈d2,x.made=true→0≤x.block)∧(((Ss.put k p d2 (l.drop m)).bind fun d=>Ss.putLs k (j+1) d (L.drop (j+1))).bind fun d=>Ss.putBlocks (k+1) d (bs.drop (k+1)))=D∧σ=[(1, .ptr (lid S.nx 0) 0),(4, .slice (lid S.nx 1) 0 ts.length),(6,vnat k),(7, .ptr (lid S.nx 2) 0),(8, .int .i64 p),(9,vl vint l),(10,vnat m)]∧S'=St S [] [some (4,[vl vint fi,vl vint fo,vl vint ts,vl jd bs]),some (2,jh jY d2),some (6,[vl vint ps,vl jm code,vint tk,vint ta,vl jk to,vl vint az])]) l.length ?_ ?_
       ·exact ⟨0,d,by omega,rfl,hdl,hnn,hpd,by simp [Fr.only],rfl⟩
       ·rintro c σ T ⟨m,d2,hm,rfl,hdl,hnn,hpd,rfl,rfl⟩
        by_cases hmt:m<l.length
        ·have hwm:=jo hmt hlen;have hst:Ss.put k p d2 (l.drop m)=if l[m]<0∨(d2.length:Int)≤l[m]∨(d2.getD l[m].toNat default).made=true then none else Ss.put k p (d2.set l[m].toNat ⟨true,k,p⟩) (l.drop (m+1)):=by rw [List.drop_eq_getElem_cons hmt,Ss.put]
         obtain ⟨v,hxv⟩ : ∃ v,l[m]=v:=⟨_,rfl⟩
         rw [hxv] at hst;have bad:(v<0∨(d2.length:Int)≤v∨(d2.getD v.toNat default).made=true)→D=none:=fun hb=>by rw [←hpd,hst,if_pos hb]; rfl
         by_cases q1:v<0
         ·repeat first|refine QG ?_|refine QY ?_ (r:=by conv=>lhs;simp[-List.map_set,QV,hmt,hxv,q1])
          obtain rfl:=bad (.inl q1);exact ji hwf ((Ghost.tuple [] [_] (Ghost.nils_list _)).toB _) rfl
         obtain ⟨n,rfl⟩ : ∃ n:Nat,v=n:=⟨v.toNat,by omega⟩
         by_cases q2:n<d2.length
         case neg =>
          have q2':(ts.length:Int)≤(n:Int):=by omega
          obtain rfl:=bad (.inr (.inl (by omega)))
          repeat first|refine QG ?_|refine QY ?_ (r:=by conv=>lhs;simp[-List.map_set,QV,hmt,hxv,q1,q2'])
          exact ji hwf ((Ghost.tuple [] [_] (Ghost.nils_list _)).toB _) rfl
         have q2' : ¬ (ts.length:Int)≤(n:Int):=by omega
         obtain ⟨⟨dm,db,dp⟩,hdx⟩ : ∃ x,d2[n]=x:=⟨_,rfl⟩
         have hdg:d2.getD (n:Int).toNat default=⟨dm,db,dp⟩:=by simp [q2,hdx]
         have hcell:(jh jY d2)[n*2]? = some (vint (if dm then db else -1)):=WR (enc:=jY) (s:=2) (fun _=>rfl) d2 n 0 ⟨dm,db,dp⟩ _ (by rw [←hdx]; exact List.getElem?_eq_getElem q2) rfl;have hfl:(jh jY d2).length=d2.length*2:=zP (enc:=jY) (s:=2) (fun _=>rfl) d2;have hn2:n<ts.length:=by omega
         by_cases q3:dm=true
         ·obtain rfl:=bad (.inr (.inr (by rw [hdg]; exact q3)));subst q3;have hb0:0≤db:=by
           have:=hnn _ (List.getElem_mem q2);rw [hdx] at this;exact this rfl
          repeat first|refine QG ?_|refine QY ?_ (r:=by conv=>lhs;simp[-List.map_set,QV,hmt,hxv,q1,q2',hcell,hn2,hb0])
          exact ji hwf ((Ghost.tuple [] [_] (Ghost.nils_list _)).toB _) rfl
         ·obtain rfl:dm=false:=by simpa using q3
          have hfit:n*2+2≤(jh jY d2).length:=by omega
          rw [if_neg (by rw [hdg]; rintro (h | h | h)<;>first | exact q1 h | exact q3 h | omega)] at hst;have hfs:=jaz (enc:=jY) (s:=2) (fun _=>rfl) ⟨true,k,p⟩ d2 n q2
          repeat first|refine QG ?_|refine QY ?_ (r:=by conv=>lhs;simp[-List.map_set,QV,hmt,hxv,q1,q2',hcell,hn2,hfit])
          show jx _ _ _ _ _ _ _;exact again ⟨Nat.sub_lt_sub_left hmt (Nat.lt_succ_self m),m+1,d2.set n ⟨true,k,p⟩,hmt,rfl,by simp [hdl],fun x hx hm=>(List.mem_or_eq_of_mem_set hx).elim (fun h=>hnn x h hm) (fun h=>by rw [h]; simp),by rw [←hpd,hst]; rfl,by simp [Fr.only,hwm],by rw [hfs]; simp [WV]⟩
        ·have e1:l.drop m=[]:=by rw [List.drop_eq_nil_iff]; omega
         rw [e1] at hpd;have hpd2:((Ss.putLs k (j+1) d2 (L.drop (j+1))).bind fun d=>Ss.putBlocks (k+1) d (bs.drop (k+1)))=D:=hpd
         repeat first|refine QG ?_|refine QY ?_ (r:=by conv=>lhs;simp[-List.map_set,QV,hmt,hwp])
         show jx _ _ _ _ _ _ _;exact again ⟨Nat.sub_lt_sub_left hjt (Nat.lt_succ_self j),j+1,d2,p+1,hjt,rfl,by omega,hdl,hnn,hpd2,by simp [Fr.only,hwp],rfl⟩
      ·have hpc : ¬ p<(code.length:Int):=by omega
       rw [Ss.putLs_end hjt] at hpd;simp only [Option.bind_some] at hpd
       repeat first|refine QG ?_|refine QY ?_ (r:=by conv=>lhs;simp[-List.map_set,QV,hpc])
       refine jS [0,1] (by conv=>lhs; simp [Fr.only]) hwf (by decide) (by simp [-List.map_set,zB,zF]) (by conv=>lhs; simp [-List.map_set,zB,zF]) (by conv=>lhs; simp [-List.map_set,zB,zF]) (by conv=>lhs; simp [-List.map_set,zB,zF]) ⟨?_,k+1,d,hkt,rfl,hdl,hnn,hpd,by simp [hw],by simp⟩;omega
    ·repeat first|refine QG ?_|refine QY ?_ (r:=by conv=>lhs;simp[-List.map_set,QV,hkt])
     have e1:bs.drop k=[]:=by rw [List.drop_eq_nil_iff]; omega
     rw [e1] at hpd;have hpe:D=some d:=by rw [←hpd]; rfl
     subst hpe;have hfz:=frzSt (B:=S) (u:=[]) (l:=[some (4,[vl vint fi,vl vint fo,vl vint ts,vl jd bs]),some (2,jh jY d)]) (k:=1) (enc:=jY) (s:=2) (fun _=>rfl) JM d (by simp) (by rfl);rw [hdl] at hfz;exact ji hwf ((Ghost.tuple [] [_] hfz).toB _) rfl
end Go.Vw

namespace Go.Vw
open Go.Proofs Go.RowKit
set_option maxRecDepth 10000
set_option maxHeartbeats 4000000
attribute [local simp] encRDef_eq
abbrev ckR (e:Ss.Env) (f:Ss.Fn) (ds:List Ss.Def) (near:List Int):V := .ref (.agg (ckC e f (vl jY ds) (vl vint near)))
theorem reqF_step {α:Type} {p:α→α→Bool} {l m:List α} {k:Nat} (h1:k<l.length) (h2:k<m.length):eqF p (l.drop k) (m.drop k)=(p l[k] m[k]&&eqF p (l.drop (k+1)) (m.drop (k+1))):=by
 rw [List.drop_eq_getElem_cons h1,List.drop_eq_getElem_cons h2,eqF]
theorem reqF_end {α:Type} {p:α→α→Bool} {l m:List α} {k:Nat} (h1 : ¬ k<l.length) (h2 : ¬ k<m.length):eqF p (l.drop k) (m.drop k)=true:=by
 have e1:l.drop k=[]:=by rw [List.drop_eq_nil_iff]; omega
 have e2:m.drop k=[]:=by rw [List.drop_eq_nil_iff]; omega
 rw [e1,e2,eqF]
theorem jbW (e:Ss.Env) (f:Ss.Fn) (ds:List Ss.Def) (near:List Int) (l:List Int) (hl:l.length≤1048576) (hv:Ss.InTs f.types.length l):VPure Tryz.prog 48 [ckR e f ds near,vl vint l] (vl vint (Ss.typesOf f.types l)):=by
 intro S;obtain ⟨⟨fi,fo⟩,ts,bs⟩:=f;simp only at hv;generalize hg:(fun v:Int=>ts.getD v.toNat 0)=g;have hX:Ss.typesOf ts l=l.map g:=by rw [Ss.typesOf,hg]
 simp only;rw [hX];refine jb (c:=jg Tryz.f48) Tryz.func48 rfl rfl (by simp [Tryz.ntmps48]) ?_;rw [Tryz.ntmps48];intro hwf
 repeat refine QS ?_
 refine QY ?_
 repeat refine QS ?_
 refine QY ?_;refine qW 5 1 rfl (by conv=>lhs; simp [Fr.set]) ?_
 repeat first|refine QG ?_|refine QY ?_
 repeat refine QS ?_
 refine je [0,1,5,6] rfl (fun c σ S' => ∃ (k:Nat) (out:List Int),k≤l.length∧c=l.length-k∧out=(l.take k).map g∧out.length=k∧σ=[(0,ckR e ⟨⟨fi,fo⟩,ts,bs⟩ ds near),(1,vl vint l),(5, .slice (lid S.nx 0) 0 k),(6,vnat k)]∧S'=St S [] [some (1,out.map vint)]) l.length ?_ ?_
 ·exact ⟨0,[],by omega,rfl,by simp,rfl,by simp [Fr.only],by simp⟩
 ·rintro c σ T ⟨k,out,hk,rfl,ho,hlen,rfl,rfl⟩
  by_cases hkt:k<l.length
  ·have hw:=jo hkt (by omega);obtain ⟨h0,h1⟩:=hv _ (List.getElem_mem hkt);obtain ⟨v,hx⟩ : ∃ v,l[k]=v:=⟨_,rfl⟩
   rw [hx] at h0 h1;obtain ⟨n,rfl⟩ : ∃ n:Nat,v=n:=⟨v.toNat,by omega⟩
   have hn:n<ts.length:=by omega
   have hgn:g (n:Int)=ts[n]:=by rw [←hg]; simp [hn]
   have htk:l.take (k+1)=l.take k++[(n:Int)]:=by rw [List.take_add_one,List.getElem?_eq_getElem hkt,hx]; rfl
   have hb:(k+1)*8≤140737488355328:=by omega
   have hb':k+1≤140737488355328:=by omega
   repeat first|refine QG ?_|refine QY ?_ (r:=by conv=>lhs;simp[-List.map_set,QV,hkt,hx,hn,hlen,hb,hb'])
   repeat refine QS ?_
   refine jN (St S [] [none]) (St S [] [none]) [] rfl (by kernel_rfl) (by conv=>lhs; reduce) (by conv=>lhs; reduce) (by kernel_rfl) (by kernel_rfl) (jv (by simp [subU,shpU,subL,shpL])) (by conv=>lhs; simp [-List.map_set,QV,hkt,hx,hn,hlen,hb,hb']) ?_;refine jf rfl (by conv=>lhs;simp[-List.map_set,QV,hkt,hx,hn,hlen,hb,hb']) (jv (by simp [subU,shpU,subL,shpL])) ?_;refine jf rfl (by conv=>lhs;simp[-List.map_set,QV,hkt,hx,hn,hlen,hb,hb']) (jv (by simp [subU,shpU,subL,shpL])) ?_;refine QW ?_
   repeat first|refine QG ?_|refine QY ?_ (r:=by conv=>lhs;simp[-List.map_set,QV,hkt,hx,hn,hlen,hb,hb'])
   refine QA [2] (h:=⟨?_,k+1,out++[ts[n]],hkt,rfl,by rw [htk,List.map_append,ho]; simp [hgn],by simp [hlen],by simp [hw],by simp⟩);omega
  ·have hke:k=l.length:=by omega
   subst hke;rw [List.take_length] at ho
   repeat first|refine QG ?_|refine QY ?_ (r:=by conv=>lhs;simp[-List.map_set,QV,hkt])
   rw [←ho];exact ji hwf ((frz1 (by simp) (by rfl) (jG vint (fun _=>rfl) _) (by simpa using hlen)).toB _) rfl
theorem jbX (e:Ss.Env) (f:Ss.Fn) (ds:List Ss.Def) (near:List Int) (block pos:Int) (l types:List Int) (hds:ds.length=f.types.length) (htl:f.types.length<2^63) (hnl:near.length<2^63) (hl:l.length<2^63) (hnn : ∀ x∈ds,x.made=true→0≤x.block) :
  VPure Tryz.prog 89 [ckR e f ds near,vl vint l,vl vint types,vint block,vint pos] (.bool (Ss.asks f.types ds near block pos l types)):=by
 intro S;obtain ⟨⟨fi,fo⟩,ts,bs⟩:=f;simp only at hds htl ⊢;unfold Ss.asks;generalize hP:Ss.askOk ts ds near block pos=P
 by_cases hlm:l.length=types.length
 case neg =>
  have hlm' : ¬ (l.length:Int)=(types.length:Int):=by omega
  rw [eqF_len hlm];refine jb (c:=jg Tryz.f89) Tryz.func89 rfl rfl (by simp [Tryz.ntmps89]) ?_;rw [Tryz.ntmps89];intro hwf
  repeat first|refine QG ?_|refine QY ?_ (r:=by conv=>lhs;simp[-List.map_set,QV,hlm,hlm'])
  exact ja hwf rfl rfl
 have hlm':(l.length:Int)=(types.length:Int):=by omega
 refine jb (c:=jg Tryz.f89) Tryz.func89 rfl rfl (by simp [Tryz.ntmps89]) ?_;rw [Tryz.ntmps89];intro hwf
 repeat first|refine QG ?_|refine QY ?_ (r:=by conv=>lhs;simp[-List.map_set,QV,hlm,hlm'])
 repeat refine QS ?_
 refine je [0,1,2,3,4,11] rfl (fun c σ S' => ∃ (k:Nat),k≤l.length∧c=l.length-k∧eqF P (l.drop k) (types.drop k)=eqF P l types∧σ=[(0,ckR e ⟨⟨fi,fo⟩,ts,bs⟩ ds near),(1,vl vint l),(2,vl vint types),(3,vint block),(4,vint pos),(11,vnat k)]∧S'=St S [] []) l.length ?_ ?_
 ·exact ⟨0,by omega,rfl,rfl,by simp [Fr.only],rfl⟩
 ·rintro c σ T ⟨k,hk,rfl,hd,rfl,rfl⟩
  by_cases hkt:k<l.length
  case neg =>
   have hkm : ¬ k<types.length:=by omega
   repeat first|refine QG ?_|refine QY ?_ (r:=by conv=>lhs;simp[-List.map_set,QV,hkt])
   rw [←hd,reqF_end hkt hkm];exact ja hwf rfl rfl
  have hkm:k<types.length:=by omega
  have hw:=jo hkt hl;have hst:=reqF_step (p:=P) hkt hkm;obtain ⟨v,hx⟩ : ∃ v,l[k]=v:=⟨_,rfl⟩
  obtain ⟨t,ht⟩ : ∃ t,types[k]=t:=⟨_,rfl⟩
  rw [hx,ht] at hst
  by_cases h0:v<0
  ·have e:P v t=false:=by rw [←hP]; simp [Ss.askOk]; omega
   rw [e,Bool.false_and,hd] at hst
   repeat first|refine QG ?_|refine QY ?_ (r:=by conv=>lhs;simp[-List.map_set,QV,hkt,hx,h0])
   rw [hst];exact ja hwf rfl rfl
  obtain ⟨n,rfl⟩ : ∃ n:Nat,v=n:=⟨v.toNat,by omega⟩
  by_cases hnt:n<ts.length
  case neg =>
   have h1':(ts.length:Int)≤(n:Int):=by omega
   have e:P n t=false:=by rw [←hP]; simp [Ss.askOk]; omega
   rw [e,Bool.false_and,hd] at hst
   repeat first|refine QG ?_|refine QY ?_ (r:=by conv=>lhs;simp[-List.map_set,QV,hkt,hx,h0,h1'])
   rw [hst];exact ja hwf rfl rfl
  have h1' : ¬ (ts.length:Int)≤(n:Int):=by omega
  have h1:n<ds.length:=by omega
  obtain ⟨tt,htt⟩ : ∃ x,ts[n]=x:=⟨_,rfl⟩
  obtain ⟨⟨dm,db,dp⟩,hdx⟩ : ∃ x,ds[n]=x:=⟨_,rfl⟩
  have hX:P n t=(decide (tt=t)&&(dm&&(if db=block then decide (dp<pos) else G.dominates near db block))):=by
   rw [←hP];simp [Ss.askOk,h1,hnt,htt,hdx,Bool.and_assoc]
  rw [hX] at hst
  by_cases h2:tt=t
  case neg =>
   rw [decide_eq_false h2,Bool.false_and,Bool.false_and,hd] at hst
   repeat first|refine QG ?_|refine QY ?_ (r:=by conv=>lhs;simp[-List.map_set,QV,hkt,hkm,hx,ht,h0,h1',hnt,htt,h2])
   rw [hst];exact ja hwf rfl rfl
  rw [decide_eq_true h2,Bool.true_and] at hst
  cases dm with
  | false =>
   rw [Bool.false_and,Bool.false_and,hd] at hst
   repeat first|refine QG ?_|refine QY ?_ (r:=by conv=>lhs;simp[-List.map_set,QV,hkt,hkm,hx,ht,h0,h1',hnt,htt,h2,h1,hdx])
   rw [hst];exact ja hwf rfl rfl
  | true =>
   have hb0 : ¬ db<0:=by
    have:=hnn _ (List.getElem_mem h1);rw [hdx] at this;have:=this rfl;simp only at this;omega
   rw [Bool.true_and] at hst
   by_cases h3:db=block
   ·rw [if_pos h3] at hst;subst h3
    by_cases h4:dp<pos
    ·have h4' : ¬ pos≤dp:=by omega
     rw [decide_eq_true h4,Bool.true_and,hd] at hst
     repeat first|refine QG ?_|refine QY ?_ (r:=by conv=>lhs;simp[-List.map_set,QV,hkt,hkm,hx,ht,h0,h1',hnt,htt,h2,h1,hdx,hb0,h4'])
     refine QA [] (h:=⟨?_,k+1,hkt,rfl,hst.symm,by simp [hw],by simp⟩);omega
    ·have h4':pos≤dp:=by omega
     rw [decide_eq_false h4,Bool.false_and,hd] at hst
     repeat first|refine QG ?_|refine QY ?_ (r:=by conv=>lhs;simp[-List.map_set,QV,hkt,hkm,hx,ht,h0,h1',hnt,htt,h2,h1,hdx,hb0,h4'])
     rw [hst];exact ja hwf rfl rfl
   ·rw [if_neg h3] at hst;have cd:=RDominates_v near db block hnl;generalize G.dominates near db block=y at *
    repeat first|refine QG ?_|refine QY ?_ (r:=by conv=>lhs;simp[-List.map_set,QV,hkt,hkm,hx,ht,h0,h1',hnt,htt,h2,h1,hdx,hb0,h3])
    repeat refine QS ?_
    refine QD (r:=by conv=>lhs;simp[-List.map_set,QV,hkt,hkm,hx,ht,h0,h1',hnt,htt,h2,h1,hdx,hb0,h3]) (k:=?_);refine jc (cd) (by rfl) ?_
    by_cases hy:y=true
    ·rw [hy,Bool.true_and,hd] at hst;refine QM (by conv=>lhs;simp[-List.map_set,QV,hy]) ?_;refine QN ?_
     repeat first|refine QG ?_|refine QY ?_
     refine QA [] (h:=⟨?_,k+1,hkt,rfl,hst.symm,by simp [hw],by simp⟩);omega
    ·have hy':y=false:=by simpa using hy
     rw [hy',Bool.false_and,hd] at hst;refine QM (by conv=>lhs;simp[-List.map_set,QV,hy']) ?_;refine QN ?_
     repeat first|refine QG ?_|refine QY ?_
     rw [hst];exact ja hwf rfl rfl
end Go.Vw

namespace Ss
def rin (op a b:Int):Bool:=decide (a≤op)&&decide (op≤b)
def rof (op:Int):Int :=
 if rin op 69 79∨rin op 103 120∨op=172∨op=173∨op=192∨op=193 then 127
 else if rin op 80 90∨rin op 121 138∨op=167∨rin op 194 196 then 126 else 0
def runary (op:Int):Bool:=decide (op=69)||(decide (op=80)||(rin op 103 105||(rin op 121 123||decide (167≤op))))
def rsigT (op:Int):Int:=if op=172∨op=173 then 126 else if rin op 69 90∨op=167 then 127 else rof op
def rsig (op:Int):List Int × Int × Bool :=
 if rof op=0 then ([],0,false) else (if runary op then [rof op] else [rof op,rof op],rsigT op,true)
theorem rsig_small : ∀ n:Nat,n<256→rsig (n:Int)=numSig (n:Int):=by decide +kernel
theorem rsig_eq (op:Int):rsig op=numSig op:=by
 by_cases h:0≤op∧op<256
 ·obtain ⟨n,rfl⟩:=Int.eq_ofNat_of_zero_le h.1;exact rsig_small n (by have:=h.2; omega)
 ·have h1:rof op=0:=by
   unfold rof;rw [if_neg (by simp only [rin,Bool.and_eq_true,decide_eq_true_eq]; omega),if_neg (by simp only [rin,Bool.and_eq_true,decide_eq_true_eq]; omega)]
  have h2:find op=none:=by
   cases hf:find op with
   | none=>rfl
   | some g =>
    exfalso
    obtain ⟨hm,hh⟩:=YD hf;have ha : ∀ g∈groups,0≤g.first∧g.first+g.many≤256:=by decide +kernel
    have:=ha g hm;simp only [Grp.has,Bool.and_eq_true,decide_eq_true_eq] at hh;omega
  simp [rsig,h1,numSig,h2]
end Ss
namespace Go.Vw
open Go.Proofs Go.RowKit
set_option maxRecDepth 10000
set_option maxHeartbeats 2000000
theorem in_v (op a b:Int):VPure Tryz.prog 126 [vint op,vint a,vint b] (.bool (Ss.rin op a b)):=by
 intro S
 by_cases h:a≤op
 ·have hX:Ss.rin op a b=decide (op≤b):=by simp [Ss.rin,h]
  rw [hX];refine jb (c:=jg Tryz.f126) Tryz.func126 rfl rfl (by simp [Tryz.ntmps126]) ?_;rw [Tryz.ntmps126];intro hwf
  repeat first|refine QG ?_|refine QY ?_ (r:=by conv=>lhs;simp[-List.map_set,QV,h])
  exact ja hwf (by simp) rfl
 ·have hX:Ss.rin op a b=false:=by simp [Ss.rin,h]
  rw [hX];refine jb (c:=jg Tryz.f126) Tryz.func126 rfl rfl (by simp [Tryz.ntmps126]) ?_;rw [Tryz.ntmps126];intro hwf
  repeat first|refine QG ?_|refine QY ?_ (r:=by conv=>lhs;simp[-List.map_set,QV,h])
  exact ja hwf (by simp) rfl
theorem Fits_v (t n:Int):VPure Tryz.prog 91 [vint t,vu n] (.bool (decide (t=126)||(decide (t=127)&&decide (n<4294967296)))):=by
 intro S;refine jb (c:=jg Tryz.f91) Tryz.func91 rfl rfl (by simp [Tryz.ntmps91]) ?_;rw [Tryz.ntmps91];intro hwf
 by_cases h:t=126
 ·repeat first|refine QG ?_|refine QY ?_ (r:=by conv=>lhs;simp[-List.map_set,QV,h])
  exact ja hwf (by simp [h]) rfl
 by_cases h2:t=127
 ·repeat first|refine QG ?_|refine QY ?_ (r:=by conv=>lhs;simp[-List.map_set,QV,h,h2])
  exact ja hwf (by simp [h,h2]) rfl
 ·repeat first|refine QG ?_|refine QY ?_ (r:=by conv=>lhs;simp[-List.map_set,QV,h,h2])
  exact ja hwf (by simp [h,h2]) rfl
theorem Of_v (op:Int):VPure Tryz.prog 125 [vint op] (vint (Ss.rof op)):=by
 intro S;have c1:VPure Tryz.prog 126 [vint op, .int .i64 69, .int .i64 79] (.bool (Ss.rin op 69 79)):=in_v op 69 79;have c2:VPure Tryz.prog 126 [vint op, .int .i64 103, .int .i64 120] (.bool (Ss.rin op 103 120)):=in_v op 103 120;have c3:VPure Tryz.prog 126 [vint op, .int .i64 80, .int .i64 90] (.bool (Ss.rin op 80 90)):=in_v op 80 90;have c4:VPure Tryz.prog 126 [vint op, .int .i64 121, .int .i64 138] (.bool (Ss.rin op 121 138)):=in_v op 121 138;have c5:VPure Tryz.prog 126 [vint op, .int .i64 194, .int .i64 196] (.bool (Ss.rin op 194 196)):=in_v op 194 196;have hX:Ss.rof op=if Ss.rin op 69 79∨Ss.rin op 103 120∨op=172∨op=173∨op=192∨op=193 then 127
  else if Ss.rin op 80 90∨Ss.rin op 121 138∨op=167∨Ss.rin op 194 196 then 126 else 0:=rfl
 rw [hX];generalize Ss.rin op 69 79=x1 at *
 generalize Ss.rin op 103 120=x2 at *
 generalize Ss.rin op 80 90=x3 at *
 generalize Ss.rin op 121 138=x4 at *
 generalize Ss.rin op 194 196=x5 at *
 clear hX;refine jb (c:=jg Tryz.f125) Tryz.func125 rfl rfl (by simp [Tryz.ntmps125]) ?_;rw [Tryz.ntmps125];intro hwf
 repeat first|refine QG ?_|refine QY ?_
 repeat refine QS ?_
 refine QP ?_;refine jc (c1) (by rfl) ?_
 by_cases h1:x1=true
 ·refine QM (by conv=>lhs;simp[-List.map_set,QV,h1]) ?_;refine QN ?_
  repeat first|refine QG ?_|refine QY ?_
  exact ja hwf (by simp [h1]) rfl
 have g1:x1=false:=by simpa using h1
 refine QM (by conv=>lhs;simp[-List.map_set,QV,g1]) ?_;refine jc (c2) (by rfl) ?_
 by_cases h2:x2=true
 ·refine QM (by conv=>lhs;simp[-List.map_set,QV,h2]) ?_;refine QN ?_
  repeat first|refine QG ?_|refine QY ?_
  exact ja hwf (by simp [h2]) rfl
 have g2:x2=false:=by simpa using h2
 by_cases k1:op=172
 ·refine QM (by conv=>lhs;simp[-List.map_set,QV,g2,k1]) ?_;refine QN ?_
  repeat first|refine QG ?_|refine QY ?_
  exact ja hwf (by simp [k1]) rfl
 by_cases k2:op=173
 ·refine QM (by conv=>lhs;simp[-List.map_set,QV,g2,k1,k2]) ?_;refine QN ?_
  repeat first|refine QG ?_|refine QY ?_
  exact ja hwf (by simp [k2]) rfl
 by_cases k3:op=192
 ·refine QM (by conv=>lhs;simp[-List.map_set,QV,g2,k1,k2,k3]) ?_;refine QN ?_
  repeat first|refine QG ?_|refine QY ?_
  exact ja hwf (by simp [k3]) rfl
 by_cases k4:op=193
 ·refine QM (by conv=>lhs;simp[-List.map_set,QV,g2,k1,k2,k3,k4]) ?_;refine QN ?_
  repeat first|refine QG ?_|refine QY ?_
  exact ja hwf (by simp [k4]) rfl
 rw [if_neg (by simp [g1,g2,k1,k2,k3,k4])];refine QM (by conv=>lhs;simp[-List.map_set,QV,g2,k1,k2,k3,k4]) ?_;refine QN ?_
 repeat first|refine QG ?_|refine QY ?_
 repeat refine QS ?_
 refine QP ?_;refine jc (c3) (by rfl) ?_
 by_cases h3:x3=true
 ·refine QM (by conv=>lhs;simp[-List.map_set,QV,h3]) ?_;refine QN ?_
  repeat first|refine QG ?_|refine QY ?_
  exact ja hwf (by simp [h3]) rfl
 have g3:x3=false:=by simpa using h3
 refine QM (by conv=>lhs;simp[-List.map_set,QV,g3]) ?_;refine jc (c4) (by rfl) ?_
 by_cases h4:x4=true
 ·refine QM (by conv=>lhs;simp[-List.map_set,QV,h4]) ?_;refine QN ?_
  repeat first|refine QG ?_|refine QY ?_
  exact ja hwf (by simp [h4]) rfl
 have g4:x4=false:=by simpa using h4
 by_cases k5:op=167
 ·refine QM (by conv=>lhs;simp[-List.map_set,QV,g4,k5]) ?_;refine QN ?_
  repeat first|refine QG ?_|refine QY ?_
  exact ja hwf (by simp [k5]) rfl
 refine QM (by conv=>lhs;simp[-List.map_set,QV,g4,k5]) ?_;refine jc (c5) (by rfl) ?_
 by_cases h5:x5=true
 ·refine QM (by conv=>lhs;simp[-List.map_set,QV,h5]) ?_;refine QN ?_
  repeat first|refine QG ?_|refine QY ?_
  exact ja hwf (by simp [h5]) rfl
 have g5:x5=false:=by simpa using h5
 refine QM (by conv=>lhs;simp[-List.map_set,QV,g5]) ?_;refine QN ?_
 repeat first|refine QG ?_|refine QY ?_
 exact ja hwf (by simp [g3,g4,k5,g5]) rfl
theorem Unary_v (op:Int):VPure Tryz.prog 141 [vint op] (.bool (Ss.runary op)):=by
 intro S;have c1:VPure Tryz.prog 126 [vint op, .int .i64 103, .int .i64 105] (.bool (Ss.rin op 103 105)):=in_v op 103 105;have c2:VPure Tryz.prog 126 [vint op, .int .i64 121, .int .i64 123] (.bool (Ss.rin op 121 123)):=in_v op 121 123;have hX:Ss.runary op=(decide (op=69)||(decide (op=80)||(Ss.rin op 103 105||(Ss.rin op 121 123||decide (167≤op))))):=rfl;rw [hX];generalize Ss.rin op 103 105=x1 at *
 generalize Ss.rin op 121 123=x2 at *
 refine jb (c:=jg Tryz.f141) Tryz.func141 rfl rfl (by simp [Tryz.ntmps141]) ?_;rw [Tryz.ntmps141];intro hwf
 by_cases k1:op=69
 ·repeat first|refine QG ?_|refine QY ?_ (r:=by conv=>lhs;simp[-List.map_set,QV,k1])
  exact ja hwf (by simp [k1]) rfl
 by_cases k2:op=80
 ·repeat first|refine QG ?_|refine QY ?_ (r:=by conv=>lhs;simp[-List.map_set,QV,k1,k2])
  exact ja hwf (by simp [k2]) rfl
 repeat first|refine QG ?_|refine QY ?_
 repeat refine QS ?_
 refine QP ?_ (r:=by conv=>lhs;simp[-List.map_set,QV,k1,k2]);refine jc (c1) (by rfl) ?_
 by_cases h1:x1=true
 ·refine QM (by conv=>lhs;simp[-List.map_set,QV,h1]) ?_;refine QN ?_
  repeat first|refine QG ?_|refine QY ?_
  exact ja hwf (by simp [h1]) rfl
 have g1:x1=false:=by simpa using h1
 refine QM (by conv=>lhs;simp[-List.map_set,QV,g1]) ?_;refine jc (c2) (by rfl) ?_
 by_cases h2:x2=true
 ·refine QM (by conv=>lhs;simp[-List.map_set,QV,h2]) ?_;refine QN ?_
  repeat first|refine QG ?_|refine QY ?_
  exact ja hwf (by simp [h2]) rfl
 have g2:x2=false:=by simpa using h2
 refine QM (by conv=>lhs;simp[-List.map_set,QV,g2]) ?_;refine QN ?_
 repeat first|refine QG ?_|refine QY ?_
 exact ja hwf (by simp [k1,k2,g1,g2]) rfl
theorem RNumSig_v (op:Int):VPure Tryz.prog 119 [vint op] (.tuple [vl vint (Ss.numSig op).1,vint (Ss.numSig op).2.1, .bool (Ss.numSig op).2.2]):=by
 intro S;rw [←Ss.rsig_eq op];have c1:=Of_v op;have c2:=Unary_v op;have c3:VPure Tryz.prog 126 [vint op, .int .i64 69, .int .i64 90] (.bool (Ss.rin op 69 90)):=in_v op 69 90;have hX:Ss.rsig op=if Ss.rof op=0 then ([],0,false) else (if Ss.runary op then [Ss.rof op] else [Ss.rof op,Ss.rof op],if op=172∨op=173 then 126 else if Ss.rin op 69 90∨op=167 then 127 else Ss.rof op,true):=rfl
 rw [hX];generalize Ss.rof op=t at *
 generalize Ss.runary op=un at *
 generalize Ss.rin op 69 90=x at *
 clear hX;refine jb (c:=jg Tryz.f119) Tryz.func119 rfl rfl (by simp [Tryz.ntmps119]) ?_;rw [Tryz.ntmps119];intro hwf
 repeat first|refine QG ?_|refine QY ?_
 repeat refine QS ?_
 refine QP ?_;refine jc (c1) (by rfl) ?_
 by_cases ht:t=0
 ·refine QW ?_
  repeat first|refine QG ?_|refine QY ?_ (r:=by conv=>lhs;simp[-List.map_set,QV,ht])
  rw [if_pos ht];exact ji (l:=[]) hwf (Ghost.toB (Ghost.tuple [] [_,_] (Ghost.nils_list _)) _) rfl
 rw [if_neg ht];refine QW ?_
 repeat first|refine QG ?_|refine QY ?_ (r:=by conv=>lhs;simp[-List.map_set,QV,ht])
 repeat refine QS ?_
 refine QP ?_;refine jc (c2) (by rfl) ?_;obtain ⟨r,hr⟩ : ∃ r,(if op=172∨op=173 then 126 else if x∨op=167 then 127 else t)=r:=⟨_,rfl⟩
 simp only [hr]
 by_cases hu:un=true
 ·rw [if_pos hu];refine QM (by conv=>lhs;simp[-List.map_set,QV,hu]) ?_;refine QN ?_
  repeat first|refine QG ?_|refine QY ?_ (r:=by conv=>lhs;simp[-List.map_set,QV,hu])
  refine vw_trim 6 1 rfl (by simp) rfl (by conv=>lhs; simp [List.set_cons_zero,List.set_cons_succ]) ?_
  repeat refine QS ?_
  refine QP ?_;refine jc (c3) (by rfl) ?_
  by_cases hx:x=true
  ·skip
   refine QM (by conv=>lhs;simp[-List.map_set,QV,hx]) ?_;refine QN ?_
   by_cases k1:op=172
   ·obtain rfl:r=126:=by rw [←hr]; simp [k1]
    repeat first|refine QG ?_|refine QY ?_ (r:=by conv=>lhs;simp[-List.map_set,QV,hx,k1])
    exact ji hwf ((Ghost.tuple [] [_,_] (frz1 (k:=0) (by simp) (by rfl) (by rfl) (by rfl))).toB _) rfl
   by_cases k2:op=173
   ·obtain rfl:r=126:=by rw [←hr]; simp [k2]
    repeat first|refine QG ?_|refine QY ?_ (r:=by conv=>lhs;simp[-List.map_set,QV,hx,k1,k2])
    exact ji hwf ((Ghost.tuple [] [_,_] (frz1 (k:=0) (by simp) (by rfl) (by rfl) (by rfl))).toB _) rfl
   obtain rfl:r=127:=by rw [←hr]; simp [k1,k2,hx]
   repeat first|refine QG ?_|refine QY ?_ (r:=by conv=>lhs;simp[-List.map_set,QV,hx,k1,k2])
   exact ji hwf ((Ghost.tuple [] [_,_] (frz1 (k:=0) (by simp) (by rfl) (by rfl) (by rfl))).toB _) rfl
  have hx':x=false:=by simpa using hx
  by_cases hq:op=167
  ·skip
   refine QM (by conv=>lhs;simp[-List.map_set,QV,hx',hq]) ?_;refine QN ?_;have k1 : ¬ op=172:=by omega
   have k2 : ¬ op=173:=by omega
   obtain rfl:r=127:=by rw [←hr]; simp [k1,k2,hq]
   repeat first|refine QG ?_|refine QY ?_ (r:=by conv=>lhs;simp[-List.map_set,QV,hx',hq,k1,k2])
   exact ji hwf ((Ghost.tuple [] [_,_] (frz1 (k:=0) (by simp) (by rfl) (by rfl) (by rfl))).toB _) rfl
  refine QM (by conv=>lhs;simp[-List.map_set,QV,hx',hq]) ?_;refine QN ?_
  by_cases k1:op=172
  ·obtain rfl:r=126:=by rw [←hr]; simp [k1]
   repeat first|refine QG ?_|refine QY ?_ (r:=by conv=>lhs;simp[-List.map_set,QV,hx',hq,k1])
   exact ji hwf ((Ghost.tuple [] [_,_] (frz1 (k:=0) (by simp) (by rfl) (by rfl) (by rfl))).toB _) rfl
  by_cases k2:op=173
  ·obtain rfl:r=126:=by rw [←hr]; simp [k2]
   repeat first|refine QG ?_|refine QY ?_ (r:=by conv=>lhs;simp[-List.map_set,QV,hx',hq,k1,k2])
   exact ji hwf ((Ghost.tuple [] [_,_] (frz1 (k:=0) (by simp) (by rfl) (by rfl) (by rfl))).toB _) rfl
  obtain rfl:r=t:=by rw [←hr]; simp [k1,k2,hx',hq]
  repeat first|refine QG ?_|refine QY ?_ (r:=by conv=>lhs;simp[-List.map_set,QV,hx',hq,k1,k2])
  exact ji hwf ((Ghost.tuple [] [_,_] (frz1 (k:=0) (by simp) (by rfl) (by rfl) (by rfl))).toB _) rfl
 ·replace hu:un=false:=by simpa using hu
  rw [if_neg (by simp [hu])];refine QM (by conv=>lhs;simp[-List.map_set,QV,hu]) ?_;refine QN ?_
  repeat first|refine QG ?_|refine QY ?_ (r:=by conv=>lhs;simp[-List.map_set,QV,hu])
  repeat refine QS ?_
  refine QP ?_;refine jc (c3) (by rfl) ?_
  by_cases hx:x=true
  ·skip
   refine QM (by conv=>lhs;simp[-List.map_set,QV,hx]) ?_;refine QN ?_
   by_cases k1:op=172
   ·obtain rfl:r=126:=by rw [←hr]; simp [k1]
    repeat first|refine QG ?_|refine QY ?_ (r:=by conv=>lhs;simp[-List.map_set,QV,hx,k1])
    exact ji hwf ((Ghost.tuple [] [_,_] (frz1 (k:=0) (by simp) (by rfl) (by rfl) (by rfl))).toB _) rfl
   by_cases k2:op=173
   ·obtain rfl:r=126:=by rw [←hr]; simp [k2]
    repeat first|refine QG ?_|refine QY ?_ (r:=by conv=>lhs;simp[-List.map_set,QV,hx,k1,k2])
    exact ji hwf ((Ghost.tuple [] [_,_] (frz1 (k:=0) (by simp) (by rfl) (by rfl) (by rfl))).toB _) rfl
   obtain rfl:r=127:=by rw [←hr]; simp [k1,k2,hx]
   repeat first|refine QG ?_|refine QY ?_ (r:=by conv=>lhs;simp[-List.map_set,QV,hx,k1,k2])
   exact ji hwf ((Ghost.tuple [] [_,_] (frz1 (k:=0) (by simp) (by rfl) (by rfl) (by rfl))).toB _) rfl
  have hx':x=false:=by simpa using hx
  by_cases hq:op=167
  ·skip
   refine QM (by conv=>lhs;simp[-List.map_set,QV,hx',hq]) ?_;refine QN ?_;have k1 : ¬ op=172:=by omega
   have k2 : ¬ op=173:=by omega
   obtain rfl:r=127:=by rw [←hr]; simp [k1,k2,hq]
   repeat first|refine QG ?_|refine QY ?_ (r:=by conv=>lhs;simp[-List.map_set,QV,hx',hq,k1,k2])
   exact ji hwf ((Ghost.tuple [] [_,_] (frz1 (k:=0) (by simp) (by rfl) (by rfl) (by rfl))).toB _) rfl
  refine QM (by conv=>lhs;simp[-List.map_set,QV,hx',hq]) ?_;refine QN ?_
  by_cases k1:op=172
  ·obtain rfl:r=126:=by rw [←hr]; simp [k1]
   repeat first|refine QG ?_|refine QY ?_ (r:=by conv=>lhs;simp[-List.map_set,QV,hx',hq,k1])
   exact ji hwf ((Ghost.tuple [] [_,_] (frz1 (k:=0) (by simp) (by rfl) (by rfl) (by rfl))).toB _) rfl
  by_cases k2:op=173
  ·obtain rfl:r=126:=by rw [←hr]; simp [k2]
   repeat first|refine QG ?_|refine QY ?_ (r:=by conv=>lhs;simp[-List.map_set,QV,hx',hq,k1,k2])
   exact ji hwf ((Ghost.tuple [] [_,_] (frz1 (k:=0) (by simp) (by rfl) (by rfl) (by rfl))).toB _) rfl
  obtain rfl:r=t:=by rw [←hr]; simp [k1,k2,hx',hq]
  repeat first|refine QG ?_|refine QY ?_ (r:=by conv=>lhs;simp[-List.map_set,QV,hx',hq,k1,k2])
  exact ji hwf ((Ghost.tuple [] [_,_] (frz1 (k:=0) (by simp) (by rfl) (by rfl) (by rfl))).toB _) rfl
end Go.Vw

namespace Go.Vw
open Go.Proofs Go.RowKit
set_option maxRecDepth 10000
set_option maxHeartbeats 4000000
theorem RAccess_v (op:Int):VPure Tryz.prog 120 [vint op] (.tuple [vint ((Ss.accOf op).getD ⟨0,0,false,false⟩).kind,vint ((Ss.accOf op).getD ⟨0,0,false,false⟩).width, .bool ((Ss.accOf op).getD ⟨0,0,false,false⟩).store, .bool (Ss.accOf op).isSome]):=by
 intro S
 by_cases h:op=40∨op=41∨op=44∨op=45∨op=46∨op=47∨op=48∨op=49∨op=50∨op=51∨op=52∨op=53∨op=54∨op=55∨op=58∨op=59∨op=60∨op=61∨op=62
 ·refine jb (c:=jg Tryz.f120) Tryz.func120 rfl rfl (by simp [Tryz.ntmps120]) ?_;rw [Tryz.ntmps120];intro hwf;rcases h with rfl | rfl | rfl | rfl | rfl | rfl | rfl | rfl | rfl | rfl | rfl | rfl | rfl | rfl | rfl | rfl | rfl | rfl | rfl
  all_goals
   repeat first|refine QG ?_|refine QY ?_
   exact ja hwf rfl rfl
 ·simp only [not_or] at h;obtain ⟨h1,h2,h3,h4,h5,h6,h7,h8,h9,h10,h11,h12,h13,h14,h15,h16,h17,h18,h19⟩:=h;have hn:Ss.accOf op=none:=by simp [Ss.accOf,Ss.accL,Ss.findK,h1,h2,h3,h4,h5,h6,h7,h8,h9,h10,h11,h12,h13,h14,h15,h16,h17,h18,h19]
  rw [hn];refine jb (c:=jg Tryz.f120) Tryz.func120 rfl rfl (by simp [Tryz.ntmps120]) ?_;rw [Tryz.ntmps120];intro hwf
  repeat first|refine QG ?_|refine QY ?_ (r:=by conv=>lhs;simp[-List.map_set,QV,h1,h2,h3,h4,h5,h6,h7,h8,h9,h10,h11,h12,h13,h14,h15,h16,h17,h18,h19])
  exact ja hwf rfl rfl
end Go.Vw
