import Derived.Test.YtkfllaokjaldnaaGreatC29
import Derived.Test.YtkfllaokjaldnaaGreatC20
import Derived.Test.YtkfllaokjaldnaaGreatC24
import Derived.Test.YtkfllaokjaldnaaGreatC22
import Derived.Test.YtkfllaokjaldnaaGreatC21
import Derived.Test.YtkfllaokjaldnaaGreatC11
import Derived.Test.YtkfllaokjaldnaaGreatProg
import Derived.Test.YtkfllaokjaldnaaGreatC16
import Derived.Test.YtkfllaokjaldnaaGreatC18
/-
  Part of the proof (texts CTick, CCirc, GWalk, GOrder, GWithout).
-/
set_option linter.unusedVariables false
set_option linter.unusedSimpArgs false
namespace Go.Vw
open Go.Proofs Go.RowKit
set_option maxRecDepth 10000
set_option maxHeartbeats 4000000
theorem RSucc_v (f:Ss.Fn) (hf:f.Fits) (hs:f.small=true):VPure Tryz.prog 20 [qD f] (vl (vl vint) (Ss.succs f.blocks)):=by
 intro S;refine Jb fun hwf=>zk ((RSuccO_v S f hf hs).mono ?_)
 rintro r T ⟨rfl,rfl⟩;exact ji hwf ((frz1 (k:=0) (cells:=(Ss.succs f.blocks).map (vl vint)) (by simp) (by rfl) (jG (vl vint) (fun _=>rfl) _) (by simp [Ss.succs])).toB _) rfl
theorem any_drop {α:Type} (p:α→Bool) {l:List α} {k:Nat} (h:k<l.length):(l.drop k).any p=(p l[k]||(l.drop (k+1)).any p):=by
 rw [List.drop_eq_getElem_cons h,List.any_cons]
theorem any_drop_end {α:Type} (p:α→Bool) {l:List α} {k:Nat} (h : ¬ k<l.length):(l.drop k).any p=false:=by
 have:l.drop k=[]:=by rw [List.drop_eq_nil_iff]; omega
 rw [this]; rfl
theorem ticks_v (b:Ss.Block) (hb:b.code.length<2^63):VPure Tryz.prog 87 [jd b] (.bool (Ss.tickB b)):=by
 intro S;obtain ⟨ps,code,⟨tk,ta,to,az⟩⟩:=b;simp only at hb;have hX:Ss.tickB ⟨ps,code,⟨tk,ta,to,az⟩⟩=code.any fun x=>decide (x.op=258):=rfl
 rw [hX];generalize hP:(fun x:Ss.Ins=>decide (x.op=258))=P;refine jb (c:=jg Tryz.f87) Tryz.func87 rfl rfl (by simp [Tryz.ntmps87]) ?_;rw [Tryz.ntmps87];intro hwf
 repeat first|refine QG ?_|refine QY ?_
 repeat refine QS ?_
 refine je [1,3] rfl (fun c σ S' => ∃ (k:Nat),k≤code.length∧c=code.length-k∧(code.drop k).any P=code.any P∧σ=[(1, .ptr (lid S.nx 0) 0),(3,vnat k)]∧S'=St S [] [some (6,[vl vint ps,vl jm code,vint tk,vint ta,vl jk to,vl vint az])]) code.length ?_ ?_
 ·exact ⟨0,by omega,rfl,rfl,by simp [Fr.only],rfl⟩
 ·rintro c σ T ⟨k,hk,rfl,hd,rfl,rfl⟩
  by_cases hkt:k<code.length
  ·have hst:=any_drop P hkt;have hw:=jo hkt hb;obtain ⟨⟨o,n,a,u⟩,hx⟩ : ∃ x,code[k]=x:=⟨_,rfl⟩
   have hp:P ⟨o,n,a,u⟩=decide (o=258):=by rw [←hP]
   rw [hx,hp] at hst
   by_cases h1:o=258
   ·rw [decide_eq_true h1,Bool.true_or,hd] at hst
    repeat first|refine QG ?_|refine QY ?_ (r:=by conv=>lhs;simp[-List.map_set,QV,hkt,hx,h1])
    rw [hst];exact ja hwf rfl rfl
   ·rw [decide_eq_false h1,Bool.false_or,hd] at hst
    repeat first|refine QG ?_|refine QY ?_ (r:=by conv=>lhs;simp[-List.map_set,QV,hkt,hx,h1,hw])
    show jx _ _ _ _ _ _ _;exact again ⟨by omega,k+1,by omega,rfl,hst.symm,by simp [Fr.only],rfl⟩
  ·repeat first|refine QG ?_|refine QY ?_ (r:=by conv=>lhs;simp[-List.map_set,QV,hkt])
   rw [←hd,any_drop_end _ hkt];exact ja hwf rfl rfl
end Go.Vw

namespace Ss
inductive Ends (G:List (List Nat)):Nat→Prop
 | mk (i:Nat) (h : ∀ k∈G.getD i [],Ends G k):Ends G i
def msk (bs:List Block) (G:List (List Nat)):List (List Nat):=List.zipWith (fun b r=>if tickB b then [] else r) bs G
theorem msk_len {bs:List Block} {G:List (List Nat)} (h:G.length=bs.length):(msk bs G).length=bs.length:=by simp [msk,h]
theorem part_set {α:Type} {M G:List α} {k:Nat} (h1:k<M.length) (h2:k<G.length) (x:α) (hx:x=M[k]):(M.take k++G.drop k).set k x=M.take (k+1)++G.drop (k+1):=by
 subst hx;rw [List.drop_eq_getElem_cons h2,List.set_append_right _ _ (by simp; omega)];have e:k-(M.take k).length=0:=by simp; omega
 rw [e,List.set_cons_zero,List.take_succ_eq_append_getElem h1,List.append_assoc]
 rfl
theorem part_same {α:Type} {M G:List α} {k:Nat} (h1:k<M.length) (h2:k<G.length) (hx:M[k]=G[k]):M.take k++G.drop k=M.take (k+1)++G.drop (k+1):=by
 rw [List.drop_eq_getElem_cons h2,List.take_succ_eq_append_getElem h1,List.append_assoc,hx]
 rfl
theorem part_get {α:Type} {M G:List α} {k:Nat} (h1:k≤M.length) (h2:k<G.length):(M.take k++G.drop k)[k]? = some G[k]:=by
 rw [List.getElem?_append_right (by simp; omega)];have e:k-(M.take k).length=0:=by simp; omega
 rw [e]; simp [h2]
def fals:List Bool→Nat
 | []=>0
 | b::bs=>(if b then 0 else 1)+fals bs
theorem fals_set : ∀ {l:List Bool} {i:Nat},l[i]? = some false→fals (l.set i true)+1=fals l
 | [],i,h=>by simp at h
 | b::bs,0,h=>by
  have hb:b=false:=by simpa using h
  simp only [hb,List.set_cons_zero,fals]; simp; omega
 | b::bs,i+1,h=>by
  have:=fals_set (l:=bs) (i:=i) (by simpa using h);simp only [List.set_cons_succ,fals]; omega
structure GoneOk (M:List (List Nat)) (gone:List Bool):Prop where
 len:gone.length=M.length
 ends : ∀ i,gone[i]? = some true→Ends M i
def Shut (M:List (List Nat)) (gone:List Bool) (i:Nat):Prop:=(∀ k∈M.getD i [],gone.getD k false=true)→gone.getD i false=true
theorem shut_ends {M:List (List Nat)} {gone:List Bool} (h : ∀ i<M.length,Shut M gone i) (hr : ∀ r∈M, ∀ k∈r,k<M.length) {i:Nat} (he:Ends M i):i<M.length→gone.getD i false=true:=by
 induction he with
 | mk i _ ih =>
  intro hi;refine h i hi fun k hk=>ih k hk ?_
  have e:M.getD i []=M[i]:=by simp [hi]
  rw [e] at hk;exact hr _ (List.getElem_mem hi) k hk
end Ss
namespace Go.Vw
open Go.Proofs Go.RowKit
set_option maxRecDepth 10000
set_option maxHeartbeats 8000000
theorem doneB {S:Store} {l:List (Option (Nat × List V))} (hwf:S.Wf) (b:Bool) {p:Bool→Prop} (hp:p b):Zn S.nx (fun r T => ∃ b,r = .bool b∧p b∧T=S) (.bool b) (St S [] l):=by
 obtain ⟨x,S',hg,h1,h2⟩:=ja (l:=l) (r := .bool b) hwf rfl rfl;exact ⟨x,S',hg,b,h1,hp,h2⟩
theorem any_take {α:Type} (p:α→Bool) {l:List α} {j:Nat} (h:j<l.length):(l.take (j+1)).any p=((l.take j).any p||p l[j]):=by
 rw [List.take_add_one,List.getElem?_eq_getElem h,List.any_append]; simp
theorem St_St0 {B:Store} {u:Upds} {l:List (Option (Nat × List V))} {d:Nat × List V}:St (St B u l) [] [some d]=(St B u l).add d:=by
 refine Store.ext' (funext fun o' => ?_) rfl;rw [Jj,Kl]
 by_cases h:o'<(St B u l).nx
 ·rw [if_pos h,if_neg (by omega)];simp only [uGet]
 ·rw [if_neg h]
  by_cases e:o'=(St B u l).nx
  ·subst e;rw [if_pos rfl]; simp
  ·rw [if_neg e,Jj];have hnx:(St B u l).nx=B.nx+l.length:=by rw [jQ]; rfl
   rw [if_neg (by omega),List.getElem?_eq_none (l:=l) (by omega),List.getElem?_eq_none (by rw [List.length_singleton]; omega)]
theorem circles_v (f:Ss.Fn) (hf:f.Fits) (hs:f.small=true) (G:List (List Nat)) (hG:(Ss.succs f.blocks).map (vl vint)=G.map (vl vnat)) (hrow : ∀ r∈G,r.length<2^62 ∧ ∀ k∈r,k<G.length) (S:Store) :
  VCalls Tryz.prog 49 [qD f] S (fun r T => ∃ b,r = .bool b∧(b=false ↔ ∀ i<G.length,Ss.Ends (Ss.msk f.blocks G) i)∧T=S):=by
 have hso:=fun S=>RSuccO_v S f hf hs
 have hGl:G.length=f.blocks.length:=by have:=congrArg List.length hG; simpa [Ss.succs] using this.symm
 obtain ⟨_,hbl,hbf,_⟩:=qd hs;have htv : ∀ (k:Nat) (h:k<f.blocks.length),VPure Tryz.prog 87 [jd f.blocks[k]] (.bool (Ss.tickB f.blocks[k])):=fun k h=>ticks_v _ (by have:=(hbf _ (List.getElem_mem h)).2.2; omega)
 rw [hG] at hso;obtain ⟨⟨fi,fo⟩,ts,bs⟩:=f;simp only at hGl hbl hso htv ⊢;obtain ⟨M,hM⟩ : ∃ M,Ss.msk bs G=M:=⟨_,rfl⟩
 have hMl:M.length=bs.length:=by rw [←hM]; exact Ss.msk_len hGl
 have hMk : ∀ (k:Nat) (h1:k<bs.length) (h2:k<G.length) (h3:k<M.length),M[k]=if Ss.tickB bs[k] then [] else G[k]:=fun k h1 h2 h3=>by simp [←hM,Ss.msk]
 rw [hM];clear hG;refine jb (c:=jg Tryz.f49) Tryz.func49 rfl rfl (by simp [Tryz.ntmps49]) ?_;rw [Tryz.ntmps49];intro hwf
 repeat first|refine QG ?_|refine QY ?_
 repeat refine QS ?_
 refine QP ?_;refine qb (xs:=[.agg [vl vint fi,vl vint fo,vl vint ts,vl jd bs]]) rfl (hso _) ?_;rintro X S' ⟨rfl,rfl⟩;rw [St_St0,Yd,jQ,lid_lid];simp only [List.cons_append,List.nil_append,List.length_cons,List.length_nil,Nat.zero_add,Nat.add_zero];refine QW ?_
 repeat first|refine QG ?_|refine QY ?_
 repeat refine QS ?_
 refine je [1,3,4] rfl (fun c σ S' => ∃ (k:Nat),k≤bs.length∧c=bs.length-k∧σ=[(1, .ptr (lid S.nx 0) 0),(3, .slice (lid S.nx 1) 0 bs.length),(4,vnat k)]∧S'=St S [] [some (4,[vl vint fi,vl vint fo,vl vint ts,vl jd bs]),some (1,(M.take k++G.drop k).map (vl vnat))]) bs.length ?_ ?_
 ·exact ⟨0,by omega,rfl,by simp [Fr.only],by simp⟩
 ·rintro c σ T ⟨k,hk,rfl,rfl,rfl⟩
  by_cases hkt:k<bs.length
  ·have hw:=jo hkt (by omega);have hkG:k<G.length:=by omega
   have hkM:k<M.length:=by omega
   have h1:=hMk k hkt hkG hkM;have hget:=Ss.part_get (M:=M) (G:=G) (k:=k) (by omega) hkG;have hset:=Ss.part_set (M:=M) (G:=G) hkM hkG;have hsame:=Ss.part_same (M:=M) (G:=G) hkM hkG;have hRl:(M.take k++G.drop k).length=bs.length:=by simp; omega
   generalize M.take k++G.drop k=R at *
   have ct:=htv k hkt;obtain ⟨⟨ps,code,⟨tk,ta,to,az⟩⟩,hx⟩ : ∃ b,bs[k]=b:=⟨_,rfl⟩
   rw [hx] at ct h1;generalize Ss.tickB ⟨ps,code,⟨tk,ta,to,az⟩⟩=tb at *
   have ct':VPure Tryz.prog 87 [.agg [vl vint ps,vl jm code, .int .i64 tk, .int .i64 ta,vl jk to,vl vint az]] (.bool tb):=ct
   repeat first|refine QG ?_|refine QY ?_ (r:=by conv=>lhs;simp[-List.map_set,QV,hkt,hx])
   repeat refine QS ?_
   refine QP ?_ (r:=by conv=>lhs;simp[-List.map_set,QV,hkt,hx]);refine jc (ct') (by rfl) ?_
   by_cases htb:tb=true
   ·rw [htb,if_pos rfl] at h1;have hs:=hset [] h1.symm;refine QM (by conv=>lhs;simp[-List.map_set,QV,htb]) ?_;refine QN ?_
    repeat refine QS ?_
    refine jH rfl rfl rfl ?_
    repeat refine QS ?_
    refine QY ?_ (r:=by conv=>lhs;simp[-List.map_set,QV,hkt,hRl])
    apply ju
    ·exact Reach.nilCell (k:=1) (i:=k) (by simp) (by rfl) (by simp [hkt,hRl])
    simp only [List.set_cons_succ,List.set_cons_zero]
    repeat first|refine QG ?_|refine QY ?_ (r:=by conv=>lhs;simp[-List.map_set,QV,hw])
    show jx _ _ _ _ _ _ _;exact again ⟨by omega,k+1,by omega,rfl,by simp [Fr.only],by rw [←hs,List.map_set]; rfl⟩
   ·rw [if_neg htb] at h1;have hs:=hsame h1;have htb':tb=false:=by simpa using htb
    refine QM (by conv=>lhs;simp[-List.map_set,QV,htb']) ?_;refine QN ?_
    repeat first|refine QG ?_|refine QY ?_ (r:=by conv=>lhs;simp[-List.map_set,QV,hw])
    show jx _ _ _ _ _ _ _;exact again ⟨by omega,k+1,by omega,rfl,by simp [Fr.only],by rw [hs]⟩
  ·have hke:k=bs.length:=by omega
   subst hke;have hMt:M.take bs.length++G.drop bs.length=M:=by rw [←hMl,List.take_length,hMl, ←hGl,List.drop_length,List.append_nil]
   rw [hMt];have hMr : ∀ r∈M,r.length<2^62 ∧ ∀ k∈r,k<M.length:=fun r hr=>by
    obtain ⟨j,hj,rfl⟩:=List.getElem_of_mem hr;rw [hMk j (by omega) (by omega) hj];split
    ·simp
    ·have:=hrow _ (List.getElem_mem (show j<G.length by omega));exact ⟨this.1,fun k hk=>by have:=this.2 k hk; omega⟩
   rw [show G.length=M.length by omega];have hnl:bs.length<2^62:=by omega
   have hb1:bs.length*1≤140737488355328:=by omega
   have hb2:bs.length≤140737488355328:=by omega
   have hrep:rep0 [V.bool false] bs.length=(List.replicate bs.length false).map V.bool:=by simp [rep0_one]
   repeat first|refine QG ?_|refine QY ?_ (r:=by conv=>lhs;simp[-List.map_set,QV,hkt,hb1,hb2,hrep])
   repeat refine QS ?_
   refine je [3,5,6] rfl (fun c σ S' => ∃ (gone:List Bool) (t:Bool),c=2*Ss.fals gone+(if t then 1 else 0)∧Ss.GoneOk M gone∧(t=false → ∀ i<M.length,Ss.Shut M gone i)∧σ=[(3, .slice (lid S.nx 1) 0 bs.length),(5, .slice (lid S.nx 2) 0 bs.length),(6, .bool t)]∧S'=St S [] [some (4,[vl vint fi,vl vint fo,vl vint ts,vl jd bs]),some (1,M.map (vl vnat)),some (1,gone.map V.bool)]) (2*Ss.fals (List.replicate bs.length false)+1) ?_ ?_
   ·exact ⟨List.replicate bs.length false,true,rfl,⟨by simp [hMl],fun i h=>by simp [List.getElem?_replicate] at h⟩,(fun h=>by cases h),by simp [Fr.only],by simp⟩
   ·rintro c σ T ⟨gone,t,rfl,hok,hsh,rfl,rfl⟩;have hgl:gone.length=bs.length:=by rw [hok.len,hMl]
    by_cases ht:t=true
    ·subst ht
     repeat first|refine QG ?_|refine QY ?_
     repeat refine QS ?_
     refine je [3,5,6,7] rfl (fun c σ S' => ∃ (k:Nat) (g:List Bool) (t:Bool),k≤bs.length∧c=bs.length-k∧Ss.GoneOk M g∧(t=true→Ss.fals g<Ss.fals gone)∧(t=false→g=gone ∧ ∀ i<k,Ss.Shut M gone i)∧σ=[(3, .slice (lid S.nx 1) 0 bs.length),(5, .slice (lid S.nx 2) 0 bs.length),(6, .bool t),(7,vnat k)]∧S'=St S [] [some (4,[vl vint fi,vl vint fo,vl vint ts,vl jd bs]),some (1,M.map (vl vnat)),some (1,g.map V.bool)]) bs.length ?_ ?_
     ·exact ⟨0,gone,false,by omega,rfl,hok,(fun h=>by cases h),fun _=>⟨rfl,fun i hi=>by omega⟩,by simp [Fr.only],rfl⟩
     ·rintro c σ T ⟨k,g,t,hk,rfl,hokg,hlt,heq,rfl,rfl⟩;have hgl:g.length=bs.length:=by rw [hokg.len,hMl]
      by_cases hkt:k<bs.length
      ·have hkM:k<M.length:=by omega
       have hw:=jo hkt (by omega);obtain ⟨row,hrow'⟩ : ∃ r,M[k]=r:=⟨_,rfl⟩
       have hrd:M.getD k []=row:=by simp [hkM,hrow']
       obtain ⟨hrl,hrk⟩:=hMr _ (List.getElem_mem hkM);rw [hrow'] at hrl hrk;obtain ⟨P,hP⟩ : ∃ P:Nat→Bool,(fun x => !g.getD x false)=P:=⟨_,rfl⟩
       have hPx : ∀ x,P x = !g.getD x false:=fun x=>by rw [←hP]
       repeat first|refine QG ?_|refine QY ?_ (r:=by conv=>lhs;simp[-List.map_set,QV,hkt,hkM,hrow'])
       repeat refine QS ?_
       refine je [3,5,6,7,8,9] rfl (fun c σ S' => ∃ (j:Nat) (s:Bool),j≤row.length∧c=row.length-j∧s=(row.take j).any P∧σ=[(3, .slice (lid S.nx 1) 0 bs.length),(5, .slice (lid S.nx 2) 0 bs.length),(6, .bool t),(7,vnat k),(8, .bool s),(9,vnat j)]∧S'=St S [] [some (4,[vl vint fi,vl vint fo,vl vint ts,vl jd bs]),some (1,M.map (vl vnat)),some (1,g.map V.bool)]) row.length ?_ ?_
       ·exact ⟨0,false,by omega,rfl,by simp,by simp [Fr.only],rfl⟩
       ·rintro c σ T ⟨j,s,hj,rfl,hs,rfl,rfl⟩
        by_cases hjt:j<row.length
        ·have hwj:=jo hjt (by omega);have hst:=any_take P hjt;have hxl:=hrk _ (List.getElem_mem hjt);obtain ⟨x,hx⟩ : ∃ x,row[j]=x:=⟨_,rfl⟩
         rw [hx] at hst hxl;have hxg:x<g.length:=by omega
         have hxb:x<bs.length:=by omega
         obtain ⟨y,hy⟩ : ∃ y,g[x]=y:=⟨_,rfl⟩
         have hyd:P x = !y:=by rw [hPx]; simp [hxg,hy]
         rw [hyd, ←hs] at hst
         by_cases h1:s=true
         ·rw [h1,Bool.true_or] at hst
          repeat first|refine QG ?_|refine QY ?_ (r:=by conv=>lhs;simp[-List.map_set,QV,hkt,hkM,hrow',hjt,h1,hwj])
          show jx _ _ _ _ _ _ _;exact again ⟨by omega,j+1,true,by omega,rfl,hst.symm,by simp [Fr.only],rfl⟩
         ·have h1':s=false:=by simpa using h1
          rw [h1',Bool.false_or] at hst
          repeat first|refine QG ?_|refine QY ?_ (r:=by conv=>lhs;simp[-List.map_set,QV,hkt,hkM,hrow',hjt,h1',hx,hxg,hxb,hy,hwj])
          show jx _ _ _ _ _ _ _;exact again ⟨by omega,j+1, !y,by omega,rfl,hst.symm,by simp [Fr.only],rfl⟩
        ·have hje:j=row.length:=by omega
         subst hje;rw [List.take_length] at hs;have hkg:k<g.length:=by omega
         obtain ⟨y,hy⟩ : ∃ y,g[k]=y:=⟨_,rfl⟩
         have hyd:g.getD k false=y:=by simp [hkg,hy]
         by_cases h1:s=true
         ·have hsk:Ss.Shut M g k:=fun h=>by
           rw [hrd] at h;rw [h1] at hs;obtain ⟨x,hx1,hx2⟩:=List.any_eq_true.1 hs.symm;rw [hPx,h x hx1] at hx2
           cases hx2
          have heq':t=false→g=gone ∧ ∀ i<k+1,Ss.Shut M gone i:=fun h=>by
           obtain ⟨h2,h3⟩:=heq h;refine ⟨h2,fun i hi => ?_⟩;rcases Nat.lt_succ_iff_lt_or_eq.1 hi with h4 | h4
           ·exact h3 i h4
           ·rw [h4, ←h2]; exact hsk
          repeat first|refine QG ?_|refine QY ?_ (r:=by conv=>lhs;simp[-List.map_set,QV,hkt,hkM,hrow',hjt,h1,hw])
          show jx _ _ _ _ _ _ _;exact again ⟨by omega,k+1,g,t,by omega,rfl,hokg,hlt,heq',by simp [Fr.only],rfl⟩
         have h1':s=false:=by simpa using h1
         have hall : ∀ x∈row,g.getD x false=true:=fun x hx=>by
          rw [h1'] at hs;have:=List.any_eq_false.1 hs.symm x hx;rw [hPx] at this;simpa using this
         by_cases h2:y=true
         ·have hsk:Ss.Shut M g k:=fun _=>by rw [hyd]; exact h2
          have heq':t=false→g=gone ∧ ∀ i<k+1,Ss.Shut M gone i:=fun h=>by
           obtain ⟨h2,h3⟩:=heq h;refine ⟨h2,fun i hi => ?_⟩;rcases Nat.lt_succ_iff_lt_or_eq.1 hi with h4 | h4
           ·exact h3 i h4
           ·rw [h4, ←h2]; exact hsk
          repeat first|refine QG ?_|refine QY ?_ (r:=by conv=>lhs;simp[-List.map_set,QV,hkt,hkM,hrow',hjt,h1',hkg,hy,h2,hw])
          show jx _ _ _ _ _ _ _;exact again ⟨by omega,k+1,g,t,by omega,rfl,hokg,hlt,heq',by simp [Fr.only],rfl⟩
         ·have h2':y=false:=by simpa using h2
          have hf:=Ss.fals_set (l:=g) (i:=k) (by rw [List.getElem?_eq_getElem hkg,hy,h2']);have hok':Ss.GoneOk M (g.set k true):=⟨by rw [List.length_set]; exact hokg.len,fun i hi=>by
           by_cases hik:i=k
           ·subst hik;refine Ss.Ends.mk i fun x hx => ?_
            rw [hrd] at hx;have h4:=hall x hx;have hxg:x<g.length:=by have:=hrk x hx; omega
            exact hokg.ends x (by rw [List.getElem?_eq_getElem hxg]; simpa [hxg] using h4)
           ·rw [List.getElem?_set_ne (fun h=>hik h.symm)] at hi;exact hokg.ends i hi⟩
          have hlt':true=true→Ss.fals (g.set k true)<Ss.fals gone:=fun _=>by
           cases t with
           | true=>have:=hlt rfl; omega
           | false=>obtain ⟨rfl,_⟩:=heq rfl; omega
          repeat first|refine QG ?_|refine QY ?_ (r:=by conv=>lhs;simp[-List.map_set,QV,hkt,hkM,hrow',hjt,h1',hkg,hy,h2',hw])
          show jx _ _ _ _ _ _ _;exact again ⟨by omega,k+1,g.set k true,true,by omega,rfl,hok',hlt',(fun h=>by cases h),by simp [Fr.only],by simp⟩
      ·have hke:k=bs.length:=by omega
       subst hke
       repeat first|refine QG ?_|refine QY ?_ (r:=by conv=>lhs;simp[-List.map_set,QV,hkt])
       show jx _ _ _ _ _ _ _;exact again ⟨by cases t with | true=>(have:=hlt rfl; simp; omega) | false=>(obtain ⟨rfl,_⟩:=heq rfl; simp),g,t,rfl,hokg,(fun h=>by obtain ⟨rfl,h2⟩:=heq h; rw [hMl]; exact h2),by simp [Fr.only],rfl⟩
    ·have ht':t=false:=by simpa using ht
     subst ht';have hsh':=hsh rfl
     repeat first|refine QG ?_|refine QY ?_
     repeat refine QS ?_
     refine je [3,5,10] rfl (fun c σ S' => ∃ (k:Nat),k≤bs.length∧c=bs.length-k∧(∀ i<k,gone.getD i false=true)∧σ=[(3, .slice (lid S.nx 1) 0 bs.length),(5, .slice (lid S.nx 2) 0 bs.length),(10,vnat k)]∧S'=St S [] [some (4,[vl vint fi,vl vint fo,vl vint ts,vl jd bs]),some (1,M.map (vl vnat)),some (1,gone.map V.bool)]) bs.length ?_ ?_
     ·exact ⟨0,by omega,rfl,fun i hi=>by omega,by simp [Fr.only],rfl⟩
     ·rintro c σ T ⟨k,hk,rfl,hall,rfl,rfl⟩
      by_cases hkt:k<bs.length
      ·have hkg:k<gone.length:=by omega
       have hw:=jo hkt (by omega);obtain ⟨y,hy⟩ : ∃ y,gone[k]=y:=⟨_,rfl⟩
       have hyd:gone.getD k false=y:=by simp [hkg,hy]
       by_cases h1:y=true
       ·have hall' : ∀ i<k+1,gone.getD i false=true:=by
         intro i hi;rcases Nat.lt_succ_iff_lt_or_eq.1 hi with h | h
         ·exact hall i h
         ·rw [h,hyd]; exact h1
        repeat first|refine QG ?_|refine QY ?_ (r:=by conv=>lhs;simp[-List.map_set,QV,hkt,hkg,hy,h1,hw])
        show jx _ _ _ _ _ _ _;exact again ⟨by omega,k+1,by omega,rfl,hall',by simp [Fr.only],rfl⟩
       ·have h1':y=false:=by simpa using h1
        have hno : ¬ ∀ i<M.length,Ss.Ends M i:=fun h=>by
         have:=Ss.shut_ends hsh' (fun r hr=>(hMr r hr).2) (h k (by omega)) (by omega);rw [hyd] at this;exact h1 this
        repeat first|refine QG ?_|refine QY ?_ (r:=by conv=>lhs;simp[-List.map_set,QV,hkt,hkg,hy,h1'])
        exact doneB hwf true ⟨(fun h=>by cases h),fun h=>absurd h hno⟩
      ·have hke:k=bs.length:=by omega
       subst hke;have hyes : ∀ i<M.length,Ss.Ends M i:=fun i hi=>hok.ends i (by
        have h1:=hall i (by omega);have hig:i<gone.length:=by omega
        simp only [List.getD_eq_getElem?_getD,List.getElem?_eq_getElem hig,Option.getD_some] at h1;rw [List.getElem?_eq_getElem hig,h1])
       repeat first|refine QG ?_|refine QY ?_ (r:=by conv=>lhs;simp[-List.map_set,QV,hkt])
       exact doneB hwf false ⟨fun _=>hyes,fun _=>rfl⟩
open Classical in
noncomputable def _root_.Ss.circ (M:List (List Nat)):Bool:=decide (¬ ∀ i<M.length,Ss.Ends M i)
open Classical in
theorem circlesP_v (f:Ss.Fn) (hf:f.Fits) (hs:f.small=true) (G:List (List Nat)) (hG:(Ss.succs f.blocks).map (vl vint)=G.map (vl vnat)) (hrow : ∀ r∈G,r.length<2^62 ∧ ∀ k∈r,k<G.length) :
  VPure Tryz.prog 49 [qD f] (.bool (Ss.circ (Ss.msk f.blocks G))):=fun S=>by
 have hGl:G.length=f.blocks.length:=by have:=congrArg List.length hG; simpa [Ss.succs] using this.symm
 refine (circles_v f hf hs G hG hrow S).mono ?_;rintro r T ⟨b,rfl,hb,rfl⟩;refine ⟨?_,rfl⟩
 congr 1
 have e:(Ss.msk f.blocks G).length=G.length:=by rw [Ss.msk_len hGl,hGl]
 unfold Ss.circ;rw [e]
 cases b with
 | false =>
  have h1:=hb.1 rfl;exact (decide_eq_false (p := ¬ _) (not_not_intro h1)).symm
 | true =>
  have h1 : ¬ ∀ i<G.length,Ss.Ends (Ss.msk f.blocks G) i:=fun h=>by have:=hb.2 h; cases this
  exact (decide_eq_true (p := ¬ _) h1).symm
end Go.Vw

namespace Go.Vw
open Go.Proofs Go.RowKit
set_option maxRecDepth 10000
set_option maxHeartbeats 4000000
theorem opIndex_sl {s:Nat} {S:Store} {k:IntKind} {o off len n:Nat} {c} (h:S.get o=some c) (hn:n<len):qm s S (.slice o off len) (.int k (n:Int))=some (.ptr o (off+n*s)):=by
 simp [qm,h,hn]
def Store.push (S:Store) (o:Nat) (cs:List V) (x:V):Store:=((S.add (1,[x])).del o).add (1,cs++[x])
def Store.push0 (S:Store) (x:V):Store:=(S.add (1,[x])).add (1,[x])
section
variable {S:Store} {o:Nat} {cs:List V} {x:V}
theorem push_new:(S.push o cs x).get (S.nx+1)=some (1,cs++[x]):=by simp [Store.push,Store.add,Store.del]
theorem push0_new:(S.push0 x).get (S.nx+1)=some (1,[x]):=by simp [Store.push0,Store.add]
theorem push_old {o':Nat} (h:o'<S.nx) (hn:o'≠o):(S.push o cs x).get o'=S.get o':=by
 have e1 : ¬ o'=S.nx+1:=by omega
 have e2 : ¬ o'=S.nx:=by omega
 simp [Store.push,Store.add,Store.del,e1,e2,hn]
theorem push0_old {o':Nat} (h:o'<S.nx):(S.push0 x).get o'=S.get o':=by
 have e1 : ¬ o'=S.nx+1:=by omega
 have e2 : ¬ o'=S.nx:=by omega
 simp [Store.push0,Store.add,e1,e2]
theorem Agree.push {S0:Store} (h:Agree S0 S) (ho:S0.nx≤o):Agree S0 (S.push o cs x):=((h.add _).del ho).add _
theorem Agree.push0 {S0:Store} (h:Agree S0 S):Agree S0 (S.push0 x):=(h.add _).add _
theorem jci {b len:Nat} (h:S.get o=some (1,cs)) (ho:o<S.nx) (hl:cs.length=len) (hb:(len+1)*b≤140737488355328) (hb1:len+1≤140737488355328) :
  qe 1 b (S.add (1,[x])) (.slice o 0 len) (.slice S.nx 0 1)=some (.slice (S.nx+1) 0 (len+1),S.push o cs x):=by
 have:o≠S.nx:=by omega
 subst hl;simp [qe,jX,Store.add,Store.push,this,h,hb,hb1,Store.del]
 rfl
theorem jaU {b:Nat} (hb:b≤140737488355328) :
  qe 1 b (S.add (1,[x])) .nils (.slice S.nx 0 1)=some (.slice (S.nx+1) 0 1,S.push0 x):=by
 simp [qe,jX,Store.add,Store.push0,hb]
end
namespace G
def DoneAt (S:Store) (b ow om:Nat) (dv:V) (done:List Nat):Prop :=
 (dv = .nils∧done=[]) ∨ ∃ od,dv = .slice od 0 done.length∧S.get od=some (1,done.map vnat)∧od≠ow∧od≠om∧b≤od∧od<S.nx
def WAt (S:Store) (g:List (List Nat)) (b ow om:Nat) (s:WS):Prop :=
 s.1.length=g.length∧ow≠om∧b≤ow∧b≤om∧ow<S.nx∧om<S.nx∧S.get om=some (1,s.1.map V.bool) ∧
 ∃ dv,S.get ow=some (3,[vl (vl vnat) g, .slice om 0 g.length,dv])∧DoneAt S b ow om dv s.2
end G
theorem get_upd (S:Store) (o:Nat) (c:Nat × List V):(S.upd o c).get o=some c:=by simp [Store.upd]
theorem KO (S:Store) {o o':Nat} (c:Nat × List V) (h:o'≠o):(S.upd o c).get o'=S.get o':=by simp [Store.upd,h]
theorem Walk_v (g:List (List Nat)) (hg:G.Ok g) (S0:Store) (ow om:Nat) : ∀ (f n:Nat) (s s':G.WS) (S:Store),n<g.length→G.walk g f n s=some s'→s'.2.length≤2^30→Agree S0 S→G.WAt S g S0.nx ow om s →
  VCalls Tryz.prog 86 [.ptr ow 0,vnat n] S (fun r S'=>r = .tuple []∧Agree S0 S'∧G.WAt S' g S0.nx ow om s')
 | 0,n,s,s',S,hn,hw,hb,hag,hW=>by cases hw
 | f+1,n,s,s',S,hn,hw,hb,hag,hW=>by
  rw [G.walk_succ] at hw;obtain ⟨h1,h2,h3,h4,l1,l2,h5,dv,h6,h7⟩:=hW;refine qQ (c:=jg Tryz.f86) Tryz.func86 rfl rfl (by simp [Tryz.ntmps86]) ?_;rw [Tryz.ntmps86];have hn1:n<s.1.length:=by omega
  repeat refine QS ?_
  refine qi rfl (by conv=>lhs; reduce) (by conv=>lhs; simp [-ql, -jZ,h6,jO,qm,h5,hn,hn1]) ?_;refine QN ?_;have hag1:Agree S0 (S.upd om (1,(List.map V.bool s.1).set n (V.bool true))):=hag.upd h4 _;have hW1:G.WAt (S.upd om (1,(List.map V.bool s.1).set n (V.bool true))) g S0.nx ow om (s.1.set n true,s.2):=by
   refine ⟨by simpa using h1,h2,h3,h4,l1,l2,by rw [get_upd, ←List.map_set],dv,by rw [KO _ _ h2]; exact h6, ?_⟩;rcases h7 with h7 | ⟨od,k1,k2,k3,k4,k5,k6⟩
   ·exact .inl h7
   ·exact .inr ⟨od,k1,by rw [KO _ _ k4]; exact k2,k3,k4,k5,k6⟩
  generalize S.upd om (1,(List.map V.bool s.1).set n (V.bool true))=S1 at hag1 hW1 ⊢;have hgn:g.getD n []=g[n]:=by simp [hn]
  rw [hgn] at hw;obtain ⟨sk,hk,rfl⟩:=Option.map_eq_some_iff.1 hw
  repeat refine QS ?_
  refine qi rfl (by conv=>lhs; reduce) (by conv=>lhs; simp [-ql, -jZ]) ?_;refine QN ?_
  repeat refine QS ?_
  refine jL 0 rfl rfl ?_
  repeat refine QS ?_
  refine je [0,1,4] rfl (fun c σ S' => ∃ (k:Nat) (t:G.WS),k≤g[n].length∧c=g[n].length-k∧G.kids g f (g[n].drop k) t=some sk∧Agree S0 S'∧G.WAt S' g S0.nx ow om t∧σ=[(0, .ptr ow 0),(1,vnat n),(4,vnat k)]) g[n].length ?_ ?_
  ·exact ⟨0,_,by omega,rfl,hk,hag1,hW1,by simp [Fr.only,Fr.look,vnat,vint]⟩
  ·rintro c σ S' ⟨k,t,hkl,rfl,hd,hag2,hW2,rfl⟩;obtain ⟨g1,g2,g3,g4,l3,l4,g5,du,g6,g7⟩:=hW2
   by_cases hk6:k<g[n].length
   ·have h7:(k:Int)<(g[n].length:Int):=by omega
    have hst:G.kids g f (g[n].drop k) t=if t.1.getD g[n][k] false then G.kids g f (g[n].drop (k+1)) t else (G.walk g f g[n][k] t).bind (G.kids g f (g[n].drop (k+1))):=by
     rw [List.drop_eq_getElem_cons hk6,G.kids_cons]
    rw [hst] at hd;have hkn:g[n][k]<g.length:=hg.elt _ (List.getElem_mem hn) _ (List.getElem_mem hk6);have hkt:g[n][k]<t.1.length:=by omega
    have hr:=hg.row _ (List.getElem_mem hn);have hw1:IntKind.i64.wrap ((k:Int)+1)=(k:Int)+1:=wrap_i64 (by omega) (by omega);have hgd:t.1.getD g[n][k] false=t.1[g[n][k]]:=by simp [hkt]
    rw [hgd] at hd
    repeat refine QS ?_
    refine qi rfl (by conv=>lhs; reduce) (by conv=>lhs; simp [-ql, -jZ,g6,jO,qh,jJ,hn,h7]) ?_;refine QN ?_
    repeat refine QS ?_
    refine jH rfl rfl rfl ?_
    repeat refine QS ?_
    refine jD rfl ?_
    repeat refine QS ?_
    refine jL 1 rfl rfl ?_;have ix:=opIndex_sl (s:=1) (k := .i64) (off:=0) g5 hkn
    repeat refine QS ?_
    refine Kr rfl (by kernel_rfl) (by conv=>lhs; reduce) (by conv=>lhs; reduce) (by kernel_rfl) (by conv=>lhs; simp [-ql, -jZ,g6,g5,jO,qh,ix,hn,hk6,hkt]) ?_;refine QN ?_
    cases hm:t.1[g[n][k]]
    ·rw [hm] at hd;obtain ⟨u,e1,e2⟩:=Option.bind_eq_some_iff.1 hd;refine jH rfl rfl (by simp [ev,Fr.look,hm]) ?_
     repeat refine QS ?_
     refine qi rfl (by conv=>lhs; reduce) (by conv=>lhs; simp [-ql, -jZ,g6,jO,qh,hn,hk6]) ?_;refine qb rfl (Walk_v g hg S0 ow om f g[n][k] t u S' hkn e1 ?_ hag2 ⟨g1,g2,g3,g4,l3,l4,g5,du,g6,g7⟩) ?_
     ·have:=(G.kids_len (G.walk_len g f) _ _ _ e2).1;simp at hb; omega
     ·rintro X S2 ⟨rfl,hag3,hW3⟩;refine Ww (by conv=>lhs; simp [-ql, -jZ]) ?_;refine QN ?_
      repeat refine QS ?_
      refine qi rfl (by conv=>lhs; reduce) (by conv=>lhs; simp [-ql, -jZ,hw1]) ?_;refine QN ?_;exact again ⟨Nat.sub_lt_sub_left (by omega) (Nat.lt_succ_self k),k+1,u,by omega,rfl,e2,hag3,hW3,by simp [Fr.only,Fr.look,vnat,vint]⟩
    ·rw [hm] at hd;refine jI rfl rfl (by simp [ev,Fr.look,hm]) ?_
     repeat refine QS ?_
     refine jD rfl ?_
     repeat refine QS ?_
     refine qi rfl (by conv=>lhs; reduce) (by conv=>lhs; simp [-ql, -jZ,hw1]) ?_;refine QN ?_;exact again ⟨Nat.sub_lt_sub_left (by omega) (Nat.lt_succ_self k),k+1,t,by omega,rfl,hd,hag2,⟨g1,g2,g3,g4,l3,l4,g5,du,g6,g7⟩,by simp [Fr.only,Fr.look,vnat,vint]⟩
   ·have h7 : ¬ (k:Int)<(g[n].length:Int):=by omega
    repeat refine QS ?_
    refine qi rfl (by conv=>lhs; reduce) (by conv=>lhs; simp [-ql, -jZ,g6,jO,qh,jJ,hn,h7]) ?_;refine QN ?_
    repeat refine QS ?_
    refine jI rfl rfl rfl ?_
    repeat refine QS ?_
    refine jP 0 rfl rfl ?_;have hz:g[n].drop k=[]:=by rw [List.drop_eq_nil_iff]; omega
    rw [hz,G.kids_nil] at hd
    cases hd
    rcases g7 with ⟨rfl,hnil⟩ | ⟨od,rfl,k2,k3,k4,k5,k6⟩
    ·have ap:=jaU (S:=S') (x := .int .i64 (n:Int)) (b:=8) (by omega);have gp:(S'.push0 (.int .i64 (n:Int))).get ow=some (3,[vl (vl vnat) g,V.slice om 0 g.length,V.nils]):=(push0_old l3).trans g6
     repeat refine QS ?_
     refine qi rfl (by conv=>lhs; reduce) (by conv=>lhs; simp [-ql, -jZ,g6,jO,qx,rep0,qq,ap,gp]) ?_;refine QN ?_;refine ⟨rfl,hag2.push0.upd g3 _,g1,g2,g3,g4,Nat.lt_add_right 2 l3,Nat.lt_add_right 2 l4, ?_,_,get_upd _ _ _, .inr ⟨S'.nx+1, ?_, ?_, ?_, ?_, ?_, ?_⟩⟩
     ·rw [KO _ _ (Ne.symm g2),push0_old l4]; exact g5
     ·simp [hnil]
     ·rw [KO _ _ (by omega),push0_new]; simp [hnil,vnat]
     ·omega
     ·omega
     ·omega
     ·show S'.nx+1<S'.nx+2; omega
    ·have hb2:sk.2.length+1≤2^30:=by simpa using hb
     have ap:=jci (S:=S') (x := .int .i64 (n:Int)) (b:=8) k2 k6 (by simp:_=sk.2.length) (by omega) (by omega);have gp:(S'.push od (List.map vnat sk.2) (.int .i64 (n:Int))).get ow=some (3,[vl (vl vnat) g,V.slice om 0 g.length,V.slice od 0 sk.2.length]):=(push_old l3 (Ne.symm k3)).trans g6
     repeat refine QS ?_
     refine qi rfl (by conv=>lhs; reduce) (by conv=>lhs; simp [-ql, -jZ,g6,jO,qx,rep0,qq,ap,gp]) ?_;refine QN ?_;refine ⟨rfl,(hag2.push k5).upd g3 _,g1,g2,g3,g4,Nat.lt_add_right 2 l3,Nat.lt_add_right 2 l4, ?_,_,get_upd _ _ _, .inr ⟨S'.nx+1, ?_, ?_, ?_, ?_, ?_, ?_⟩⟩
     ·rw [KO _ _ (Ne.symm g2),push_old l4 (Ne.symm k4)]; exact g5
     ·simp
     ·rw [KO _ _ (by omega),push_new]; simp [vnat]
     ·omega
     ·omega
     ·omega
     ·show S'.nx+1<S'.nx+2; omega
end Go.Vw

namespace Go.Vw
open Go.Proofs Go.RowKit
set_option maxRecDepth 10000
set_option maxHeartbeats 4000000
end Go.Vw

namespace Go.Vw
open Go.Proofs Go.RowKit
set_option maxRecDepth 10000
set_option maxHeartbeats 4000000
theorem jaO (g:List (List Nat)) (hg:G.Ok g) (a:Option Nat) (ha : ∀ n,a=some n→n<g.length):VPure Tryz.prog 46 [vl (vl vnat) g,vint (a.elim (-1) Int.ofNat)] (vl V.bool (G.without g a)):=by
 intro S;refine jb (c:=jg Tryz.f46) Tryz.func46 rfl rfl (by simp [Tryz.ntmps46]) ?_;rw [Tryz.ntmps46];intro hwf;have hm256:=hg.max;have hp:0<g.length:=hg.pos;have hb1:g.length*1≤140737488355328:=by omega
 have hb0:g.length≤140737488355328:=by omega
 have wat : ∀ m:List Bool,m.length=g.length→G.WAt (St S [] [some (1,m.map V.bool),some (3,[vl (vl vnat) g, .slice (lid S.nx 0) 0 g.length, .nils])]) g S.nx (lid S.nx 1) (lid S.nx 0) (m,[]):=by
  intro m hm;refine ⟨hm,by simp [lid],by simp [lid],by simp [lid],by rw [jQ]; simp [lid],by rw [jQ]; simp [lid],by simp [jC], .nils,by simp [jC], .inl ⟨rfl,rfl⟩⟩
 cases a with
 | none =>
  obtain ⟨t,w1,w2,w3,w4⟩:=G.metFrom_ends hg (m:=List.replicate g.length false) (by simp) (G.rep_getD _ _);have hX:G.without g none=t.1:=w2;have e1:(-1:Int) = -1:=rfl;simp only [Option.elim];have hrep:List.replicate g.length (V.bool false)=(List.replicate g.length false).map V.bool:=by simp
  repeat first|refine QG ?_|refine QY ?_ (r:=by conv=>lhs;simp[-List.map_set,QV,hb1,hb0])
  repeat refine QS ?_
  refine QP ?_;refine qb rfl (Walk_v g hg S (lid S.nx 1) (lid S.nx 0) g.length 0 _ t _ hp w1 (by omega) JH (by rw [hrep]; exact wat _ (by simp))) ?_;rintro X T ⟨rfl,hag,hW⟩;have hom:=hW.2.2.2.2.2.2.1;obtain ⟨dv,how,_⟩:=hW.2.2.2.2.2.2.2;have hol:=hW.2.2.2.2.2.1;refine QW ?_
  repeat first|refine QG ?_|refine QY ?_ (r:=by conv=>lhs;simp[-List.map_set,QV,how])
  have hfr:=Ghost.freeze1 (len:=g.length) hom (by simp [V.closed1]) (by simp [w4]);rw [hX];exact zG hwf (hfr.toB _) (hag.del (by simp [lid])) rfl
 | some a =>
  have hal:=ha a rfl;simp only [Option.elim];have hrep:List.replicate g.length (V.bool false)=(List.replicate g.length false).map V.bool:=by simp
  by_cases h0:a=0
  ·subst h0;have hX:G.without g (some 0)=List.replicate g.length false:=by simp [G.without]
   repeat first|refine QG ?_|refine QY ?_ (r:=by conv=>lhs;simp[-List.map_set,QV,hb1,hb0,hal])
   have hfr:=frz1 (B:=S) (u:=[]) (l:=[some (1,(List.replicate g.length false).map V.bool),some (3,[vl (vl vnat) g,V.slice (lid S.nx 0) 0 g.length,V.nils])]) (k:=0) (len:=g.length) (cells:=(List.replicate g.length false).map V.bool) (by simp) rfl (by simp [V.closed1]) (by simp);rw [hX];rw [hrep];exact ji hwf (hfr.toB _) rfl
  ·have hz:((List.replicate g.length false).set a true).getD 0 false=false:=by rw [G.getD_set_other h0]; exact G.rep_getD _ _
   obtain ⟨t,w1,w2,w3,w4⟩:=G.metFrom_ends hg (m:=(List.replicate g.length false).set a true) (by simp) hz;have hX:G.without g (some a)=t.1.set a false:=by simp [G.without,h0,w2]
   have ha0 : ¬ (a:Int)=0:=by omega
   have hat:a<t.1.length:=by omega
   repeat first|refine QG ?_|refine QY ?_ (r:=by conv=>lhs;simp[-List.map_set,QV,hb1,hb0,hal,ha0,h0])
   repeat refine QS ?_
   refine QP ?_;refine qb rfl (Walk_v g hg S (lid S.nx 1) (lid S.nx 0) g.length 0 _ t _ hp w1 (by omega) JH (by rw [hrep, ←List.map_set]; exact wat _ (by simp))) ?_;rintro X T ⟨rfl,hag,hW⟩;have hom:=hW.2.2.2.2.2.2.1;obtain ⟨dv,how,_⟩:=hW.2.2.2.2.2.2.2;have hol:=hW.2.2.2.2.2.1;refine QW ?_;have hne : ¬ lid S.nx 1=lid S.nx 0:=by simp [lid]
   repeat first|refine QG ?_|refine QY ?_ (r:=by conv=>lhs;simp[-List.map_set,QV,how,hom,hal,hat,jT,Jh,hne])
   have hfr:=Ghost.freeze1 (S:=T.upd (lid S.nx 0) (1,(t.1.set a false).map V.bool)) (o:=lid S.nx 0) (cells:=(t.1.set a false).map V.bool) (len:=g.length) Jh (jG V.bool (fun _=>rfl) _) (by simp [w4]);rw [hX];exact zG hwf (hfr.toB _) ((hag.upd (by simp [lid]) _).del (by simp [lid])) rfl
end Go.Vw
