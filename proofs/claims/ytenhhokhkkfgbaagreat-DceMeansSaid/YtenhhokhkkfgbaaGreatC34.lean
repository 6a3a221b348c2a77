import Derived.Test.YtenhhokhkkfgbaaGreatC33
/- Part of the proof. -/
set_option linter.unusedVariables false
set_option linter.unusedSimpArgs false
set_option maxRecDepth 10000
set_option maxHeartbeats 8000000
namespace Ss
inductive Ends (G:List (List Nat)):Nat->Prop
 | mk (i:Nat) (h : ∀ k∈G.getD i [],Ends G k):Ends G i
def msk (bs:List Block) (G:List (List Nat)):List (List Nat):=List.zipWith (fun b r=>if tickB b then [] else r) bs G
theorem msk_len {bs:List Block} {G:List (List Nat)} (h:G.length=bs.length):(msk bs G).length=bs.length:=by simp [msk,h]
theorem part_set {α:Type} {M G:List α} {k:Nat} (h1:k<M.length) (h2:k<G.length) (x:α) (hx:x=M[k]):(M.take k++G.drop k).set k x=M.take (k+1)++G.drop (k+1):=by
 subst hx;rw [am h2,List.set_append_right _ _ (by simp; omega)];have e:k-(M.take k).length=0:=by simp; omega
 rw [e,au,List.take_succ_eq_append_getElem h1,List.append_assoc]
 rfl
theorem part_same {α:Type} {M G:List α} {k:Nat} (h1:k<M.length) (h2:k<G.length) (hx:M[k]=G[k]):M.take k++G.drop k=M.take (k+1)++G.drop (k+1):=by
 rw [am h2,List.take_succ_eq_append_getElem h1,List.append_assoc,hx]
 rfl
theorem part_get {α:Type} {M G:List α} {k:Nat} (h1:k<=M.length) (h2:k<G.length):(M.take k++G.drop k)[k]? = some G[k]:=by
 rw [bi (by simp; omega)];have e:k-(M.take k).length=0:=by simp; omega
 rw [e]; simp [h2]
def fals:List Bool->Nat
 | []=>0
 | b::bs=>(if b then 0 else 1)+fals bs
theorem fals_set : ∀ {l:List Bool} {i:Nat},l[i]? = some false->fals (l.set i true)+1=fals l
 | [],i,h=>by simp at h
 | b::bs,0,h=>by
  have hb:b=false:=by simpa using h
  simp only [hb,au,fals]; simp; omega
 | b::bs,i+1,h=>by
  have:=fals_set (l:=bs) (i:=i) (by simpa using h);simp only [aq,fals]; omega
structure GoneOk (M:List (List Nat)) (gone:List Bool):Prop where
 len:gone.length=M.length
 ends : ∀ i,gone[i]? = some true->Ends M i
def Shut (M:List (List Nat)) (gone:List Bool) (i:Nat):Prop:=(∀ k∈M.getD i [],gone.getD k false=true)->gone.getD i false=true
theorem shut_ends {M:List (List Nat)} {gone:List Bool} (h : ∀ i<M.length,Shut M gone i) (hr : ∀ r∈M, ∀ k∈r,k<M.length) {i:Nat} (he:Ends M i):i<M.length->gone.getD i false=true:=by
 induction he with
 | mk i _ ih =>
  intro hi;refine h i hi fun k hk=>ih k hk ?_
  have e:M.getD i []=M[i]:=by simp [hi]
  rw [e] at hk;exact hr _ (ah hi) k hk
end Ss
namespace Go.Vw
open Go.Proofs Go.RowKit
attribute [-simp] List.map_set
theorem doneB {S:Store} {l:List (Option (Nat × List V))} (hwf:S.Wf) (b:Bool) {p:Bool->Prop} (hp:p b):Ja S.nx (fun r T => ∃ b,r = .bool b/\p b/\T=S) (.bool b) (St S [] l):=by
 obtain ⟨x,S',hg,h1,h2⟩:=ja (l:=l) (r := .bool b) hwf rfl rfl;exact ⟨x,S',hg,b,h1,hp,h2⟩
theorem any_take {α:Type} (p:α->Bool) {l:List α} {j:Nat} (h:j<l.length):(l.take (j+1)).any p=((l.take j).any p||p l[j]):=by
 rw [List.take_add_one,ac h,List.any_append]; simp
theorem St_St0 {B:Store} {u:Upds} {l:List (Option (Nat × List V))} {d:Nat × List V}:St (St B u l) [] [some d]=(St B u l).add d:=by
 refine Store.ext' (funext fun o' => ?_) rfl;rw [qI,Yc]
 by_cases h:o'<(St B u l).nx
 ·rw [if_pos h,if_neg (by omega)];simp only [uGet]
 ·rw [if_neg h]
  by_cases e:o'=(St B u l).nx
  ·subst e;rw [if_pos rfl]; simp
  ·rw [if_neg e,qI];have hnx:(St B u l).nx=B.nx+l.length:=by rw [jL]; rfl
   rw [if_neg (by omega),aJ (l:=l) (by omega),aJ (by rw [List.length_singleton]; omega)]
theorem circles_v (f:Ss.Fn) (hf:f.Fits) (hs:f.small=true) (G:List (List Nat)) (hG:(Ss.succs f.blocks).map (vl vint)=G.map (vl vnat)) (hrow : ∀ r∈G,r.length<2^62 /\ ∀ k∈r,k<G.length) (S:Store) :
  bU 47 [jI f] S (fun r T => ∃ b,r = .bool b/\(b=false ↔ ∀ i<G.length,Ss.Ends (Ss.msk f.blocks G) i)/\T=S):=by
 have hso:=fun S=>RSuccO_v S f hf hs
 have hGl:G.length=f.blocks.length:=by have:=congrArg List.length hG; simpa [Ss.succs] using this.symm
 obtain ⟨_,hbl,hbf,_⟩:=zt hs;have htv : ∀ (k:Nat) (h:k<f.blocks.length),bS 80 [je f.blocks[k]] (.bool (Ss.tickB f.blocks[k])):=fun k h=>ticks_v _ (by have:=(hbf _ (ah h)).2.2; omega)
 rw [hG] at hso;obtain ⟨⟨fi,fo⟩,ts,bs⟩:=f;simp only at hGl hbl hso htv ⊢;obtain ⟨M,hM⟩ : ∃ M,Ss.msk bs G=M:=⟨_,rfl⟩
 have hMl:M.length=bs.length:=by rw [<-hM]; exact Ss.msk_len hGl
 have hMk : ∀ (k:Nat) (h1:k<bs.length) (h2:k<G.length) (h3:k<M.length),M[k]=if Ss.tickB bs[k] then [] else G[k]:=fun k h1 h2 h3=>by simp [<-hM,Ss.msk]
 rw [hM];clear hG;refine QB (c:=jc Tryz.f47) Tryz.func47 Tryz.ntmps47 fun hwf=>?_
 refine bw ?_
 refine QP ?_;refine jK (xs:=[.agg [vl vint fi,vl vint fo,vl vint ts,vl je bs]]) rfl (hso _) ?_;rintro X S' ⟨rfl,rfl⟩;rw [St_St0,Zk,jL,lid_lid];simp only [List.cons_append,List.nil_append,aC,aM,bd,Nat.add_zero];refine bQ ?_
 refine QT ?_;refine jd [1,3,4] rfl (fun c σ S' => ∃ (k:Nat),k<=bs.length/\c=bs.length-k/\σ=[(1, .ptr (lid S.nx 0) 0),(3, .slice (lid S.nx 1) 0 bs.length),(4,vnat k)]/\S'=St S [] [some (4,[vl vint fi,vl vint fo,vl vint ts,vl je bs]),some (1,(M.take k++G.drop k).map (vl vnat))]) bs.length ?_ ?_
 ·exact ⟨0,by omega,rfl,by simp [Fr.only],by simp⟩
 ·rintro c σ T ⟨k,hk,rfl,rfl,rfl⟩
  by_cases hkt:k<bs.length
  ·have hw:=jg hkt (by omega);have hkG:k<G.length:=by omega
   have hkM:k<M.length:=by omega
   have h1:=hMk k hkt hkG hkM;have hget:=Ss.part_get (M:=M) (G:=G) (k:=k) (by omega) hkG;have hset:=Ss.part_set (M:=M) (G:=G) hkM hkG;have hsame:=Ss.part_same (M:=M) (G:=G) hkM hkG;have hRl:(M.take k++G.drop k).length=bs.length:=by simp; omega
   generalize M.take k++G.drop k=R at *
   have ct:=htv k hkt;obtain ⟨⟨ps,code,⟨tk,ta,to,az⟩⟩,hx⟩ : ∃ b,bs[k]=b:=⟨_,rfl⟩
   rw [hx] at ct h1;generalize Ss.tickB ⟨ps,code,⟨tk,ta,to,az⟩⟩=tb at *
   have ct':bS 80 [.agg [vl vint ps,vl jp code, .int .i64 tk, .int .i64 ta,vl jk to,vl vint az]] (.bool tb):=ct
   refine bt hkt hx ?_
   refine bK hkt hx ?_;refine QL (ct') ?_
   by_cases htb:tb=true
   ·rw [htb,if_pos rfl] at h1;have hs:=hset [] h1.symm;refine bB htb ?_;refine QN ?_;refine QT ?_;refine jJ rfl rfl rfl ?_;refine QY ?_ (r:=by conv=>lhs;simp[QV,hkt,hRl])
    apply jE
    ·exact Reach.nilCell (k:=1) (i:=k) (by simp) (by rfl) (by simp [hkt,hRl])
    simp only [aq,au]
    refine bx hw ?_
    show js _ _ _ _ _ _ _;exact again ⟨by omega,k+1,by omega,rfl,by simp [Fr.only],by rw [<-hs,List.map_set]; rfl⟩
   ·rw [if_neg htb] at h1;have hs:=hsame h1;have htb':tb=false:=by simpa using htb
    refine bB htb' ?_;refine QN ?_
    refine bx hw ?_
    show js _ _ _ _ _ _ _;exact again ⟨by omega,k+1,by omega,rfl,by simp [Fr.only],by rw [hs]⟩
  ·have hke:k=bs.length:=by omega
   subst hke;have hMt:M.take bs.length++G.drop bs.length=M:=by rw [<-hMl,List.take_length,hMl, <-hGl,List.drop_length,List.append_nil]
   rw [hMt];have hMr : ∀ r∈M,r.length<2^62 /\ ∀ k∈r,k<M.length:=fun r hr=>by
    obtain ⟨j,hj,rfl⟩:=a9 hr;rw [hMk j (by omega) (by omega) hj];split
    ·simp
    ·have:=hrow _ (ah (show j<G.length by omega));exact ⟨this.1,fun k hk=>by have:=this.2 k hk; omega⟩
   rw [show G.length=M.length by omega];have hnl:bs.length<2^62:=by omega
   have hb1:bs.length*1<=140737488355328:=by omega
   have hb2:bs.length<=140737488355328:=by omega
   have hrep:rep0 [V.bool false] bs.length=(List.replicate bs.length false).map V.bool:=by simp [jcr]
   refine bD hkt hb1 hb2 hrep ?_
   refine QT ?_;refine jd [3,5,6] rfl (fun c σ S' => ∃ (gone:List Bool) (t:Bool),c=2*Ss.fals gone+(if t then 1 else 0)/\Ss.GoneOk M gone/\(t=false -> ∀ i<M.length,Ss.Shut M gone i)/\σ=[(3, .slice (lid S.nx 1) 0 bs.length),(5, .slice (lid S.nx 2) 0 bs.length),(6, .bool t)]/\S'=St S [] [some (4,[vl vint fi,vl vint fo,vl vint ts,vl je bs]),some (1,M.map (vl vnat)),some (1,gone.map V.bool)]) (2*Ss.fals (List.replicate bs.length false)+1) ?_ ?_
   ·exact ⟨List.replicate bs.length false,true,rfl,⟨by simp [hMl],fun i h=>by simp [List.getElem?_replicate] at h⟩,(fun h=>by cases h),by simp [Fr.only],by simp⟩
   ·rintro c σ T ⟨gone,t,rfl,hok,hsh,rfl,rfl⟩;have hgl:gone.length=bs.length:=by rw [hok.len,hMl]
    by_cases ht:t=true
    ·subst ht
     refine bw ?_
     refine QT ?_;refine jd [3,5,6,7] rfl (fun c σ S' => ∃ (k:Nat) (g:List Bool) (t:Bool),k<=bs.length/\c=bs.length-k/\Ss.GoneOk M g/\(t=true->Ss.fals g<Ss.fals gone)/\(t=false->g=gone /\ ∀ i<k,Ss.Shut M gone i)/\σ=[(3, .slice (lid S.nx 1) 0 bs.length),(5, .slice (lid S.nx 2) 0 bs.length),(6, .bool t),(7,vnat k)]/\S'=St S [] [some (4,[vl vint fi,vl vint fo,vl vint ts,vl je bs]),some (1,M.map (vl vnat)),some (1,g.map V.bool)]) bs.length ?_ ?_
     ·exact ⟨0,gone,false,by omega,rfl,hok,(fun h=>by cases h),fun _=>⟨rfl,fun i hi=>by omega⟩,by simp [Fr.only],rfl⟩
     ·rintro c σ T ⟨k,g,t,hk,rfl,hokg,hlt,heq,rfl,rfl⟩;have hgl:g.length=bs.length:=by rw [hokg.len,hMl]
      by_cases hkt:k<bs.length
      ·have hkM:k<M.length:=by omega
       have hw:=jg hkt (by omega);obtain ⟨row,hrow'⟩ : ∃ r,M[k]=r:=⟨_,rfl⟩
       have hrd:M.getD k []=row:=by simp [hkM,hrow']
       obtain ⟨hrl,hrk⟩:=hMr _ (ah hkM);rw [hrow'] at hrl hrk;obtain ⟨P,hP⟩ : ∃ P:Nat->Bool,(fun x => !g.getD x false)=P:=⟨_,rfl⟩
       have hPx : ∀ x,P x = !g.getD x false:=fun x=>by rw [<-hP]
       refine bv hkt hkM hrow' ?_
       refine QT ?_;refine jd [3,5,6,7,8,9] rfl (fun c σ S' => ∃ (j:Nat) (s:Bool),j<=row.length/\c=row.length-j/\s=(row.take j).any P/\σ=[(3, .slice (lid S.nx 1) 0 bs.length),(5, .slice (lid S.nx 2) 0 bs.length),(6, .bool t),(7,vnat k),(8, .bool s),(9,vnat j)]/\S'=St S [] [some (4,[vl vint fi,vl vint fo,vl vint ts,vl je bs]),some (1,M.map (vl vnat)),some (1,g.map V.bool)]) row.length ?_ ?_
       ·exact ⟨0,false,by omega,rfl,by simp,by simp [Fr.only],rfl⟩
       ·rintro c σ T ⟨j,s,hj,rfl,hs,rfl,rfl⟩
        by_cases hjt:j<row.length
        ·have hwj:=jg hjt (by omega);have hst:=any_take P hjt;have hxl:=hrk _ (ah hjt);obtain ⟨x,hx⟩ : ∃ x,row[j]=x:=⟨_,rfl⟩
         rw [hx] at hst hxl;have hxg:x<g.length:=by omega
         have hxb:x<bs.length:=by omega
         obtain ⟨y,hy⟩ : ∃ y,g[x]=y:=⟨_,rfl⟩
         have hyd:P x = !y:=by rw [hPx]; simp [hxg,hy]
         rw [hyd, <-hs] at hst
         by_cases h1:s=true
         ·rw [h1,Bool.true_or] at hst
          refine bz hkt hkM hrow' hjt h1 hwj ?_
          show js _ _ _ _ _ _ _;exact again ⟨by omega,j+1,true,by omega,rfl,hst.symm,by simp [Fr.only],rfl⟩
         ·have h1':s=false:=by simpa using h1
          rw [h1',Bool.false_or] at hst
          repeat first|refine QG ?_|refine QY ?_ (r:=by conv=>lhs;simp[QV,hkt,hkM,hrow',hjt,h1',hx,hxg,hxb,hy,hwj])
          show js _ _ _ _ _ _ _;exact again ⟨by omega,j+1, !y,by omega,rfl,hst.symm,by simp [Fr.only],rfl⟩
        ·have hje:j=row.length:=by omega
         subst hje;rw [List.take_length] at hs;have hkg:k<g.length:=by omega
         obtain ⟨y,hy⟩ : ∃ y,g[k]=y:=⟨_,rfl⟩
         have hyd:g.getD k false=y:=by simp [hkg,hy]
         by_cases h1:s=true
         ·have hsk:Ss.Shut M g k:=fun h=>by
           rw [hrd] at h;rw [h1] at hs;obtain ⟨x,hx1,hx2⟩:=List.any_eq_true.1 hs.symm;rw [hPx,h x hx1] at hx2
           cases hx2
          have heq':t=false->g=gone /\ ∀ i<k+1,Ss.Shut M gone i:=fun h=>by
           obtain ⟨h2,h3⟩:=heq h;refine ⟨h2,fun i hi => ?_⟩;rcases Nat.lt_succ_iff_lt_or_eq.1 hi with h4 | h4
           ·exact h3 i h4
           ·rw [h4, <-h2]; exact hsk
          refine bz hkt hkM hrow' hjt h1 hw ?_
          show js _ _ _ _ _ _ _;exact again ⟨by omega,k+1,g,t,by omega,rfl,hokg,hlt,heq',by simp [Fr.only],rfl⟩
         have h1':s=false:=by simpa using h1
         have hall : ∀ x∈row,g.getD x false=true:=fun x hx=>by
          rw [h1'] at hs;have:=List.any_eq_false.1 hs.symm x hx;rw [hPx] at this;simpa using this
         by_cases h2:y=true
         ·have hsk:Ss.Shut M g k:=fun _=>by rw [hyd]; exact h2
          have heq':t=false->g=gone /\ ∀ i<k+1,Ss.Shut M gone i:=fun h=>by
           obtain ⟨h2,h3⟩:=heq h;refine ⟨h2,fun i hi => ?_⟩;rcases Nat.lt_succ_iff_lt_or_eq.1 hi with h4 | h4
           ·exact h3 i h4
           ·rw [h4, <-h2]; exact hsk
          repeat first|refine QG ?_|refine QY ?_ (r:=by conv=>lhs;simp[QV,hkt,hkM,hrow',hjt,h1',hkg,hy,h2,hw])
          show js _ _ _ _ _ _ _;exact again ⟨by omega,k+1,g,t,by omega,rfl,hokg,hlt,heq',by simp [Fr.only],rfl⟩
         ·have h2':y=false:=by simpa using h2
          have hf:=Ss.fals_set (l:=g) (i:=k) (by rw [ac hkg,hy,h2']);have hok':Ss.GoneOk M (g.set k true):=⟨by rw [List.length_set]; exact hokg.len,fun i hi=>by
           by_cases hik:i=k
           ·subst hik;refine Ss.Ends.mk i fun x hx => ?_
            rw [hrd] at hx;have h4:=hall x hx;have hxg:x<g.length:=by have:=hrk x hx; omega
            exact hokg.ends x (by rw [ac hxg]; simpa [hxg] using h4)
           ·rw [aR (fun h=>hik h.symm)] at hi;exact hokg.ends i hi⟩
          have hlt':true=true->Ss.fals (g.set k true)<Ss.fals gone:=fun _=>by
           cases t with
           | true=>have:=hlt rfl; omega
           | false=>obtain ⟨rfl,_⟩:=heq rfl; omega
          repeat first|refine QG ?_|refine QY ?_ (r:=by conv=>lhs;simp[QV,hkt,hkM,hrow',hjt,h1',hkg,hy,h2',hw])
          show js _ _ _ _ _ _ _;exact again ⟨by omega,k+1,g.set k true,true,by omega,rfl,hok',hlt',(fun h=>by cases h),by simp [Fr.only],by simp⟩
      ·have hke:k=bs.length:=by omega
       subst hke
       refine bx hkt ?_
       show js _ _ _ _ _ _ _;exact again ⟨by cases t with | true=>(have:=hlt rfl; simp; omega) | false=>(obtain ⟨rfl,_⟩:=heq rfl; simp),g,t,rfl,hokg,(fun h=>by obtain ⟨rfl,h2⟩:=heq h; rw [hMl]; exact h2),by simp [Fr.only],rfl⟩
    ·have ht':t=false:=by simpa using ht
     subst ht';have hsh':=hsh rfl
     refine bw ?_
     refine QT ?_;refine jd [3,5,10] rfl (fun c σ S' => ∃ (k:Nat),k<=bs.length/\c=bs.length-k/\(∀ i<k,gone.getD i false=true)/\σ=[(3, .slice (lid S.nx 1) 0 bs.length),(5, .slice (lid S.nx 2) 0 bs.length),(10,vnat k)]/\S'=St S [] [some (4,[vl vint fi,vl vint fo,vl vint ts,vl je bs]),some (1,M.map (vl vnat)),some (1,gone.map V.bool)]) bs.length ?_ ?_
     ·exact ⟨0,by omega,rfl,fun i hi=>by omega,by simp [Fr.only],rfl⟩
     ·rintro c σ T ⟨k,hk,rfl,hall,rfl,rfl⟩
      by_cases hkt:k<bs.length
      ·have hkg:k<gone.length:=by omega
       have hw:=jg hkt (by omega);obtain ⟨y,hy⟩ : ∃ y,gone[k]=y:=⟨_,rfl⟩
       have hyd:gone.getD k false=y:=by simp [hkg,hy]
       by_cases h1:y=true
       ·have hall' : ∀ i<k+1,gone.getD i false=true:=by
         intro i hi;rcases Nat.lt_succ_iff_lt_or_eq.1 hi with h | h
         ·exact hall i h
         ·rw [h,hyd]; exact h1
        refine bJ hkt hkg hy h1 hw ?_
        show js _ _ _ _ _ _ _;exact again ⟨by omega,k+1,by omega,rfl,hall',by simp [Fr.only],rfl⟩
       ·have h1':y=false:=by simpa using h1
        have hno : ¬ ∀ i<M.length,Ss.Ends M i:=fun h=>by
         have:=Ss.shut_ends hsh' (fun r hr=>(hMr r hr).2) (h k (by omega)) (by omega);rw [hyd] at this;exact h1 this
        refine bD hkt hkg hy h1' ?_
        exact doneB hwf true ⟨(fun h=>by cases h),fun h=>absurd h hno⟩
      ·have hke:k=bs.length:=by omega
       subst hke;have hyes : ∀ i<M.length,Ss.Ends M i:=fun i hi=>hok.ends i (by
        have h1:=hall i (by omega);have hig:i<gone.length:=by omega
        simp only [ag,ac hig,aS] at h1;rw [ac hig,h1])
       refine bx hkt ?_
       exact doneB hwf false ⟨fun _=>hyes,fun _=>rfl⟩
open Classical in
noncomputable def _root_.Ss.circ (M:List (List Nat)):Bool:=decide (¬ ∀ i<M.length,Ss.Ends M i)
open Classical in
theorem circlesP_v (f:Ss.Fn) (hf:f.Fits) (hs:f.small=true) (G:List (List Nat)) (hG:(Ss.succs f.blocks).map (vl vint)=G.map (vl vnat)) (hrow : ∀ r∈G,r.length<2^62 /\ ∀ k∈r,k<G.length) :
  bS 47 [jI f] (.bool (Ss.circ (Ss.msk f.blocks G))):=fun S=>by
 have hGl:G.length=f.blocks.length:=by have:=congrArg List.length hG; simpa [Ss.succs] using this.symm
 refine (circles_v f hf hs G hG hrow S).mono ?_;rintro r T ⟨b,rfl,hb,rfl⟩;refine ⟨?_,rfl⟩
 congr 1
 have e:(Ss.msk f.blocks G).length=G.length:=by rw [Ss.msk_len hGl,hGl]
 unfold Ss.circ;rw [e]
 cases b with
 | false =>
  have h1:=hb.1 rfl;exact (decide_eq_false (p := ¬ _) (not_not_intro h1)).symm
 | true =>
  have h1 : ¬ ∀ i<G.length,Ss.Ends (Ss.msk f.blocks G) i:=fun h=>by have:=hb.2 h; cases this
  exact (decide_eq_true (p := ¬ _) h1).symm
end Go.Vw
namespace Ss
def rcheckCode (e:Env) (f:Fn) (ds:List Def) (near:List Int) (i:Int):Nat->List Ins->Bool
 | _,[]=>true
 | k,x::r=>rinsOk e f ds near i k x&&rcheckCode e f ds near i (k+1) r
def rcheckBlock (e:Env) (f:Fn) (ds:List Def) (near:List Int) (i:Int) (b:Block):Bool :=
 rcheckCode e f ds near i 0 b.code&&(rtermOk f ds near i b.code.length b.term&&b.term.to.all (redgeOk f ds near i b.code.length))
def rcheckBlocks (e:Env) (f:Fn) (ds:List Def) (near:List Int):Nat->List Block->Bool
 | _,[]=>true
 | i,b::bs=>rcheckBlock e f ds near i b&&rcheckBlocks e f ds near (i+1) bs
def firstTick:List Ins->Bool
 | []=>false
 | x::_=>decide (x.op=258)
noncomputable def rshape (f:Fn):Bool:=decide (typesOf f.types (f.blocks.getD 0 default).params=f.sig.inn)&&(firstTick (f.blocks.getD 0 default).code && !circ (msk f.blocks (Go.Vw.G.nats (succs f.blocks))))
noncomputable def rcheck (e:Env) (f:Fn):Bool:=checkHead e f&&decide (1<=f.blocks.length)&&match defsOf f with
 | none=>false
 | some ds=>Go.Vw.G.right (succs f.blocks)&&((Go.Vw.G.without (Go.Vw.G.nats (succs f.blocks)) none).all id&&(rshape f&&rcheckBlocks e f ds (Go.Vw.G.nearI (succs f.blocks)) 0 f.blocks))
end Ss
namespace Go.Vw
open Go.Proofs Go.RowKit
theorem RNearI_v (g:List (List Int)) (hl:g.length<2^63) (h : ∀ l∈g,l.length<2^63) (hr:G.right g=true):bS 45 [vl (vl vint) g] (.tuple [vl vint (G.nearI g),vint 0]):=by
 have h1:bS 43 [vl (vl vnat) (G.nats g)] (.bool true):=by
  have:=RRight_v g hl h;rw [hr,G.right_enc hr] at this;exact this
 have:=RNearest_v _ (G.right_ok hr) h1;rw [<-G.right_enc hr] at this;simp only [G.nearI,hr,if_true];exact this
theorem WithoutI_v (g:List (List Int)) (hr:G.right g=true):bS 44 [vl (vl vint) g,vint (-1)] (vl V.bool (G.without (G.nats g) none)):=by
 have:=jbc _ (G.right_ok hr) none (fun _ h=>by cases h);rw [<-G.right_enc hr] at this;exact this
end Go.Vw
namespace Ss
theorem put_nn {block pos:Int} (h0:0<=block) : ∀ {l:List Int} {ds d:List Def},put block pos ds l=some d->(∀ x∈ds,x.made=true->0<=x.block) -> ∀ x∈d,x.made=true->0<=x.block
 | [],ds,d,h,hn=>by simp only [put,ay] at h; rw [<-h]; exact hn
 | v::l,ds,d,h,hn=>by
  simp only [put] at h;split at h
  ·cases h
  ·exact put_nn h0 h fun x hx hm=>(List.mem_or_eq_of_mem_set hx).elim (fun h=>hn x h hm) (fun h=>by rw [h]; exact h0)
theorem jbG {i:Int} (h0:0<=i) : ∀ {l:List Ins} {k:Nat} {ds d:List Def},putCode i k ds l=some d->(∀ x∈ds,x.made=true->0<=x.block) -> ∀ x∈d,x.made=true->0<=x.block
 | [],k,ds,d,h,hn=>by simp only [putCode,ay] at h; rw [<-h]; exact hn
 | x::r,k,ds,d,h,hn=>by
  simp only [putCode,aN] at h;obtain ⟨d1,h1,h2⟩:=h;exact jbG h0 h2 (put_nn h0 h1 hn)
theorem YX : ∀ {bs:List Block} {i:Nat} {ds d:List Def},putBlocks i ds bs=some d->(∀ x∈ds,x.made=true->0<=x.block) -> ∀ x∈d,x.made=true->0<=x.block
 | [],i,ds,d,h,hn=>by simp only [putBlocks,ay] at h; rw [<-h]; exact hn
 | b::bs,i,ds,d,h,hn=>by
  simp only [putBlocks,aN] at h;obtain ⟨d2,⟨d1,h1,h2⟩,h3⟩:=h;exact YX h3 (jbG (by omega) h2 (put_nn (by omega) h1 hn))
theorem defs_nn {f:Fn} {ds:List Def} (h:defsOf f=some ds) : ∀ x∈ds,x.made=true->0<=x.block :=
 YX h fun x hx hm=>by
  obtain ⟨_,rfl⟩:=List.mem_replicate.1 hx
  cases hm
end Ss
namespace Go.Vw
end Go.Vw
namespace Ss
theorem eqF_nil {α:Type} (p:α->α->Bool) (l:List α):Go.Vw.eqF p l []=decide (l.length=0):=by
 cases l<;>simp [Go.Vw.eqF]
theorem ZI (ts:List Int) (ds:List Def) (near:List Int) (block pos:Int) (l:List Int):asks ts ds near block pos l []=decide (l.length=0):=eqF_nil _ l
def chkF (n:Int) (t:List Int) (A:List Int->Bool) (r:FormR):Bool:=r.ok&&decide (n<=r.most)&&decide (t=r.outs)&&A r.inn
def chkR (t:List Int) (A:List Int->Bool) (r:RForm):Bool:=r.ok&&decide (t=r.outs)&&A r.inn
theorem form_agrees (e:Env) (op n out:Int) (h0:0<=n) (h1:n<18446744073709551616) (ho:out=127\/out=126\/out=0) (t:List Int) (ht:out=0->t=[]) (A:List Int->Bool) :
  chkF n t A (form e op n out)=chkR t A (rform e op n out):=by
 have hz:decide (n<=0)=decide (n=0):=by simp; omega
 have n27:numSig 27=([],0,false):=by decide
 have n16:numSig 16=([],0,false):=by decide
 have n35:numSig 35=([],0,false):=by decide
 have n36:numSig 36=([],0,false):=by decide
 have a63:accOf 63=none:=by decide
 have a64:accOf 64=none:=by decide
 have nn : ∀ m:Int,decide (m<=m)=true:=fun m=>by simp
 have lt32:decide (n<=4294967295)=decide (n<4294967296):=by simp; omega
 have le64:decide (n<=18446744073709551615)=true:=by simp; omega
 unfold form rform
 by_cases h256:op=256
 ·rw [if_pos h256,if_pos h256];rcases ho with rfl | rfl | rfl
  ·simp [chkF,chkR,lt32]
  ·simp [chkF,chkR,le64]
  ·rw [ht rfl]; simp [chkF,chkR]
 rw [if_neg h256,if_neg h256]
 by_cases h258:op=258
 ·rw [if_pos h258,if_pos h258]; simp [chkF,chkR,hz]
 rw [if_neg h258,if_neg h258]
 by_cases h27:op=27
 ·subst h27; rw [if_pos rfl,n27]; simp [chkF,chkR,hz]
 rw [if_neg h27]
 by_cases h16:op=16
 ·subst h16;rw [if_pos rfl,n16];simp only [rformEnv]
  by_cases h:n<e.sigs.length<;>simp [chkF,chkR,h]
 rw [if_neg h16]
 by_cases h35:op=35\/op=36
 ·rw [if_pos h35];have hn:numSig op=([],0,false):=by rcases h35 with rfl | rfl<;>assumption
  rw [hn];simp only [formGlob,rformEnv,if_neg h27,if_pos h35]
  by_cases h:n<e.globals.length
  ·by_cases h5:op=35<;>simp [chkF,chkR,h,h5]
  ·simp [chkF,chkR,h]
 rw [if_neg h35];simp only [formNum];generalize numSig op=sg;obtain ⟨l,ty,b⟩:=sg
 cases b with
 | true=>simp [chkF,chkR,hz]
 | false =>
  simp only [if_neg h27,rformEnv,if_neg h35,if_neg h16]
  cases e.mem with
  | false=>simp [chkF,chkR]
  | true =>
   simp only [if_true,formMem,rformMem]
   by_cases h257:op=257
   ·simp [chkF,chkR,h257]
   rw [if_neg h257,if_neg h257]
   by_cases h63:op=63
   ·subst h63; rw [if_pos rfl,a63]; simp [chkF,chkR,hz]
   rw [if_neg h63]
   by_cases h64:op=64
   ·subst h64; rw [if_pos rfl,a64]; simp [chkF,chkR,hz]
   rw [if_neg h64]
   cases accOf op with
   | none=>simp [chkF,chkR,h63,h64]
   | some a=>cases hst:a.store<;>simp [chkF,chkR,hst,lt32]
theorem ins_agrees {e:Env} {f:Fn} {ds:List Def} {near:List Int} {i k:Int} {x:Ins} (hx:x.Fits) (hk : ∀ t∈f.types,isKind t=true) (ho:InTs f.types.length x.outs):rinsOk e f ds near i k x=insOk e f ds near i k x:=by
 refine (form_agrees e x.op x.n (insOut f.types x) hx.2.1.1 hx.2.1.2 ?_ (typesOf f.types x.outs) ?_ (asks f.types ds near i k x.args)).symm
 ·unfold insOut
  cases hu:x.outs with
  | nil=>simp
  | cons v r =>
   obtain ⟨h0,h1⟩:=ho v (by rw [hu]; simp);have hlt:v.toNat<f.types.length:=by omega
   have:=hk _ (ah hlt);simp only [ag,ac hlt,aS];simp only [isKind,bq,aj] at this;rcases this with h | h
   ·exact .inl h
   ·exact .inr (.inl h)
 ·intro h;unfold insOut at h
  cases hu:x.outs with
  | nil=>rfl
  | cons v r =>
   rw [hu] at h;obtain ⟨h0,h1⟩:=ho v (by rw [hu]; simp);have hlt:v.toNat<f.types.length:=by omega
   have:=hk _ (ah hlt);simp only [ag,ac hlt,aS] at h;rw [h] at this;simp [isKind] at this
theorem edge_agrees {f:Fn} {ds:List Def} {near:List Int} {i pos:Int} {x:Edge} (h:0<=x.to):redgeOk f ds near i pos x=edgeOk f ds near i pos x:=by
 have:decide (1<=x.to) = !decide (x.to=0):=by
  by_cases h0:x.to=0
  ·simp [h0]
  ·simp [h0]; omega
 rw [redgeOk,edgeOk,this]
theorem jbX {α:Type} {p q:α->Bool} : ∀ {l:List α},(∀ x∈l,p x=q x)->l.all p=l.all q
 | [],_=>rfl
 | x::l,h=>by rw [List.all_cons,List.all_cons,h x (by simp),jbX fun y hy=>h y (by simp [hy])]
theorem term_agrees {f:Fn} {ds:List Def} {near:List Int} {i:Int} {b:Block} (h : ∀ x∈b.term.to,0<=x.to):(rtermOk f ds near i b.code.length b.term&&b.term.to.all (redgeOk f ds near i b.code.length))=termOk f ds near i b:=by
 rw [jbX (q:=edgeOk f ds near i b.code.length) fun x hx=>edge_agrees (h x hx)];obtain ⟨ps,code,⟨k,a,to,az⟩⟩:=b;simp only [termOk,rtermOk];have h0:decide (to.length=0)=(decide (0<=to.length)&&decide (to.length<=0)):=by
  rw [Bool.eq_iff_iff]; simp only [af,aj]; omega
 have h1:decide (to.length=1)=(decide (1<=to.length)&&decide (to.length<=1)):=by
  rw [Bool.eq_iff_iff]; simp only [af,aj]; omega
 have h2:decide (to.length=2)=(decide (2<=to.length)&&decide (to.length<=2)):=by
  rw [Bool.eq_iff_iff]; simp only [af,aj]; omega
 rw [h0,h1,h2];have hT : ∀ le mo rs,termTail f ds near i code.length ⟨k,a,to,az⟩ le mo rs=((if (decide (k=2)||decide (k=3))=true then asks f.types ds near i code.length [a] [127] else decide (a=0))&&decide (le<=to.length)&&decide (to.length<=mo)&&asks f.types ds near i code.length az rs&&to.all (edgeOk f ds near i code.length)):=fun _ _ _=>rfl
 simp only [hT];clear hT h0 h1 h2;generalize to.all (edgeOk f ds near i code.length)=E;have aa : ∀ {a b c d e:Bool},(a&&(b&&(c&&d))&&e)=(a&&c&&d&&b&&e):=by decide
 have ab : ∀ {a b c d e:Bool},(a&&(b&&c&&d)&&e)=(a&&b&&c&&d&&e):=by decide
 by_cases k2:k=2
 ·have e:termHead f.sig.out k=some (2,2,[]):=by rw [k2]; rfl
  simp only [e];simp only [k2,if_true,ZI,decide_true,Bool.true_or];exact aa
 have d2:decide (k=2)=false:=decide_eq_false k2;rw [if_neg k2,d2,Bool.false_or]
 by_cases k3:k=3
 ·have e:termHead f.sig.out k=some (1,65,[]):=by rw [k3]; rfl
  simp only [e];simp only [k3,if_true,ZI,decide_true];exact aa
 have d3:decide (k=3)=false:=decide_eq_false k3;rw [if_neg k3,d3];simp only [aF,if_false]
 by_cases k4:k=4
 ·have e:termHead f.sig.out k=some (0,0,f.sig.out):=by rw [k4]; rfl
  simp only [e,if_pos k4];exact ab
 rw [if_neg k4]
 by_cases k1:k=1
 ·have e:termHead f.sig.out k=some (1,1,[]):=by rw [k1]; rfl
  simp only [e,if_pos k1,ZI];exact aa
 rw [if_neg k1]
 by_cases k5:k=5
 ·have e:termHead f.sig.out k=some (0,0,[]):=by rw [k5]; rfl
  simp only [e];simp only [k5,ZI,decide_true,aE];exact aa
 simp [termHead,k1,k2,k3,k4,k5]
inductive Walk (G:List (List Nat)):Nat->Nat->Prop
 | one {a b:Nat} (h:b∈G.getD a []):Walk G a b
 | more {a b c:Nat} (h:Walk G a b) (k:c∈G.getD b []):Walk G a c
theorem Walk.cons {G:List (List Nat)} {a b c:Nat} (h:b∈G.getD a []) (w:Walk G b c):Walk G a c:=by
 induction w with
 | one k=>exact .more (.one h) k
 | more _ k ih=>exact .more ih k
theorem Walk.first {G:List (List Nat)} {a c:Nat} (w:Walk G a c) : ∃ b,b∈G.getD a []/\(b=c\/Walk G b c):=by
 induction w with
 | one h=>exact ⟨_,h, .inl rfl⟩
 | more _ k ih =>
  obtain ⟨b,h1,h2⟩:=ih;refine ⟨b,h1, .inr ?_⟩;rcases h2 with rfl | h2
  ·exact .one k
  ·exact .more h2 k
theorem Ends.no_ring {G:List (List Nat)} {i:Nat} (h:Ends G i) : ¬ Walk G i i:=by
 induction h with
 | mk i _ ih =>
  intro w;obtain ⟨b,h1,h2⟩:=w.first;refine ih b h1 ?_;rcases h2 with rfl | h2
  ·exact .one h1
  ·exact .more h2 h1
section
variable {tick:List Bool} {g M:List (List Nat)}
def Kj (M:List (List Nat)) (st:List Nat):Prop := ∀ k,st.getD k 0≠0->st.getD k 0≠1->Ends M k
def OnesIn (s st:List Nat):Prop := ∀ k,s.getD k 0=1->st.getD k 0=1
theorem getD_set_ne {α:Type} {l:List α} {i j:Nat} {a d:α} (h:i≠j):(l.set i a).getD j d=l.getD j d:=by simp [aR h]
theorem Wp {α:Type} {l:List α} {i:Nat} {a d:α} (h:i<l.length):(l.set i a).getD i d=a:=by simp [h]
theorem jcq {N fuel:Nat} (ih : ∀ n st s,n<N->st.length=N->st.getD n 0=0->Kj M st->ringW tick g fuel n st=some (false,s)->Ends M n/\Kj M s/\OnesIn s st) :
  ∀ (ks st s:List Nat),(∀ k∈ks,k<N)->st.length=N->Kj M st->ringL tick g fuel ks st=some (false,s)->(∀ k∈ks,Ends M k)/\Kj M s/\OnesIn s st
 | [],st,s,_,_,hd,h=>by rw [ringL] at h; cases h; exact ⟨by simp,hd,fun _ h=>h⟩
 | k::ks,st,s,hk,hl,hd,h=>by
  rw [ringL] at h;split at h
  ·cases h
  ·rename_i h1;split at h
   ·rename_i h0
    cases hw:ringW tick g fuel k st with
    | none=>rw [hw] at h; cases h
    | some p =>
     obtain ⟨b,s1⟩:=p;rw [hw] at h
     cases b with
     | true=>cases h
     | false =>
      obtain ⟨e1,e2,e3⟩:=ih k st s1 (hk k (by simp)) hl h0 hd hw;have hl1:=ringW_len _ _ _ _ _ hw;obtain ⟨f1,f2,f3⟩:=jcq ih ks s1 s (fun x hx=>hk x (by simp [hx])) (by omega) e2 h;refine ⟨fun x hx => ?_,f2,fun x hx=>e3 x (f3 x hx)⟩;rcases aL.1 hx with rfl | hx
      ·exact e1
      ·exact f1 x hx
   ·rename_i h0;obtain ⟨f1,f2,f3⟩:=jcq ih ks st s (fun x hx=>hk x (by simp [hx])) hl hd h;refine ⟨fun x hx => ?_,f2,f3⟩;rcases aL.1 hx with rfl | hx
    ·exact hd _ h0 h1
    ·exact f1 x hx
theorem jcp {N:Nat} (hg : ∀ n, ∀ k∈g.getD n [],k<N) (hM : ∀ n<N,M.getD n []=if tick.getD n false=true then [] else g.getD n []) :
  ∀ (fuel n:Nat) (st s:List Nat),n<N->st.length=N->st.getD n 0=0->Kj M st->ringW tick g fuel n st=some (false,s)->Ends M n/\Kj M s/\OnesIn s st
 | 0,_,_,_,_,_,_,_,h=>by rw [ringW] at h; cases h
 | fuel+1,n,st,s,hn,hl,h0,hd,h=>by
  rw [ringW] at h;have hm:=hM n hn;split at h
  ·rename_i ht
   cases h
   rw [if_pos ht] at hm;exact ⟨.mk n (by rw [hm]; simp),hd,fun _ h=>h⟩
  ·rename_i ht;rw [if_neg ht] at hm
   cases hL:ringL tick g fuel (g.getD n []) (st.set n 1) with
   | none=>rw [hL] at h; cases h
   | some p =>
    obtain ⟨b,s1⟩:=p;rw [hL] at h
    cases b with
    | true=>cases h
    | false =>
     cases h
     have hd1:Kj M (st.set n 1):=by
      intro k k0 k1
      by_cases e:n=k
      ·subst e; rw [Wp (by omega)] at k1; exact absurd rfl k1
      ·rw [getD_set_ne e] at k0 k1; exact hd k k0 k1
     obtain ⟨f1,f2,f3⟩:=jcq (fun n st s=>jcp hg hM fuel n st s) _ _ _ (hg n) (by simp; omega) hd1 hL;have hen:Ends M n := .mk n (by rw [hm]; exact f1);have hl1:s1.length=N:=by
      have:=WC (ringW_len fuel) _ _ _ _ hL;simp at this; omega
     refine ⟨hen, ?_, ?_⟩
     ·intro k k0 k1
      by_cases e:n=k
      ·subst e; exact hen
      ·rw [getD_set_ne e] at k0 k1; exact f2 k k0 k1
     ·intro k k1
      by_cases e:n=k
      ·subst e; rw [Wp (by omega)] at k1; cases k1
      ·rw [getD_set_ne e] at k1;have:=f3 k k1
       rwa [getD_set_ne e] at this
def Under (M:List (List Nat)) (st:List Nat) (n:Nat):Prop := ∀ k,st.getD k 0=1->k=n\/Walk M k n
theorem jaf {N fuel n:Nat} (hg : ∀ n, ∀ k∈g.getD n [],k<N) (hM : ∀ n<N,M.getD n []=if tick.getD n false=true then [] else g.getD n [])
  (ih : ∀ n st s,n<N->st.length=N->st.getD n 0=0->Kj M st->(∀ k,st.getD k 0=1->Walk M k n)->ringW tick g fuel n st=some (true,s) -> ∃ i, ¬ Ends M i) :
  ∀ (ks st s:List Nat),(∀ k∈ks,k<N)->(∀ k∈ks,k∈M.getD n [])->st.length=N->Kj M st->Under M st n->ringL tick g fuel ks st=some (true,s) -> ∃ i, ¬ Ends M i
 | [],st,s,_,_,_,_,_,h=>by rw [ringL] at h; cases h
 | k::ks,st,s,hk,hkM,hl,hd,hu,h=>by
  rw [ringL] at h;split at h
  ·rename_i h1;refine ⟨k,fun he=>he.no_ring ?_⟩;rcases hu k h1 with rfl | w
   ·exact .one (hkM _ (by simp))
   ·exact .more w (hkM _ (by simp))
  ·split at h
   ·rename_i h0
    cases hw:ringW tick g fuel k st with
    | none=>rw [hw] at h; cases h
    | some p =>
     obtain ⟨b,s1⟩:=p;rw [hw] at h
     cases b with
     | true =>
      refine ih k st s1 (hk k (by simp)) hl h0 hd (fun x hx => ?_) hw;rcases hu x hx with rfl | w
      ·exact .one (hkM _ (by simp))
      ·exact .more w (hkM _ (by simp))
     | false =>
      obtain ⟨e1,e2,e3⟩:=jcp hg hM fuel k st s1 (hk k (by simp)) hl h0 hd hw;have hl1:=ringW_len _ _ _ _ _ hw;exact jaf hg hM ih ks s1 s (fun x hx=>hk x (by simp [hx])) (fun x hx=>hkM x (by simp [hx])) (by omega) e2 (fun x hx=>hu x (e3 x hx)) h
   ·exact jaf hg hM ih ks st s (fun x hx=>hk x (by simp [hx])) (fun x hx=>hkM x (by simp [hx])) hl hd hu h
theorem ringW_yes {N:Nat} (hg : ∀ n, ∀ k∈g.getD n [],k<N) (hM : ∀ n<N,M.getD n []=if tick.getD n false=true then [] else g.getD n []) :
  ∀ (fuel n:Nat) (st s:List Nat),n<N->st.length=N->st.getD n 0=0->Kj M st->(∀ k,st.getD k 0=1->Walk M k n)->ringW tick g fuel n st=some (true,s) -> ∃ i, ¬ Ends M i
 | 0,_,_,_,_,_,_,_,_,h=>by rw [ringW] at h; cases h
 | fuel+1,n,st,s,hn,hl,h0,hd,hu,h=>by
  rw [ringW] at h;have hm:=hM n hn;split at h
  ·cases h
  ·rename_i ht;rw [if_neg ht] at hm
   cases hL:ringL tick g fuel (g.getD n []) (st.set n 1) with
   | none=>rw [hL] at h; cases h
   | some p =>
    obtain ⟨b,s1⟩:=p;rw [hL] at h
    cases b with
    | false=>cases h
    | true =>
     have hd1:Kj M (st.set n 1):=by
      intro k k0 k1
      by_cases e:n=k
      ·subst e; rw [Wp (by omega)] at k1; exact absurd rfl k1
      ·rw [getD_set_ne e] at k0 k1; exact hd k k0 k1
     refine jaf (n:=n) hg hM (fun n st s=>ringW_yes hg hM fuel n st s) _ _ _ (hg n) (by rw [hm]; exact fun k h=>h) (by simp; omega) hd1 (fun k hk => ?_) hL
     by_cases e:n=k
     ·exact .inl e.symm
     ·rw [getD_set_ne e] at hk; exact .inr (hu k hk)
theorem Wk {N fuel:Nat} (hg : ∀ n, ∀ k∈g.getD n [],k<N) (hM : ∀ n<N,M.getD n []=if tick.getD n false=true then [] else g.getD n []) :
  ∀ (ns st:List Nat) (r:Bool),(∀ n∈ns,n<N)->st.length=N->Kj M st->(∀ k,st.getD k 0≠1)->ringM tick g fuel ns st=some r->(r=false -> ∀ n∈ns,Ends M n)/\(r=true -> ∃ i, ¬ Ends M i)
 | [],st,r,_,_,_,_,h=>by simp only [ringM,ay] at h; subst h; exact ⟨by simp,by simp⟩
 | n::ns,st,r,hn,hl,hd,h1,h=>by
  simp only [ringM] at h;split at h
  ·rename_i h0
   cases hw:ringW tick g fuel n st with
   | none=>rw [hw] at h; cases h
   | some p =>
    obtain ⟨b,s⟩:=p;rw [hw] at h
    cases b with
    | true =>
     cases h
     exact ⟨by simp,fun _=>ringW_yes hg hM fuel n st s (hn n (by simp)) hl h0 hd (fun k hk=>absurd hk (h1 k)) hw⟩
    | false =>
     obtain ⟨e1,e2,e3⟩:=jcp hg hM fuel n st s (hn n (by simp)) hl h0 hd hw;have hl1:=ringW_len _ _ _ _ _ hw;obtain ⟨f1,f2⟩:=Wk hg hM ns s r (fun x hx=>hn x (by simp [hx])) (by omega) e2 (fun k hk=>h1 k (e3 k hk)) h;refine ⟨fun hr x hx => ?_,f2⟩;rcases aL.1 hx with rfl | hx
     ·exact e1
     ·exact f1 hr x hx
  ·rename_i h0;obtain ⟨f1,f2⟩:=Wk hg hM ns st r (fun x hx=>hn x (by simp [hx])) hl hd h1 h;refine ⟨fun hr x hx => ?_,f2⟩;rcases aL.1 hx with rfl | hx
   ·exact hd _ h0 (h1 _)
   ·exact f1 hr x hx
end
open Classical in
/-- The walk in depth finds a circle just if not all numbers end. -/
theorem jby {bs:List Block} {G:List (List Nat)} (hl:G.length=bs.length) (hr : ∀ r∈G, ∀ k∈r,k<G.length):rings bs G=circ (msk bs G):=by
 have hg : ∀ n, ∀ k∈G.getD n [],k<G.length:=by
  intro n k hk
  by_cases h:n<G.length
  ·simp only [ag,ac h,aS] at hk;exact hr _ (ah h) k hk
  ·simp only [ag,aJ (Nat.le_of_not_lt h),Option.getD_none] at hk
   cases hk
 have hM : ∀ n<G.length,(msk bs G).getD n []=if (bs.map tickB).getD n false=true then [] else G.getD n []:=by
  intro n h;have hb:n<bs.length:=by omega
  simp [msk,List.getElem?_zipWith,h,hb]
 have hml:(msk bs G).length=G.length:=by rw [msk_len hl,hl]
 obtain ⟨r,h⟩:=ringM_ends (tick:=bs.map tickB) (fuel:=G.length+1) hg (by omega) (List.range G.length) (List.replicate G.length 0) (fun n hn=>List.mem_range.1 hn) (by simp);have hz : ∀ k,(List.replicate G.length 0).getD k 0=0:=by intro k; simp [List.getElem?_replicate]; split<;>rfl
 obtain ⟨h1,h2⟩:=Wk (M:=msk bs G) hg hM (List.range G.length) (List.replicate G.length 0) r (fun n hn=>List.mem_range.1 hn) (by simp) (fun k h0=>absurd (hz k) h0) (fun k=>by rw [hz]; decide) h;rw [rings,h,aS,circ,hml]
 cases r with
 | false =>
  refine (decide_eq_false ?_).symm;exact fun hn=>hn fun i hi=>h1 rfl i (List.mem_range.2 hi)
 | true =>
  refine (decide_eq_true ?_).symm;intro ha;obtain ⟨i,hi⟩:=h2 rfl
  by_cases h3:i<G.length
  ·exact hi (ha i h3)
  ·refine hi (.mk i ?_);simp only [ag,aJ (show (msk bs G).length<=i by omega),Option.getD_none];simp
theorem len_all {n:Nat} {l:List Nat} (hn:l.Nodup) (hb : ∀ x∈l,x<n):l.length=n ↔ ∀ x<n,x∈l:=by
 constructor
 ·intro h x hx;refine Classical.byContradiction fun hc => ?_
  have h1:(x::l).Nodup:=List.nodup_cons.2 ⟨hc,hn⟩;have h2:x::l ⊆ List.range n:=fun y hy=>by
   rcases aL.1 hy with rfl | hy
   ·exact List.mem_range.2 hx
   ·exact List.mem_range.2 (hb y hy)
  have:=h1.length_le_of_subset h2;simp at this; omega
 ·intro h;have h1:l.length<=n:=by
   have:=hn.length_le_of_subset (l₂:=List.range n) fun y hy=>List.mem_range.2 (hb y hy)
   simpa using this
  have h2:n<=l.length:=by
   have:=(List.nodup_range (n:=n)).length_le_of_subset (l₂:=l) fun y hy=>h y (List.mem_range.1 hy)
   simpa using this
  omega
open Go.Vw in
theorem order_all {g:List (List Nat)} (hg:G.Ok g):decide ((G.order g).length=g.length)=(G.without g none).all id:=by
 have ho:=G.order_ok hg;have hl:=G.without_length hg none;rw [Bool.eq_iff_iff,aj,len_all ho.nd ho.lt,aD];constructor
 ·intro h x hx;obtain ⟨i,hi,rfl⟩:=List.mem_iff_getElem.1 hx;have:=(G.without_none hg i).2 (h i (by omega));simpa [G.Met,hi] using this
 ·intro h i hi;refine (G.without_none hg i).1 ?_;have hi':i<(G.without g none).length:=by omega
  have:=h _ (ah hi');simpa [G.Met,hi'] using this
theorem jaT {e:Env} {f:Fn} {ds:List Def} {near:List Int} {i:Int} (hk : ∀ t∈f.types,isKind t=true) : ∀ (l:List Ins) (k:Nat),(∀ x∈l,x.Fits/\InTs f.types.length x.outs)->rcheckCode e f ds near i k l=checkCode e f ds near i k l
 | [],k,_=>rfl
 | x::l,k,h=>by
  rw [rcheckCode,checkCode,ins_agrees (h x (by simp)).1 hk (h x (by simp)).2,jaT hk l (k+1) fun y hy=>h y (by simp [hy])]
theorem Zi {e:Env} {f:Fn} {ds:List Def} {near:List Int} (hk : ∀ t∈f.types,isKind t=true) : ∀ (l:List Block) (i:Nat),(∀ b∈l,(∀ x∈b.code,x.Fits/\InTs f.types.length x.outs) /\ ∀ x∈b.term.to,0<=x.to)->rcheckBlocks e f ds near i l=checkBlocks e f ds near i l
 | [],i,_=>rfl
 | b::l,i,h=>by
  rw [rcheckBlocks,checkBlocks,Zi hk l (i+1) fun y hy=>h y (by simp [hy]),rcheckBlock,jaT hk _ _ (h b (by simp)).1,term_agrees (h b (by simp)).2,Bool.and_assoc]
theorem check_agrees {e:Env} {f:Fn} (hf:f.Fits):rcheck e f=check e f:=by
 unfold rcheck check
 cases hh:checkHead e f with
 | false=>simp
 | true =>
 simp only [aE]
 cases hd:defsOf f with
 | none=>simp
 | some ds =>
 simp only;have hkt : ∀ t∈f.types,isKind t=true:=by
  simp only [checkHead,kinds,af,aD] at hh;exact hh.1.1.2.2
 cases hr:Go.Vw.G.right (succs f.blocks) with
 | false=>simp [shapeOk,hr]
 | true =>
 have hok:=Go.Vw.G.right_ok hr;have hpos:1<=f.blocks.length:=by
  simp only [Go.Vw.G.right,af,aj] at hr;simpa [succs] using hr.1.1
 have hto:=right_to hr;have hin:=(defs_in hd).2;have hgl:(Go.Vw.G.nats (succs f.blocks)).length=f.blocks.length:=by simp [Go.Vw.G.nats,succs]
 rw [decide_eq_true hpos,Zi hkt f.blocks 0 fun b hb=>⟨fun x hx=>⟨(hf.2.2.2 b hb).2.1.2 x hx,(hin b hb).2 x hx⟩,fun x hx=>(hto b hb x hx).1⟩];rw [<-order_all hok,hgl];have hrc:=jby (bs:=f.blocks) hgl (fun r hr k hk=>hok.elt r hr k hk);have hsh:shapeOk f=(Go.Vw.G.right (succs f.blocks)&&decide ((Go.Vw.G.ordI (succs f.blocks)).length=f.blocks.length) && !rings f.blocks (Go.Vw.G.nats (succs f.blocks))&&decide (typesOf f.types (f.blocks.getD 0 default).params=f.sig.inn)&&firstTick (f.blocks.getD 0 default).code):=by
  unfold shapeOk
  cases (f.blocks.getD 0 default).code<;>rfl
 rw [hsh];simp only [rshape,hr,Go.Vw.G.ordI,if_true,hrc,aE];generalize checkBlocks e f ds _ 0 f.blocks=A;generalize decide (typesOf f.types (f.blocks.getD 0 default).params=f.sig.inn)=B;generalize circ _=C;generalize decide (_=f.blocks.length)=D;generalize firstTick (f.blocks.getD 0 default).code=E;revert A B C D E; decide
end Ss
