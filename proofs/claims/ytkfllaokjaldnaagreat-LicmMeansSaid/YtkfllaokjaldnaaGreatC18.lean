import Derived.Test.YtkfllaokjaldnaaGreatC17
/- Part of the proof. -/
set_option linter.unusedVariables false
set_option linter.unusedSimpArgs false
set_option maxRecDepth 10000
set_option maxHeartbeats 8000000
namespace Go.Vw
open Go.Proofs Go.RowKit
attribute [-simp] List.map_set
theorem ahe (S:Store) (f:Ss.Fn) (hf:f.Fits) (hs:f.small=true):b9 20 [jM f] S (fun r T=>r = .slice (lid S.nx 0) 0 f.blocks.length/\T=St S [] [some (1,(Ss.succs f.blocks).map (vl cj))]):=by
 have cs:=agx f hf;have hsb := @qn f;obtain ⟨⟨fi,fo⟩,ts,bs⟩:=f;rw [hs] at cs;obtain ⟨sm,hsm⟩ : ∃ sm,sm=true:=⟨_,rfl⟩
 rw [<-hsm] at cs;have cs':b8 35 [.agg [vl cj fi,vl cj fo,vl cj ts,vl je bs]] (.bool sm):=cs;obtain ⟨_,hbl,hbf,_⟩:=hsb hs;simp only at hbl hbf ⊢;refine b7 Tryz.func20 Tryz.ntmps20 fun hwf=>?_
 refine bz ?_
 refine QP ?_;refine QL (cs') ?_;refine bJ hsm ?_;refine bW ?_
 refine qZ 3 1 rfl (by conv=>lhs; simp [Fr.set]) ?_;refine bX [1,3,4] (fun c σ S' => ∃ (k:Nat) (out:List (List Int)),k<=bs.length/\c=bs.length-k/\out.length=k/\out=(bs.take k).map Ss.rowOf/\σ=[(1, .ptr (lid S.nx 0) 0),(3, .slice (lid S.nx 1) 0 k),(4,cu k)]/\S'=St S [] [some (4,[vl cj fi,vl cj fo,vl cj ts,vl je bs]),some (1,out.map (vl cj))]) bs.length ?_ ?_
 .exact ⟨0,[],by omega,rfl,rfl,by simp,by simp [Fr.oy],by simp⟩
 .rintro c σ T ⟨k,out,hk,rfl,hol,ho,rfl,rfl⟩
  by_cases hkt:k<bs.length
  .have hw:=jg hkt (by omega);obtain ⟨_,htl,_,_⟩:=hbf _ (ah hkt);obtain ⟨⟨ps,code,⟨tk,ta,to,az⟩⟩,hx⟩ : ∃ b,bs[k]=b:=⟨_,rfl⟩
   rw [hx] at htl;simp only at htl;have htk:bs.take (k+1)=bs.take k++[⟨ps,code,⟨tk,ta,to,az⟩⟩]:=by rw [List.take_add_one,ac hkt,hx]; rfl
   refine bF hkt hx ?_
   refine qZ 5 1 rfl (by conv=>lhs; simp [Fr.set]) ?_;refine bX [1,3,4,5,6] (fun c σ S' => ∃ (j:Nat) (r:List Int),j<=to.length/\c=to.length-j/\r.length=j/\r=(to.take j).map Ss.Edge.to/\σ=[(1, .ptr (lid S.nx 0) 0),(3, .slice (lid S.nx 1) 0 k),(4,cu k),(5, .slice (lid S.nx 2) 0 j),(6,cu j)]/\S'=St S [] [some (4,[vl cj fi,vl cj fo,vl cj ts,vl je bs]),some (1,out.map (vl cj)),some (1,r.map cj)]) to.length ?_ ?_
   .exact ⟨0,[],by omega,rfl,rfl,by simp,by simp [Fr.oy],by simp⟩
   .rintro c σ T ⟨j,r,hj,rfl,hrl,hr,rfl,rfl⟩
    by_cases hjt:j<to.length
    .have hwj:=jg hjt (by omega);have hb:(j+1)*8<=140737488355328:=by omega
     have hb':j+1<=140737488355328:=by omega
     obtain ⟨⟨xt,xa⟩,hx2⟩ : ∃ b,to[j]=b:=⟨_,rfl⟩
     have htj:to.take (j+1)=to.take j++[⟨xt,xa⟩]:=by rw [List.take_add_one,ac hjt,hx2]; rfl
     repeat first|refine QG ?_|refine QY ?_ (r:=by conv=>lhs;simp[QV,hkt,hx,hjt,hx2,hb,hb',hrl])
     refine QA [0,1,4] (h:=⟨?_,j+1,r++[xt],hjt,rfl,by simp [hrl],by rw [htj,List.map_append,hr]; rfl,by simp [hwj],by simp⟩);omega
    .have hje:j=to.length:=by omega
     subst hje;rw [List.take_length] at hr;have hb:(k+1)*24<=140737488355328:=by omega
     have hb':k+1<=140737488355328:=by omega
     refine QY ?_ (r:=by conv=>lhs;simp[QV,hkt,hx,hjt]);refine QT ?_;refine jD rfl rfl rfl ?_;refine QT ?_;refine jP 2 rfl rfl ?_;refine jy 5 rfl ((frz1 (k:=2) (len:=to.length) (by simp) (by rfl) (jo cj (fun _=>rfl) _) (by simpa using hrl))) (by conv=>lhs; simp [Fr.set]) ?_;simp only [aq,au]
     refine bG hb hb' hol ?_
     refine QA [0,4] (h:=⟨?_,k+1,out++[r],hkt,rfl,by simp [hol],by rw [htk,List.map_append, <-ho,hr]; rfl,by simp [hw],by simp [vl]⟩);omega
  .have hke:k=bs.length:=by omega
   subst hke;rw [List.take_length] at ho;refine bR hkt ?_;refine QT ?_;refine jD rfl rfl rfl ?_;refine QT ?_;refine jP 0 rfl rfl ?_;refine QO [3] ?_;refine QK [1] ?_
   refine bz ?_
   rw [Ss.succs, <-ho];exact zM ⟨by simp,rfl⟩
theorem avs (f:Ss.Fn) (hf:f.Fits) (hs:f.small=true):b8 20 [jM f] (vl (vl cj) (Ss.succs f.blocks)):=by
 intro S;refine Jm fun hwf=>zq ((ahe S f hf hs).mono ?_)
 rintro r T ⟨rfl,rfl⟩;exact jf hwf ((frz1 (k:=0) (cells:=(Ss.succs f.blocks).map (vl cj)) (by simp) (by rfl) (jo (vl cj) (fun _=>rfl) _) (by simp [Ss.succs])).toB _) rfl
theorem arz {α:Type} (p:α->Bool) {l:List α} {k:Nat} (h:k<l.length):(l.drop k).any p=(p l[k]||(l.drop (k+1)).any p):=by
 rw [am h,List.any_cons]
theorem aeq {α:Type} (p:α->Bool) {l:List α} {k:Nat} (h : ¬ k<l.length):(l.drop k).any p=false:=by
 have:l.drop k=[]:=by rw [aH]; omega
 rw [this]; rfl
theorem awx (b:Ss.Block) (hb:b.code.length<2^63):b8 87 [je b] (.bool (Ss.tickB b)):=by
 intro S;obtain ⟨ps,code,⟨tk,ta,to,az⟩⟩:=b;simp only at hb;have hX:Ss.tickB ⟨ps,code,⟨tk,ta,to,az⟩⟩=code.any fun x=>decide (x.op=258):=rfl
 rw [hX];generalize hP:(fun x:Ss.Ins=>decide (x.op=258))=P;refine b7 Tryz.func87 Tryz.ntmps87 fun hwf=>?_
 refine bz ?_
 refine bX [1,3] (fun c σ S' => ∃ (k:Nat),k<=code.length/\c=code.length-k/\(code.drop k).any P=code.any P/\σ=[(1, .ptr (lid S.nx 0) 0),(3,cu k)]/\S'=St S [] [some (6,[vl cj ps,vl js code,cj tk,cj ta,vl ji to,vl cj az])]) code.length ?_ ?_
 .exact ⟨0,by omega,rfl,rfl,by simp [Fr.oy],rfl⟩
 .rintro c σ T ⟨k,hk,rfl,hd,rfl,rfl⟩
  by_cases hkt:k<code.length
  .have hst:=arz P hkt;have hw:=jg hkt hb;obtain ⟨⟨o,n,a,u⟩,hx⟩ : ∃ x,code[k]=x:=⟨_,rfl⟩
   have hp:P ⟨o,n,a,u⟩=decide (o=258):=by rw [<-hP]
   rw [hx,hp] at hst
   by_cases h1:o=258
   .rw [bv h1,Bool.true_or,hd] at hst
    refine bG hkt hx h1 ?_
    rw [hst];exact bS
   .rw [bw h1,Bool.false_or,hd] at hst
    refine bH hkt hx h1 hw ?_
    show jx _ _ _ _ _ _ _;exact again ⟨by omega,k+1,by omega,rfl,hst.symm,by simp [Fr.oy],rfl⟩
  .refine bD hkt ?_
   rw [<-hd,aeq _ hkt];exact bS
end Go.Vw
namespace Ss
inductive Ends (G:List (List Nat)):Nat->Prop
 | mk (i:Nat) (h : ∀ k∈G.getD i [],Ends G k):Ends G i
def msk (bs:List Block) (G:List (List Nat)):List (List Nat):=List.zipWith (fun b r=>if tickB b then [] else r) bs G
theorem acd {bs:List Block} {G:List (List Nat)} (h:G.length=bs.length):(msk bs G).length=bs.length:=by simp [msk,h]
theorem aq1 {α:Type} {M G:List α} {k:Nat} (h1:k<M.length) (h2:k<G.length) (x:α) (hx:x=M[k]):(M.take k++G.drop k).set k x=M.take (k+1)++G.drop (k+1):=by
 subst hx;rw [am h2,List.set_append_right _ _ (by simp; omega)];have e:k-(M.take k).length=0:=by simp; omega
 rw [e,au,List.take_succ_eq_append_getElem h1,List.append_assoc]
 rfl
theorem ani {α:Type} {M G:List α} {k:Nat} (h1:k<M.length) (h2:k<G.length) (hx:M[k]=G[k]):M.take k++G.drop k=M.take (k+1)++G.drop (k+1):=by
 rw [am h2,List.take_succ_eq_append_getElem h1,List.append_assoc,hx]
 rfl
theorem auc {α:Type} {M G:List α} {k:Nat} (h1:k<=M.length) (h2:k<G.length):(M.take k++G.drop k)[k]? = some G[k]:=by
 rw [bf (by simp; omega)];have e:k-(M.take k).length=0:=by simp; omega
 rw [e]; simp [h2]
def fals:List Bool->Nat
 | []=>0
 | b::bs=>(if b then 0 else 1)+fals bs
theorem aet : ∀ {l:List Bool} {i:Nat},l[i]? = some false->fals (l.set i true)+1=fals l
 | [],i,h=>by simp at h
 | b::bs,0,h=>by
  have hb:b=false:=by simpa using h
  simp only [hb,au,fals]; simp; omega
 | b::bs,i+1,h=>by
  have:=aet (l:=bs) (i:=i) (by simpa using h);simp only [aq,fals]; omega
structure GoneOk (M:List (List Nat)) (gone:List Bool):Prop where
 len:gone.length=M.length
 ends : ∀ i,gone[i]? = some true->Ends M i
def Shut (M:List (List Nat)) (gone:List Bool) (i:Nat):Prop:=(∀ k∈M.getD i [],gone.getD k false=true)->gone.getD i false=true
theorem aos {M:List (List Nat)} {gone:List Bool} (h : ∀ i<M.length,Shut M gone i) (hr : ∀ r∈M, ∀ k∈r,k<M.length) {i:Nat} (he:Ends M i):i<M.length->gone.getD i false=true:=by
 induction he with
 | mk i _ ih =>
  intro hi;refine h i hi fun k hk=>ih k hk ?_
  have e:M.getD i []=M[i]:=by simp [hi]
  rw [e] at hk;exact hr _ (ah hi) k hk
end Ss
namespace Go.Vw
open Go.Proofs Go.RowKit
attribute [-simp] List.map_set
theorem aus {S:Store} {l:List (Option (Nat × List V))} (hwf:S.Wf) (b:Bool) {p:Bool->Prop} (hp:p b):Jb S.nx (fun r T => ∃ b,r = .bool b/\p b/\T=S) (.bool b) (St S [] l):=by
 obtain ⟨x,S',hg,h1,h2⟩:=ja (l:=l) (r := .bool b) hwf rfl rfl;exact ⟨x,S',hg,b,h1,hp,h2⟩
theorem aui {α:Type} (p:α->Bool) {l:List α} {j:Nat} (h:j<l.length):(l.take (j+1)).any p=((l.take j).any p||p l[j]):=by
 rw [List.take_add_one,ac h,List.any_append]; simp
theorem ayd {B:Store} {u:Upds} {l:List (Option (Nat × List V))} {d:Nat × List V}:St (St B u l) [] [some d]=(St B u l).add d:=by
 refine Store.ext' (funext fun o' => ?_) rfl;rw [qJ,Yl]
 by_cases h:o'<(St B u l).nx
 .rw [if_pos h,if_neg (by omega)];simp only [uGet]
 .rw [if_neg h]
  by_cases e:o'=(St B u l).nx
  .subst e;rw [if_pos rfl]; simp
  .rw [if_neg e,qJ];have hnx:(St B u l).nx=B.nx+l.length:=by rw [jR]; rfl
   rw [if_neg (by omega),aJ (l:=l) (by omega),aJ (by rw [List.length_singleton]; omega)]
theorem anw (f:Ss.Fn) (hf:f.Fits) (hs:f.small=true) (G:List (List Nat)) (hG:(Ss.succs f.blocks).map (vl cj)=G.map (vl cu)) (hrow : ∀ r∈G,r.length<2^62 /\ ∀ k∈r,k<G.length) (S:Store) :
  b9 49 [jM f] S (fun r T => ∃ b,r = .bool b/\(b=false ↔ ∀ i<G.length,Ss.Ends (Ss.msk f.blocks G) i)/\T=S):=by
 have hso:=fun S=>ahe S f hf hs
 have hGl:G.length=f.blocks.length:=by have:=congrArg List.length hG; simpa [Ss.succs] using this.symm
 obtain ⟨_,hbl,hbf,_⟩:=qn hs;have htv : ∀ (k:Nat) (h:k<f.blocks.length),b8 87 [je f.blocks[k]] (.bool (Ss.tickB f.blocks[k])):=fun k h=>awx _ (by have:=(hbf _ (ah h)).2.2; omega)
 rw [hG] at hso;obtain ⟨⟨fi,fo⟩,ts,bs⟩:=f;simp only at hGl hbl hso htv ⊢;obtain ⟨M,hM⟩ : ∃ M,Ss.msk bs G=M:=⟨_,rfl⟩
 have hMl:M.length=bs.length:=by rw [<-hM]; exact Ss.acd hGl
 have hMk : ∀ (k:Nat) (h1:k<bs.length) (h2:k<G.length) (h3:k<M.length),M[k]=if Ss.tickB bs[k] then [] else G[k]:=fun k h1 h2 h3=>by simp [<-hM,Ss.msk]
 rw [hM];clear hG;refine b7 Tryz.func49 Tryz.ntmps49 fun hwf=>?_
 refine bz ?_
 refine QP ?_;refine jK (xs:=[.agg [vl cj fi,vl cj fo,vl cj ts,vl je bs]]) rfl (hso _) ?_;rintro X S' ⟨rfl,rfl⟩;rw [ayd,jbn,jR,lid_lid];simp only [bl,bm,aC,aM,a8,Nat.add_zero];refine bV ?_
 refine bX [1,3,4] (fun c σ S' => ∃ (k:Nat),k<=bs.length/\c=bs.length-k/\σ=[(1, .ptr (lid S.nx 0) 0),(3, .slice (lid S.nx 1) 0 bs.length),(4,cu k)]/\S'=St S [] [some (4,[vl cj fi,vl cj fo,vl cj ts,vl je bs]),some (1,(M.take k++G.drop k).map (vl cu))]) bs.length ?_ ?_
 .exact ⟨0,by omega,rfl,by simp [Fr.oy],by simp⟩
 .rintro c σ T ⟨k,hk,rfl,rfl,rfl⟩
  by_cases hkt:k<bs.length
  .have hw:=jg hkt (by omega);have hkG:k<G.length:=by omega
   have hkM:k<M.length:=by omega
   have h1:=hMk k hkt hkG hkM;have hget:=Ss.auc (M:=M) (G:=G) (k:=k) (by omega) hkG;have hset:=Ss.aq1 (M:=M) (G:=G) hkM hkG;have hsame:=Ss.ani (M:=M) (G:=G) hkM hkG;have hRl:(M.take k++G.drop k).length=bs.length:=by simp; omega
   generalize M.take k++G.drop k=R at *
   have ct:=htv k hkt;obtain ⟨⟨ps,code,⟨tk,ta,to,az⟩⟩,hx⟩ : ∃ b,bs[k]=b:=⟨_,rfl⟩
   rw [hx] at ct h1;generalize Ss.tickB ⟨ps,code,⟨tk,ta,to,az⟩⟩=tb at *
   have ct':b8 87 [.agg [vl cj ps,vl js code, .int .i64 tk, .int .i64 ta,vl ji to,vl cj az]] (.bool tb):=ct
   refine bF hkt hx ?_
   refine bQ hkt hx ?_;refine QL (ct') ?_
   by_cases htb:tb=true
   .rw [htb,if_pos rfl] at h1;have hs:=hset [] h1.symm;refine bJ htb ?_;refine QN ?_;refine QT ?_;refine jC rfl rfl rfl ?_;refine QY ?_ (r:=by conv=>lhs;simp[QV,hkt,hRl])
    apply jv
    .exact Reach.nilCell (k:=1) (i:=k) (by simp) (by rfl) (by simp [hkt,hRl])
    simp only [aq,au]
    refine bD hw ?_
    show jx _ _ _ _ _ _ _;exact again ⟨by omega,k+1,by omega,rfl,by simp [Fr.oy],by rw [<-hs,List.map_set]; rfl⟩
   .rw [if_neg htb] at h1;have hs:=hsame h1;have htb':tb=false:=by simpa using htb
    refine bJ htb' ?_;refine QN ?_
    refine bD hw ?_
    show jx _ _ _ _ _ _ _;exact again ⟨by omega,k+1,by omega,rfl,by simp [Fr.oy],by rw [hs]⟩
  .have hke:k=bs.length:=by omega
   subst hke;have hMt:M.take bs.length++G.drop bs.length=M:=by rw [<-hMl,List.take_length,hMl, <-hGl,List.drop_length,List.append_nil]
   rw [hMt];have hMr : ∀ r∈M,r.length<2^62 /\ ∀ k∈r,k<M.length:=fun r hr=>by
    obtain ⟨j,hj,rfl⟩:=a7 hr;rw [hMk j (by omega) (by omega) hj];split
    .simp
    .have:=hrow _ (ah (show j<G.length by omega));exact ⟨this.1,fun k hk=>by have:=this.2 k hk; omega⟩
   rw [show G.length=M.length by omega];have hnl:bs.length<2^62:=by omega
   have hb1:bs.length*1<=140737488355328:=by omega
   have hb2:bs.length<=140737488355328:=by omega
   have hrep:rep0 [V.bool false] bs.length=(List.replicate bs.length false).map V.bool:=by simp [jcK]
   refine bH hkt hb1 hb2 hrep ?_
   refine bX [3,5,6] (fun c σ S' => ∃ (gone:List Bool) (t:Bool),c=2*Ss.fals gone+(if t then 1 else 0)/\Ss.GoneOk M gone/\(t=false -> ∀ i<M.length,Ss.Shut M gone i)/\σ=[(3, .slice (lid S.nx 1) 0 bs.length),(5, .slice (lid S.nx 2) 0 bs.length),(6, .bool t)]/\S'=St S [] [some (4,[vl cj fi,vl cj fo,vl cj ts,vl je bs]),some (1,M.map (vl cu)),some (1,gone.map V.bool)]) (2*Ss.fals (List.replicate bs.length false)+1) ?_ ?_
   .exact ⟨List.replicate bs.length false,true,rfl,⟨by simp [hMl],fun i h=>by simp [List.getElem?_replicate] at h⟩,(fun h=>by cases h),by simp [Fr.oy],by simp⟩
   .rintro c σ T ⟨gone,t,rfl,hok,hsh,rfl,rfl⟩;have hgl:gone.length=bs.length:=by rw [hok.len,hMl]
    by_cases ht:t=true
    .subst ht
     refine bz ?_
     refine bX [3,5,6,7] (fun c σ S' => ∃ (k:Nat) (g:List Bool) (t:Bool),k<=bs.length/\c=bs.length-k/\Ss.GoneOk M g/\(t=true->Ss.fals g<Ss.fals gone)/\(t=false->g=gone /\ ∀ i<k,Ss.Shut M gone i)/\σ=[(3, .slice (lid S.nx 1) 0 bs.length),(5, .slice (lid S.nx 2) 0 bs.length),(6, .bool t),(7,cu k)]/\S'=St S [] [some (4,[vl cj fi,vl cj fo,vl cj ts,vl je bs]),some (1,M.map (vl cu)),some (1,g.map V.bool)]) bs.length ?_ ?_
     .exact ⟨0,gone,false,by omega,rfl,hok,(fun h=>by cases h),fun _=>⟨rfl,fun i hi=>by omega⟩,by simp [Fr.oy],rfl⟩
     .rintro c σ T ⟨k,g,t,hk,rfl,hokg,hlt,heq,rfl,rfl⟩;have hgl:g.length=bs.length:=by rw [hokg.len,hMl]
      by_cases hkt:k<bs.length
      .have hkM:k<M.length:=by omega
       have hw:=jg hkt (by omega);obtain ⟨row,hrow'⟩ : ∃ r,M[k]=r:=⟨_,rfl⟩
       have hrd:M.getD k []=row:=by simp [hkM,hrow']
       obtain ⟨hrl,hrk⟩:=hMr _ (ah hkM);rw [hrow'] at hrl hrk;obtain ⟨P,hP⟩ : ∃ P:Nat->Bool,(fun x => !g.getD x false)=P:=⟨_,rfl⟩
       have hPx : ∀ x,P x = !g.getD x false:=fun x=>by rw [<-hP]
       refine bG hkt hkM hrow' ?_
       refine bX [3,5,6,7,8,9] (fun c σ S' => ∃ (j:Nat) (s:Bool),j<=row.length/\c=row.length-j/\s=(row.take j).any P/\σ=[(3, .slice (lid S.nx 1) 0 bs.length),(5, .slice (lid S.nx 2) 0 bs.length),(6, .bool t),(7,cu k),(8, .bool s),(9,cu j)]/\S'=St S [] [some (4,[vl cj fi,vl cj fo,vl cj ts,vl je bs]),some (1,M.map (vl cu)),some (1,g.map V.bool)]) row.length ?_ ?_
       .exact ⟨0,false,by omega,rfl,by simp,by simp [Fr.oy],rfl⟩
       .rintro c σ T ⟨j,s,hj,rfl,hs,rfl,rfl⟩
        by_cases hjt:j<row.length
        .have hwj:=jg hjt (by omega);have hst:=aui P hjt;have hxl:=hrk _ (ah hjt);obtain ⟨x,hx⟩ : ∃ x,row[j]=x:=⟨_,rfl⟩
         rw [hx] at hst hxl;have hxg:x<g.length:=by omega
         have hxb:x<bs.length:=by omega
         obtain ⟨y,hy⟩ : ∃ y,g[x]=y:=⟨_,rfl⟩
         have hyd:P x = !y:=by rw [hPx]; simp [hxg,hy]
         rw [hyd, <-hs] at hst
         by_cases h1:s=true
         .rw [h1,Bool.true_or] at hst
          refine bB hkt hkM hrow' hjt h1 hwj ?_
          show jx _ _ _ _ _ _ _;exact again ⟨by omega,j+1,true,by omega,rfl,hst.symm,by simp [Fr.oy],rfl⟩
         .have h1':s=false:=by simpa using h1
          rw [h1',Bool.false_or] at hst
          repeat first|refine QG ?_|refine QY ?_ (r:=by conv=>lhs;simp[QV,hkt,hkM,hrow',hjt,h1',hx,hxg,hxb,hy,hwj])
          show jx _ _ _ _ _ _ _;exact again ⟨by omega,j+1, !y,by omega,rfl,hst.symm,by simp [Fr.oy],rfl⟩
        .have hje:j=row.length:=by omega
         subst hje;rw [List.take_length] at hs;have hkg:k<g.length:=by omega
         obtain ⟨y,hy⟩ : ∃ y,g[k]=y:=⟨_,rfl⟩
         have hyd:g.getD k false=y:=by simp [hkg,hy]
         by_cases h1:s=true
         .have hsk:Ss.Shut M g k:=fun h=>by
           rw [hrd] at h;rw [h1] at hs;obtain ⟨x,hx1,hx2⟩:=List.any_eq_true.1 hs.symm;rw [hPx,h x hx1] at hx2
           cases hx2
          have heq':t=false->g=gone /\ ∀ i<k+1,Ss.Shut M gone i:=fun h=>by
           obtain ⟨h2,h3⟩:=heq h;refine ⟨h2,fun i hi => ?_⟩;rcases Nat.lt_succ_iff_lt_or_eq.1 hi with h4 | h4
           .exact h3 i h4
           .rw [h4, <-h2]; exact hsk
          refine bB hkt hkM hrow' hjt h1 hw ?_
          show jx _ _ _ _ _ _ _;exact again ⟨by omega,k+1,g,t,by omega,rfl,hokg,hlt,heq',by simp [Fr.oy],rfl⟩
         have h1':s=false:=by simpa using h1
         have hall : ∀ x∈row,g.getD x false=true:=fun x hx=>by
          rw [h1'] at hs;have:=List.any_eq_false.1 hs.symm x hx;rw [hPx] at this;simpa using this
         by_cases h2:y=true
         .have hsk:Ss.Shut M g k:=fun _=>by rw [hyd]; exact h2
          have heq':t=false->g=gone /\ ∀ i<k+1,Ss.Shut M gone i:=fun h=>by
           obtain ⟨h2,h3⟩:=heq h;refine ⟨h2,fun i hi => ?_⟩;rcases Nat.lt_succ_iff_lt_or_eq.1 hi with h4 | h4
           .exact h3 i h4
           .rw [h4, <-h2]; exact hsk
          repeat first|refine QG ?_|refine QY ?_ (r:=by conv=>lhs;simp[QV,hkt,hkM,hrow',hjt,h1',hkg,hy,h2,hw])
          show jx _ _ _ _ _ _ _;exact again ⟨by omega,k+1,g,t,by omega,rfl,hokg,hlt,heq',by simp [Fr.oy],rfl⟩
         .have h2':y=false:=by simpa using h2
          have hf:=Ss.aet (l:=g) (i:=k) (by rw [ac hkg,hy,h2']);have hok':Ss.GoneOk M (g.set k true):=⟨by rw [List.length_set]; exact hokg.len,fun i hi=>by
           by_cases hik:i=k
           .subst hik;refine Ss.Ends.mk i fun x hx => ?_
            rw [hrd] at hx;have h4:=hall x hx;have hxg:x<g.length:=by have:=hrk x hx; omega
            exact hokg.ends x (by rw [ac hxg]; simpa [hxg] using h4)
           .rw [aQ (fun h=>hik h.symm)] at hi;exact hokg.ends i hi⟩
          have hlt':true=true->Ss.fals (g.set k true)<Ss.fals gone:=fun _=>by
           cases t with
           | true=>have:=hlt rfl; omega
           | false=>obtain ⟨rfl,_⟩:=heq rfl; omega
          repeat first|refine QG ?_|refine QY ?_ (r:=by conv=>lhs;simp[QV,hkt,hkM,hrow',hjt,h1',hkg,hy,h2',hw])
          show jx _ _ _ _ _ _ _;exact again ⟨by omega,k+1,g.set k true,true,by omega,rfl,hok',hlt',(fun h=>by cases h),by simp [Fr.oy],by simp⟩
      .have hke:k=bs.length:=by omega
       subst hke
       refine bD hkt ?_
       show jx _ _ _ _ _ _ _;exact again ⟨by cases t with | true=>(have:=hlt rfl; simp; omega) | false=>(obtain ⟨rfl,_⟩:=heq rfl; simp),g,t,rfl,hokg,(fun h=>by obtain ⟨rfl,h2⟩:=heq h; rw [hMl]; exact h2),by simp [Fr.oy],rfl⟩
    .have ht':t=false:=by simpa using ht
     subst ht';have hsh':=hsh rfl
     refine bz ?_
     refine bX [3,5,10] (fun c σ S' => ∃ (k:Nat),k<=bs.length/\c=bs.length-k/\(∀ i<k,gone.getD i false=true)/\σ=[(3, .slice (lid S.nx 1) 0 bs.length),(5, .slice (lid S.nx 2) 0 bs.length),(10,cu k)]/\S'=St S [] [some (4,[vl cj fi,vl cj fo,vl cj ts,vl je bs]),some (1,M.map (vl cu)),some (1,gone.map V.bool)]) bs.length ?_ ?_
     .exact ⟨0,by omega,rfl,fun i hi=>by omega,by simp [Fr.oy],rfl⟩
     .rintro c σ T ⟨k,hk,rfl,hall,rfl,rfl⟩
      by_cases hkt:k<bs.length
      .have hkg:k<gone.length:=by omega
       have hw:=jg hkt (by omega);obtain ⟨y,hy⟩ : ∃ y,gone[k]=y:=⟨_,rfl⟩
       have hyd:gone.getD k false=y:=by simp [hkg,hy]
       by_cases h1:y=true
       .have hall' : ∀ i<k+1,gone.getD i false=true:=by
         intro i hi;rcases Nat.lt_succ_iff_lt_or_eq.1 hi with h | h
         .exact hall i h
         .rw [h,hyd]; exact h1
        refine bO hkt hkg hy h1 hw ?_
        show jx _ _ _ _ _ _ _;exact again ⟨by omega,k+1,by omega,rfl,hall',by simp [Fr.oy],rfl⟩
       .have h1':y=false:=by simpa using h1
        have hno : ¬ ∀ i<M.length,Ss.Ends M i:=fun h=>by
         have:=Ss.aos hsh' (fun r hr=>(hMr r hr).2) (h k (by omega)) (by omega);rw [hyd] at this;exact h1 this
        refine bH hkt hkg hy h1' ?_
        exact aus hwf true ⟨(fun h=>by cases h),fun h=>absurd h hno⟩
      .have hke:k=bs.length:=by omega
       subst hke;have hyes : ∀ i<M.length,Ss.Ends M i:=fun i hi=>hok.ends i (by
        have h1:=hall i (by omega);have hig:i<gone.length:=by omega
        simp only [ag,ac hig,aR] at h1;rw [ac hig,h1])
       refine bD hkt ?_
       exact aus hwf false ⟨fun _=>hyes,fun _=>rfl⟩
open Classical in
noncomputable def _root_.Ss.circ (M:List (List Nat)):Bool:=decide (¬ ∀ i<M.length,Ss.Ends M i)
open Classical in
theorem ama (f:Ss.Fn) (hf:f.Fits) (hs:f.small=true) (G:List (List Nat)) (hG:(Ss.succs f.blocks).map (vl cj)=G.map (vl cu)) (hrow : ∀ r∈G,r.length<2^62 /\ ∀ k∈r,k<G.length) :
  b8 49 [jM f] (.bool (Ss.circ (Ss.msk f.blocks G))):=fun S=>by
 have hGl:G.length=f.blocks.length:=by have:=congrArg List.length hG; simpa [Ss.succs] using this.symm
 refine (anw f hf hs G hG hrow S).mono ?_;rintro r T ⟨b,rfl,hb,rfl⟩;refine ⟨?_,rfl⟩
 congr 1
 have e:(Ss.msk f.blocks G).length=G.length:=by rw [Ss.acd hGl,hGl]
 unfold Ss.circ;rw [e]
 cases b with
 | false =>
  have h1:=hb.1 rfl;exact (bw (p := ¬ _) (not_not_intro h1)).symm
 | true =>
  have h1 : ¬ ∀ i<G.length,Ss.Ends (Ss.msk f.blocks G) i:=fun h=>by have:=hb.2 h; cases this
  exact (bv (p := ¬ _) h1).symm
end Go.Vw
namespace Ss
def rcheckCode (e:Env) (f:Fn) (ds:List Def) (near:List Int) (i:Int):Nat->List Ins->Bool
 | _,[]=>true
 | k,x::r=>rinsOk e f ds near i k x&&rcheckCode e f ds near i (k+1) r
def rcheckBlock (e:Env) (f:Fn) (ds:List Def) (near:List Int) (i:Int) (b:Block):Bool :=
 rcheckCode e f ds near i 0 b.code&&(rtermOk f ds near i b.code.length b.term&&b.term.to.all (redgeOk f ds near i b.code.length))
def rcheckBlocks (e:Env) (f:Fn) (ds:List Def) (near:List Int):Nat->List Block->Bool
 | _,[]=>true
 | i,b::bs=>rcheckBlock e f ds near i b&&rcheckBlocks e f ds near (i+1) bs
def firstTick:List Ins->Bool
 | []=>false
 | x::_=>decide (x.op=258)
noncomputable def rshape (f:Fn):Bool:=decide (cv f.types (f.blocks.getD 0 default).params=f.sig.inn)&&(firstTick (f.blocks.getD 0 default).code && !circ (msk f.blocks (Go.Vw.G.nats (succs f.blocks))))
noncomputable def rcheck (e:Env) (f:Fn):Bool:=checkHead e f&&decide (1<=f.blocks.length)&&match defsOf f with
 | none=>false
 | some ds=>Go.Vw.G.right (succs f.blocks)&&((Go.Vw.G.without (Go.Vw.G.nats (succs f.blocks)) none).all id&&(rshape f&&rcheckBlocks e f ds (Go.Vw.G.cD (succs f.blocks)) 0 f.blocks))
end Ss
namespace Go.Vw
open Go.Proofs Go.RowKit
theorem arl (g:List (List Int)) (hl:g.length<2^63) (h : ∀ l∈g,l.length<2^63) (hr:G.right g=true):b8 47 [vl (vl cj) g] (.tuple [vl cj (G.cD g),cj 0]):=by
 have h1:b8 45 [vl (vl cu) (G.nats g)] (.bool true):=by
  have:=agl g hl h;rw [hr,G.aan hr] at this;exact this
 have:=alc _ (G.aag hr) h1;rw [<-G.aan hr] at this;simp only [G.cD,hr,if_true];exact this
theorem alx (g:List (List Int)) (hr:G.right g=true):b8 46 [vl (vl cj) g,cj (-1)] (vl V.bool (G.without (G.nats g) none)):=by
 have:=jbm _ (G.aag hr) none (fun _ h=>by cases h);rw [<-G.aan hr] at this;exact this
end Go.Vw
namespace Ss
theorem ae0 {block pos:Int} (h0:0<=block) : ∀ {l:List Int} {ds d:List Def},put block pos ds l=some d->(∀ x∈ds,x.made=true->0<=x.block) -> ∀ x∈d,x.made=true->0<=x.block
 | [],ds,d,h,hn=>by simp only [put,ay] at h; rw [<-h]; exact hn
 | v::l,ds,d,h,hn=>by
  simp only [put] at h;split at h
  .cases h
  .exact ae0 h0 h fun x hx hm=>(List.mem_or_eq_of_mem_set hx).elim (fun h=>hn x h hm) (fun h=>by rw [h]; exact h0)
theorem jbU {i:Int} (h0:0<=i) : ∀ {l:List Ins} {k:Nat} {ds d:List Def},putCode i k ds l=some d->(∀ x∈ds,x.made=true->0<=x.block) -> ∀ x∈d,x.made=true->0<=x.block
 | [],k,ds,d,h,hn=>by simp only [putCode,ay] at h; rw [<-h]; exact hn
 | x::r,k,ds,d,h,hn=>by
  simp only [putCode,aN] at h;obtain ⟨d1,h1,h2⟩:=h;exact jbU h0 h2 (ae0 h0 h1 hn)
theorem Zo : ∀ {bs:List Block} {i:Nat} {ds d:List Def},cI i ds bs=some d->(∀ x∈ds,x.made=true->0<=x.block) -> ∀ x∈d,x.made=true->0<=x.block
 | [],i,ds,d,h,hn=>by simp only [cI,ay] at h; rw [<-h]; exact hn
 | b::bs,i,ds,d,h,hn=>by
  simp only [cI,aN] at h;obtain ⟨d2,⟨d1,h1,h2⟩,h3⟩:=h;exact Zo h3 (jbU (by omega) h2 (ae0 (by omega) h1 hn))
theorem avn {f:Fn} {ds:List Def} (h:defsOf f=some ds) : ∀ x∈ds,x.made=true->0<=x.block :=
 Zo h fun x hx hm=>by
  obtain ⟨_,rfl⟩:=List.mem_replicate.1 hx
  cases hm
end Ss
namespace Go.Vw
end Go.Vw
namespace Ss
theorem av5 {α:Type} (p:α->α->Bool) (l:List α):Go.Vw.eqF p l []=decide (l.length=0):=by
 cases l<;>simp [Go.Vw.eqF]
theorem jaa (ts:List Int) (ds:List Def) (near:List Int) (block pos:Int) (l:List Int):asks ts ds near block pos l []=decide (l.length=0):=av5 _ l
def chkF (n:Int) (t:List Int) (A:List Int->Bool) (r:FormR):Bool:=r.ok&&decide (n<=r.most)&&decide (t=r.outs)&&A r.inn
def chkR (t:List Int) (A:List Int->Bool) (r:RForm):Bool:=r.ok&&decide (t=r.outs)&&A r.inn
theorem aik (e:Env) (op n out:Int) (h0:0<=n) (h1:n<18446744073709551616) (ho:out=127\/out=126\/out=0) (t:List Int) (ht:out=0->t=[]) (A:List Int->Bool) :
  chkF n t A (form e op n out)=chkR t A (rform e op n out):=by
 have hz:decide (n<=0)=decide (n=0):=by simp; omega
 have n27:cB 27=([],0,false):=by decide
 have n16:cB 16=([],0,false):=by decide
 have n35:cB 35=([],0,false):=by decide
 have n36:cB 36=([],0,false):=by decide
 have a63:accOf 63=none:=by decide
 have a64:accOf 64=none:=by decide
 have nn : ∀ m:Int,decide (m<=m)=true:=fun m=>by simp
 have lt32:decide (n<=4294967295)=decide (n<4294967296):=by simp; omega
 have le64:decide (n<=18446744073709551615)=true:=by simp; omega
 unfold form rform
 by_cases h256:op=256
 .rw [if_pos h256,if_pos h256];rcases ho with rfl | rfl | rfl
  .simp [chkF,chkR,lt32]
  .simp [chkF,chkR,le64]
  .rw [ht rfl]; simp [chkF,chkR]
 rw [if_neg h256,if_neg h256]
 by_cases h258:op=258
 .rw [if_pos h258,if_pos h258]; simp [chkF,chkR,hz]
 rw [if_neg h258,if_neg h258]
 by_cases h27:op=27
 .subst h27; rw [if_pos rfl,n27]; simp [chkF,chkR,hz]
 rw [if_neg h27]
 by_cases h16:op=16
 .subst h16;rw [if_pos rfl,n16];simp only [rformEnv]
  by_cases h:n<e.sigs.length<;>simp [chkF,chkR,h]
 rw [if_neg h16]
 by_cases h35:op=35\/op=36
 .rw [if_pos h35];have hn:cB op=([],0,false):=by rcases h35 with rfl | rfl<;>assumption
  rw [hn];simp only [formGlob,rformEnv,if_neg h27,if_pos h35]
  by_cases h:n<e.globals.length
  .by_cases h5:op=35<;>simp [chkF,chkR,h,h5]
  .simp [chkF,chkR,h]
 rw [if_neg h35];simp only [formNum];generalize cB op=sg;obtain ⟨l,ty,b⟩:=sg
 cases b with
 | true=>simp [chkF,chkR,hz]
 | false =>
  simp only [if_neg h27,rformEnv,if_neg h35,if_neg h16]
  cases e.mem with
  | false=>simp [chkF,chkR]
  | true =>
   simp only [if_true,formMem,rformMem]
   by_cases h257:op=257
   .simp [chkF,chkR,h257]
   rw [if_neg h257,if_neg h257]
   by_cases h63:op=63
   .subst h63; rw [if_pos rfl,a63]; simp [chkF,chkR,hz]
   rw [if_neg h63]
   by_cases h64:op=64
   .subst h64; rw [if_pos rfl,a64]; simp [chkF,chkR,hz]
   rw [if_neg h64]
   cases accOf op with
   | none=>simp [chkF,chkR,h63,h64]
   | some a=>cases hst:a.store<;>simp [chkF,chkR,hst,lt32]
theorem ak6 {e:Env} {f:Fn} {ds:List Def} {near:List Int} {i k:Int} {x:Ins} (hx:x.Fits) (hk : ∀ t∈f.types,isKind t=true) (ho:InTs f.types.length x.outs):rinsOk e f ds near i k x=insOk e f ds near i k x:=by
 refine (aik e x.op x.n (insOut f.types x) hx.2.1.1 hx.2.1.2 ?_ (cv f.types x.outs) ?_ (asks f.types ds near i k x.args)).symm
 .unfold insOut
  cases hu:x.outs with
  | nil=>simp
  | cons v r =>
   obtain ⟨h0,h1⟩:=ho v (by rw [hu]; simp);have hlt:v.toNat<f.types.length:=by omega
   have:=hk _ (ah hlt);simp only [ag,ac hlt,aR];simp only [isKind,bk,aj] at this;rcases this with h | h
   .exact .inl h
   .exact .inr (.inl h)
 .intro h;unfold insOut at h
  cases hu:x.outs with
  | nil=>rfl
  | cons v r =>
   rw [hu] at h;obtain ⟨h0,h1⟩:=ho v (by rw [hu]; simp);have hlt:v.toNat<f.types.length:=by omega
   have:=hk _ (ah hlt);simp only [ag,ac hlt,aR] at h;rw [h] at this;simp [isKind] at this
theorem aiu {f:Fn} {ds:List Def} {near:List Int} {i pos:Int} {x:Edge} (h:0<=x.to):redgeOk f ds near i pos x=edgeOk f ds near i pos x:=by
 have:decide (1<=x.to) = !decide (x.to=0):=by
  by_cases h0:x.to=0
  .simp [h0]
  .simp [h0]; omega
 rw [redgeOk,edgeOk,this]
theorem jck {α:Type} {p q:α->Bool} : ∀ {l:List α},(∀ x∈l,p x=q x)->l.all p=l.all q
 | [],_=>rfl
 | x::l,h=>by rw [List.all_cons,List.all_cons,h x (by simp),jck fun y hy=>h y (by simp [hy])]
theorem aie {f:Fn} {ds:List Def} {near:List Int} {i:Int} {b:Block} (h : ∀ x∈b.term.to,0<=x.to):(rtermOk f ds near i b.code.length b.term&&b.term.to.all (redgeOk f ds near i b.code.length))=termOk f ds near i b:=by
 rw [jck (q:=edgeOk f ds near i b.code.length) fun x hx=>aiu (h x hx)];obtain ⟨ps,code,⟨k,a,to,az⟩⟩:=b;simp only [termOk,rtermOk];have h0:decide (to.length=0)=(decide (0<=to.length)&&decide (to.length<=0)):=by
  rw [Bool.eq_iff_iff]; simp only [af,aj]; omega
 have h1:decide (to.length=1)=(decide (1<=to.length)&&decide (to.length<=1)):=by
  rw [Bool.eq_iff_iff]; simp only [af,aj]; omega
 have h2:decide (to.length=2)=(decide (2<=to.length)&&decide (to.length<=2)):=by
  rw [Bool.eq_iff_iff]; simp only [af,aj]; omega
 rw [h0,h1,h2];have hT : ∀ le mo rs,termTail f ds near i code.length ⟨k,a,to,az⟩ le mo rs=((if (decide (k=2)||decide (k=3))=true then asks f.types ds near i code.length [a] [127] else decide (a=0))&&decide (le<=to.length)&&decide (to.length<=mo)&&asks f.types ds near i code.length az rs&&to.all (edgeOk f ds near i code.length)):=fun _ _ _=>rfl
 simp only [hT];clear hT h0 h1 h2;generalize to.all (edgeOk f ds near i code.length)=E;have aa : ∀ {a b c d e:Bool},(a&&(b&&(c&&d))&&e)=(a&&c&&d&&b&&e):=by decide
 have ab : ∀ {a b c d e:Bool},(a&&(b&&c&&d)&&e)=(a&&b&&c&&d&&e):=by decide
 by_cases k2:k=2
 .have e:termHead f.sig.out k=some (2,2,[]):=by rw [k2]; rfl
  simp only [e];simp only [k2,if_true,jaa,decide_true,Bool.true_or];exact aa
 have d2:decide (k=2)=false:=bw k2;rw [if_neg k2,d2,Bool.false_or]
 by_cases k3:k=3
 .have e:termHead f.sig.out k=some (1,65,[]):=by rw [k3]; rfl
  simp only [e];simp only [k3,if_true,jaa,decide_true];exact aa
 have d3:decide (k=3)=false:=bw k3;rw [if_neg k3,d3];simp only [aF,if_false]
 by_cases k4:k=4
 .have e:termHead f.sig.out k=some (0,0,f.sig.out):=by rw [k4]; rfl
  simp only [e,if_pos k4];exact ab
 rw [if_neg k4]
 by_cases k1:k=1
 .have e:termHead f.sig.out k=some (1,1,[]):=by rw [k1]; rfl
  simp only [e,if_pos k1,jaa];exact aa
 rw [if_neg k1]
 by_cases k5:k=5
 .have e:termHead f.sig.out k=some (0,0,[]):=by rw [k5]; rfl
  simp only [e];simp only [k5,jaa,decide_true,aE];exact aa
 simp [termHead,k1,k2,k3,k4,k5]
inductive Walk (G:List (List Nat)):Nat->Nat->Prop
 | one {a b:Nat} (h:b∈G.getD a []):Walk G a b
 | more {a b c:Nat} (h:Walk G a b) (k:c∈G.getD b []):Walk G a c
theorem Walk.cons {G:List (List Nat)} {a b c:Nat} (h:b∈G.getD a []) (w:Walk G b c):Walk G a c:=by
 induction w with
 | one k=>exact .more (.one h) k
 | more _ k ih=>exact .more ih k
theorem Walk.first {G:List (List Nat)} {a c:Nat} (w:Walk G a c) : ∃ b,b∈G.getD a []/\(b=c\/Walk G b c):=by
 induction w with
 | one h=>exact ⟨_,h, .inl rfl⟩
 | more _ k ih =>
  obtain ⟨b,h1,h2⟩:=ih;refine ⟨b,h1, .inr ?_⟩;rcases h2 with rfl | h2
  .exact .one k
  .exact .more h2 k
theorem Ends.no_ring {G:List (List Nat)} {i:Nat} (h:Ends G i) : ¬ Walk G i i:=by
 induction h with
 | mk i _ ih =>
  intro w;obtain ⟨b,h1,h2⟩:=w.first;refine ih b h1 ?_;rcases h2 with rfl | h2
  .exact .one h1
  .exact .more h2 h1
section
variable {tick:List Bool} {g M:List (List Nat)}
def Kl (M:List (List Nat)) (st:List Nat):Prop := ∀ k,st.getD k 0≠0->st.getD k 0≠1->Ends M k
def OnesIn (s st:List Nat):Prop := ∀ k,s.getD k 0=1->st.getD k 0=1
theorem getD_set_ne {α:Type} {l:List α} {i j:Nat} {a d:α} (h:i≠j):(l.set i a).getD j d=l.getD j d:=by simp [aQ h]
theorem Wu {α:Type} {l:List α} {i:Nat} {a d:α} (h:i<l.length):(l.set i a).getD i d=a:=by simp [h]
theorem jcJ {N fuel:Nat} (ih : ∀ n st s,n<N->st.length=N->st.getD n 0=0->Kl M st->ringW tick g fuel n st=some (false,s)->Ends M n/\Kl M s/\OnesIn s st) :
  ∀ (ks st s:List Nat),(∀ k∈ks,k<N)->st.length=N->Kl M st->ringL tick g fuel ks st=some (false,s)->(∀ k∈ks,Ends M k)/\Kl M s/\OnesIn s st
 | [],st,s,_,_,hd,h=>by rw [ringL] at h; cases h; exact ⟨by simp,hd,fun _ h=>h⟩
 | k::ks,st,s,hk,hl,hd,h=>by
  rw [ringL] at h;split at h
  .cases h
  .rename_i h1;split at h
   .rename_i h0
    cases hw:ringW tick g fuel k st with
    | none=>rw [hw] at h; cases h
    | some p =>
     obtain ⟨b,s1⟩:=p;rw [hw] at h
     cases b with
     | true=>cases h
     | false =>
      obtain ⟨e1,e2,e3⟩:=ih k st s1 (hk k (by simp)) hl h0 hd hw;have hl1:=aax _ _ _ _ _ hw;obtain ⟨f1,f2,f3⟩:=jcJ ih ks s1 s (fun x hx=>hk x (by simp [hx])) (by omega) e2 h;refine ⟨fun x hx => ?_,f2,fun x hx=>e3 x (f3 x hx)⟩;rcases aL.1 hx with rfl | hx
      .exact e1
      .exact f1 x hx
   .rename_i h0;obtain ⟨f1,f2,f3⟩:=jcJ ih ks st s (fun x hx=>hk x (by simp [hx])) hl hd h;refine ⟨fun x hx => ?_,f2,f3⟩;rcases aL.1 hx with rfl | hx
    .exact hd _ h0 h1
    .exact f1 x hx
theorem jcI {N:Nat} (hg : ∀ n, ∀ k∈g.getD n [],k<N) (hM : ∀ n<N,M.getD n []=if tick.getD n false=true then [] else g.getD n []) :
  ∀ (fuel n:Nat) (st s:List Nat),n<N->st.length=N->st.getD n 0=0->Kl M st->ringW tick g fuel n st=some (false,s)->Ends M n/\Kl M s/\OnesIn s st
 | 0,_,_,_,_,_,_,_,h=>by rw [ringW] at h; cases h
 | fuel+1,n,st,s,hn,hl,h0,hd,h=>by
  rw [ringW] at h;have hm:=hM n hn;split at h
  .rename_i ht
   cases h
   rw [if_pos ht] at hm;exact ⟨.mk n (by rw [hm]; simp),hd,fun _ h=>h⟩
  .rename_i ht;rw [if_neg ht] at hm
   cases hL:ringL tick g fuel (g.getD n []) (st.set n 1) with
   | none=>rw [hL] at h; cases h
   | some p =>
    obtain ⟨b,s1⟩:=p;rw [hL] at h
    cases b with
    | true=>cases h
    | false =>
     cases h
     have hd1:Kl M (st.set n 1):=by
      intro k k0 k1
      by_cases e:n=k
      .subst e; rw [Wu (by omega)] at k1; exact absurd rfl k1
      .rw [getD_set_ne e] at k0 k1; exact hd k k0 k1
     obtain ⟨f1,f2,f3⟩:=jcJ (fun n st s=>jcI hg hM fuel n st s) _ _ _ (hg n) (by simp; omega) hd1 hL;have hen:Ends M n := .mk n (by rw [hm]; exact f1);have hl1:s1.length=N:=by
      have:=WH (aax fuel) _ _ _ _ hL;simp at this; omega
     refine ⟨hen, ?_, ?_⟩
     .intro k k0 k1
      by_cases e:n=k
      .subst e; exact hen
      .rw [getD_set_ne e] at k0 k1; exact f2 k k0 k1
     .intro k k1
      by_cases e:n=k
      .subst e; rw [Wu (by omega)] at k1; cases k1
      .rw [getD_set_ne e] at k1;have:=f3 k k1
       rwa [getD_set_ne e] at this
def Under (M:List (List Nat)) (st:List Nat) (n:Nat):Prop := ∀ k,st.getD k 0=1->k=n\/Walk M k n
theorem jav {N fuel n:Nat} (hg : ∀ n, ∀ k∈g.getD n [],k<N) (hM : ∀ n<N,M.getD n []=if tick.getD n false=true then [] else g.getD n [])
  (ih : ∀ n st s,n<N->st.length=N->st.getD n 0=0->Kl M st->(∀ k,st.getD k 0=1->Walk M k n)->ringW tick g fuel n st=some (true,s) -> ∃ i, ¬ Ends M i) :
  ∀ (ks st s:List Nat),(∀ k∈ks,k<N)->(∀ k∈ks,k∈M.getD n [])->st.length=N->Kl M st->Under M st n->ringL tick g fuel ks st=some (true,s) -> ∃ i, ¬ Ends M i
 | [],st,s,_,_,_,_,_,h=>by rw [ringL] at h; cases h
 | k::ks,st,s,hk,hkM,hl,hd,hu,h=>by
  rw [ringL] at h;split at h
  .rename_i h1;refine ⟨k,fun he=>he.no_ring ?_⟩;rcases hu k h1 with rfl | w
   .exact .one (hkM _ (by simp))
   .exact .more w (hkM _ (by simp))
  .split at h
   .rename_i h0
    cases hw:ringW tick g fuel k st with
    | none=>rw [hw] at h; cases h
    | some p =>
     obtain ⟨b,s1⟩:=p;rw [hw] at h
     cases b with
     | true =>
      refine ih k st s1 (hk k (by simp)) hl h0 hd (fun x hx => ?_) hw;rcases hu x hx with rfl | w
      .exact .one (hkM _ (by simp))
      .exact .more w (hkM _ (by simp))
     | false =>
      obtain ⟨e1,e2,e3⟩:=jcI hg hM fuel k st s1 (hk k (by simp)) hl h0 hd hw;have hl1:=aax _ _ _ _ _ hw;exact jav hg hM ih ks s1 s (fun x hx=>hk x (by simp [hx])) (fun x hx=>hkM x (by simp [hx])) (by omega) e2 (fun x hx=>hu x (e3 x hx)) h
   .exact jav hg hM ih ks st s (fun x hx=>hk x (by simp [hx])) (fun x hx=>hkM x (by simp [hx])) hl hd hu h
theorem adq {N:Nat} (hg : ∀ n, ∀ k∈g.getD n [],k<N) (hM : ∀ n<N,M.getD n []=if tick.getD n false=true then [] else g.getD n []) :
  ∀ (fuel n:Nat) (st s:List Nat),n<N->st.length=N->st.getD n 0=0->Kl M st->(∀ k,st.getD k 0=1->Walk M k n)->ringW tick g fuel n st=some (true,s) -> ∃ i, ¬ Ends M i
 | 0,_,_,_,_,_,_,_,_,h=>by rw [ringW] at h; cases h
 | fuel+1,n,st,s,hn,hl,h0,hd,hu,h=>by
  rw [ringW] at h;have hm:=hM n hn;split at h
  .cases h
  .rename_i ht;rw [if_neg ht] at hm
   cases hL:ringL tick g fuel (g.getD n []) (st.set n 1) with
   | none=>rw [hL] at h; cases h
   | some p =>
    obtain ⟨b,s1⟩:=p;rw [hL] at h
    cases b with
    | false=>cases h
    | true =>
     have hd1:Kl M (st.set n 1):=by
      intro k k0 k1
      by_cases e:n=k
      .subst e; rw [Wu (by omega)] at k1; exact absurd rfl k1
      .rw [getD_set_ne e] at k0 k1; exact hd k k0 k1
     refine jav (n:=n) hg hM (fun n st s=>adq hg hM fuel n st s) _ _ _ (hg n) (by rw [hm]; exact fun k h=>h) (by simp; omega) hd1 (fun k hk => ?_) hL
     by_cases e:n=k
     .exact .inl e.symm
     .rw [getD_set_ne e] at hk; exact .inr (hu k hk)
theorem Wm {N fuel:Nat} (hg : ∀ n, ∀ k∈g.getD n [],k<N) (hM : ∀ n<N,M.getD n []=if tick.getD n false=true then [] else g.getD n []) :
  ∀ (ns st:List Nat) (r:Bool),(∀ n∈ns,n<N)->st.length=N->Kl M st->(∀ k,st.getD k 0≠1)->ringM tick g fuel ns st=some r->(r=false -> ∀ n∈ns,Ends M n)/\(r=true -> ∃ i, ¬ Ends M i)
 | [],st,r,_,_,_,_,h=>by simp only [ringM,ay] at h; subst h; exact ⟨by simp,by simp⟩
 | n::ns,st,r,hn,hl,hd,h1,h=>by
  simp only [ringM] at h;split at h
  .rename_i h0
   cases hw:ringW tick g fuel n st with
   | none=>rw [hw] at h; cases h
   | some p =>
    obtain ⟨b,s⟩:=p;rw [hw] at h
    cases b with
    | true =>
     cases h
     exact ⟨by simp,fun _=>adq hg hM fuel n st s (hn n (by simp)) hl h0 hd (fun k hk=>absurd hk (h1 k)) hw⟩
    | false =>
     obtain ⟨e1,e2,e3⟩:=jcI hg hM fuel n st s (hn n (by simp)) hl h0 hd hw;have hl1:=aax _ _ _ _ _ hw;obtain ⟨f1,f2⟩:=Wm hg hM ns s r (fun x hx=>hn x (by simp [hx])) (by omega) e2 (fun k hk=>h1 k (e3 k hk)) h;refine ⟨fun hr x hx => ?_,f2⟩;rcases aL.1 hx with rfl | hx
     .exact e1
     .exact f1 hr x hx
  .rename_i h0;obtain ⟨f1,f2⟩:=Wm hg hM ns st r (fun x hx=>hn x (by simp [hx])) hl hd h1 h;refine ⟨fun hr x hx => ?_,f2⟩;rcases aL.1 hx with rfl | hx
   .exact hd _ h0 (h1 _)
   .exact f1 hr x hx
end
open Classical in
/-- The walk in depth finds a circle just if not all numbers end. -/
theorem jbO {bs:List Block} {G:List (List Nat)} (hl:G.length=bs.length) (hr : ∀ r∈G, ∀ k∈r,k<G.length):rings bs G=circ (msk bs G):=by
 have hg : ∀ n, ∀ k∈G.getD n [],k<G.length:=by
  intro n k hk
  by_cases h:n<G.length
  .simp only [ag,ac h,aR] at hk;exact hr _ (ah h) k hk
  .simp only [ag,aJ (Nat.le_of_not_lt h),Option.getD_none] at hk
   cases hk
 have hM : ∀ n<G.length,(msk bs G).getD n []=if (bs.map tickB).getD n false=true then [] else G.getD n []:=by
  intro n h;have hb:n<bs.length:=by omega
  simp [msk,List.getElem?_zipWith,h,hb]
 have hml:(msk bs G).length=G.length:=by rw [acd hl,hl]
 obtain ⟨r,h⟩:=abc (tick:=bs.map tickB) (fuel:=G.length+1) hg (by omega) (List.range G.length) (List.replicate G.length 0) (fun n hn=>List.mem_range.1 hn) (by simp);have hz : ∀ k,(List.replicate G.length 0).getD k 0=0:=by intro k; simp [List.getElem?_replicate]; split<;>rfl
 obtain ⟨h1,h2⟩:=Wm (M:=msk bs G) hg hM (List.range G.length) (List.replicate G.length 0) r (fun n hn=>List.mem_range.1 hn) (by simp) (fun k h0=>absurd (hz k) h0) (fun k=>by rw [hz]; decide) h;rw [rings,h,aR,circ,hml]
 cases r with
 | false =>
  refine (bw ?_).symm;exact fun hn=>hn fun i hi=>h1 rfl i (List.mem_range.2 hi)
 | true =>
  refine (bv ?_).symm;intro ha;obtain ⟨i,hi⟩:=h2 rfl
  by_cases h3:i<G.length
  .exact hi (ha i h3)
  .refine hi (.mk i ?_);simp only [ag,aJ (show (msk bs G).length<=i by omega),Option.getD_none];simp
theorem ajy {n:Nat} {l:List Nat} (hn:l.Nodup) (hb : ∀ x∈l,x<n):l.length=n ↔ ∀ x<n,x∈l:=by
 constructor
 .intro h x hx;refine Classical.byContradiction fun hc => ?_
  have h1:(x::l).Nodup:=List.nodup_cons.2 ⟨hc,hn⟩;have h2:x::l ⊆ List.range n:=fun y hy=>by
   rcases aL.1 hy with rfl | hy
   .exact List.mem_range.2 hx
   .exact List.mem_range.2 (hb y hy)
  have:=h1.length_le_of_subset h2;simp at this; omega
 .intro h;have h1:l.length<=n:=by
   have:=hn.length_le_of_subset (l₂:=List.range n) fun y hy=>List.mem_range.2 (hb y hy)
   simpa using this
  have h2:n<=l.length:=by
   have:=(List.nodup_range (n:=n)).length_le_of_subset (l₂:=l) fun y hy=>h y (List.mem_range.1 hy)
   simpa using this
  omega
open Go.Vw in
theorem ao4 {g:List (List Nat)} (hg:G.Ok g):decide ((G.order g).length=g.length)=(G.without g none).all id:=by
 have ho:=G.aah hg;have hl:=G.aaz hg none;rw [Bool.eq_iff_iff,aj,ajy ho.nd ho.lt,aD];constructor
 .intro h x hx;obtain ⟨i,hi,rfl⟩:=List.mem_iff_getElem.1 hx;have:=(G.aak hg i).2 (h i (by omega));simpa [G.Met,hi] using this
 .intro h i hi;refine (G.aak hg i).1 ?_;have hi':i<(G.without g none).length:=by omega
  have:=h _ (ah hi');simpa [G.Met,hi'] using this
theorem jbf {e:Env} {f:Fn} {ds:List Def} {near:List Int} {i:Int} (hk : ∀ t∈f.types,isKind t=true) : ∀ (l:List Ins) (k:Nat),(∀ x∈l,x.Fits/\InTs f.types.length x.outs)->rcheckCode e f ds near i k l=cx e f ds near i k l
 | [],k,_=>rfl
 | x::l,k,h=>by
  rw [rcheckCode,cx,ak6 (h x (by simp)).1 hk (h x (by simp)).2,jbf hk l (k+1) fun y hy=>h y (by simp [hy])]
theorem Zz {e:Env} {f:Fn} {ds:List Def} {near:List Int} (hk : ∀ t∈f.types,isKind t=true) : ∀ (l:List Block) (i:Nat),(∀ b∈l,(∀ x∈b.code,x.Fits/\InTs f.types.length x.outs) /\ ∀ x∈b.term.to,0<=x.to)->rcheckBlocks e f ds near i l=cH e f ds near i l
 | [],i,_=>rfl
 | b::l,i,h=>by
  rw [rcheckBlocks,cH,Zz hk l (i+1) fun y hy=>h y (by simp [hy]),rcheckBlock,jbf hk _ _ (h b (by simp)).1,aie (h b (by simp)).2,Bool.and_assoc]
theorem afl {e:Env} {f:Fn} (hf:f.Fits):rcheck e f=check e f:=by
 unfold rcheck check
 cases hh:checkHead e f with
 | false=>simp
 | true =>
 simp only [aE]
 cases hd:defsOf f with
 | none=>simp
 | some ds =>
 simp only;have hkt : ∀ t∈f.types,isKind t=true:=by
  simp only [checkHead,kinds,af,aD] at hh;exact hh.1.1.2.2
 cases hr:Go.Vw.G.right (succs f.blocks) with
 | false=>simp [shapeOk,hr]
 | true =>
 have hok:=Go.Vw.G.aag hr;have hpos:1<=f.blocks.length:=by
  simp only [Go.Vw.G.right,af,aj] at hr;simpa [succs] using hr.1.1
 have hto:=right_to hr;have hin:=(defs_in hd).2;have hgl:(Go.Vw.G.nats (succs f.blocks)).length=f.blocks.length:=by simp [Go.Vw.G.nats,succs]
 rw [bv hpos,Zz hkt f.blocks 0 fun b hb=>⟨fun x hx=>⟨(hf.2.2.2 b hb).2.1.2 x hx,(hin b hb).2 x hx⟩,fun x hx=>(hto b hb x hx).1⟩];rw [<-ao4 hok,hgl];have hrc:=jbO (bs:=f.blocks) hgl (fun r hr k hk=>hok.elt r hr k hk);have hsh:shapeOk f=(Go.Vw.G.right (succs f.blocks)&&decide ((Go.Vw.G.ordI (succs f.blocks)).length=f.blocks.length) && !rings f.blocks (Go.Vw.G.nats (succs f.blocks))&&decide (cv f.types (f.blocks.getD 0 default).params=f.sig.inn)&&firstTick (f.blocks.getD 0 default).code):=by
  unfold shapeOk
  cases (f.blocks.getD 0 default).code<;>rfl
 rw [hsh];simp only [rshape,hr,Go.Vw.G.ordI,if_true,hrc,aE];generalize cH e f ds _ 0 f.blocks=A;generalize decide (cv f.types (f.blocks.getD 0 default).params=f.sig.inn)=B;generalize circ _=C;generalize decide (_=f.blocks.length)=D;generalize firstTick (f.blocks.getD 0 default).code=E;revert A B C D E; decide
end Ss
namespace Ss
open Classical
noncomputable def jaC (M:List (List Nat)) (i:Nat):Nat:=((List.range M.length).filter fun j=>decide (Walk M i j)).length
theorem jaZ {p q:Nat->Bool} {k:Nat} : ∀ {l:List Nat},(∀ x∈l,p x=true->q x=true)->k∈l->p k=false->q k=true->(l.filter p).length<(l.filter q).length
 | [],_,h,_,_=>by cases h
 | x::l,h,hk,h1,h2=>by
  have hle:(l.filter p).length<=(l.filter q).length:=by
   clear hk
   induction l with
   | nil=>simp
   | cons y l ih =>
    have h3 : ∀ x∈l,p x=true->q x=true:=fun z hz=>h z (by simp [hz])
    have:=ih fun z hz=>by
     rcases aL.1 hz with rfl | hz
     .exact h z (by simp)
     .exact h3 z hz
    have hy:=h y (by simp);simp only [List.filter_cons];split<;>split<;>simp_all<;>omega
  rcases aL.1 hk with rfl | hk
  .simp only [List.filter_cons,h1,h2,aF,if_false,if_true,aC]; omega
  .have:=jaZ (l:=l) (fun z hz=>h z (by simp [hz])) hk h1 h2;have hy:=h x (by simp);simp only [List.filter_cons];split<;>split<;>simp_all<;>omega
theorem ajg {M:List (List Nat)} {i j:Nat} (h:Walk M i j):i<M.length:=by
 obtain ⟨b,hb,_⟩:=h.first;refine Nat.lt_of_not_le fun hl => ?_
 simp only [ag,aJ hl,Option.getD_none] at hb
 cases hb
theorem ap7 {M:List (List Nat)} (hin : ∀ r∈M, ∀ k∈r,k<M.length) (he : ∀ i<M.length,Ends M i) {i k:Nat} (hk:k∈M.getD i []):jaC M k<jaC M i:=by
 have hi:i<M.length:=ajg (.one hk);have hkl:k<M.length:=by
  simp only [ag,ac hi,aR] at hk;exact hin _ (ah hi) k hk
 refine jaZ (k:=k) (fun j _ h => ?_) (List.mem_range.2 hkl) (bw ((he k hkl).no_ring)) (bv (.one hk));exact bv ((aP h).cons hk)
theorem amz {M:List (List Nat)} (he : ∀ i<M.length,Ends M i) {i:Nat} (h0:0<M.length):jaC M i<M.length:=by
 by_cases hi:i<M.length
 .have h1:((List.range M.length).filter fun _=>true).length=M.length:=by rw [List.filter_eq_self.2 (fun _ _=>rfl),List.length_range]
  unfold jaC;refine Nat.lt_of_lt_of_eq (jaZ (q:=fun _=>true) (k:=i) (fun _ _ _=>rfl) (List.mem_range.2 hi) (bw ((he i hi).no_ring)) rfl) h1
 .have h1:jaC M i=0:=by
   unfold jaC;rw [List.length_eq_zero_iff,List.filter_eq_nil_iff];intro j _ h;exact hi (ajg (aP h))
  omega
theorem ajh {e:Env} {f:Fn} (h:check e f=true) : ∃ rk:Nat->Nat,(∀ i,rk i<256) /\ ∀ i b,f.blocks[i]? = some b->tickB b=false -> ∀ x∈b.term.to,rk x.to.toNat<rk i:=by
 obtain ⟨h1,ds,h2,h3,h4⟩:=aae h;simp only [shapeOk,af,Bool.not_eq_true'] at h3;obtain ⟨⟨⟨⟨hr,h5⟩,h6⟩,h7⟩,h8⟩:=h3;have hok:=Go.Vw.G.aag hr;have hgl:(Go.Vw.G.nats (succs f.blocks)).length=f.blocks.length:=by simp [Go.Vw.G.nats,succs]
 rw [jbO (bs:=f.blocks) hgl (fun r hr k hk=>hok.elt r hr k hk)] at h6;have hml:=acd (bs:=f.blocks) hgl;have he : ∀ i<(msk f.blocks (Go.Vw.G.nats (succs f.blocks))).length,Ends (msk f.blocks (Go.Vw.G.nats (succs f.blocks))) i:=by
  have:=of_decide_eq_false h6;exact Classical.byContradiction this
 have hin : ∀ r∈msk f.blocks (Go.Vw.G.nats (succs f.blocks)), ∀ k∈r,k<(msk f.blocks (Go.Vw.G.nats (succs f.blocks))).length:=by
  intro r hr k hk;rw [hml, <-hgl];obtain ⟨i,hi,rfl⟩:=a7 hr;simp only [msk,List.getElem_zipWith] at hk;split at hk
  .cases hk
  .exact hok.elt _ (ah _) k hk
 have hb:0<f.blocks.length/\f.blocks.length<=256:=by
  simp only [Go.Vw.G.right,af,aj,succs,aI] at hr;omega
 refine ⟨jaC (msk f.blocks (Go.Vw.G.nats (succs f.blocks))),fun i => ?_,fun i b hb ht x hx=>ap7 hin he ?_⟩
 .have:=amz he (i:=i) (by omega);omega
 .have:(msk f.blocks (Go.Vw.G.nats (succs f.blocks)))[i]? = some ((rowOf b).map Int.toNat):=by
   simp [msk,List.getElem?_zipWith,Go.Vw.G.nats,succs,hb,ht]
  rw [ag,this,aR];exact bi.2 ⟨x.to,bi.2 ⟨x,hx,rfl⟩,rfl⟩
end Ss
namespace Ev
def pot (s:State):Nat:=s.log.length+10000000*s.fuel.toNat
structure Good (e:Ss.Env) (s:State):Prop where
 fit:StFits s
 fuel:0<=s.fuel/\s.fuel<=1024
 glob:s.globals.length=e.globals.length
structure EndOk (e:Ss.Env) (s:State) (k add sl:Nat) (r:Res):Prop where
 good:Good e r.2.1
 fuel:r.2.1.fuel<=s.fuel
 out:r.2.2=0->k<=r.1.length/\(∀ x∈r.1,U64 x)/\pot r.2.1<=pot s+add
 any:pot r.2.1<=pot s+sl
def CallEx (e:Ss.Env) (call:Int->List Int->State->Option Res) (sl:Nat):Prop :=
 ∀ (n:Int) (args:List Int) (s:State) (t:Ss.Sig),0<=n->e.sigs[n.toNat]? = some t->args.length=t.inn.length->(∀ x∈args,U64 x)->Good e s->pot s+9+sl<=17592186040000 ->
  ∃ r,call n args s=some r/\EndOk e s t.out.length 9 (9+sl) r
theorem aaq:U64 0:=⟨by decide,by decide⟩
theorem aam (v l:List Int):(valsI v l).length=l.length:=by simp [valsI]
theorem aaf {v:List Int} (h : ∀ x∈v,U64 x) (l:List Int) : ∀ x∈valsI v l,U64 x:=by
 intro x hx;obtain ⟨i,_,rfl⟩:=bi.1 hx
 by_cases h1:i.toNat<v.length
 .simp only [ag,ac h1,aR];exact h _ (ah h1)
 .simp only [ag,aJ (Nat.le_of_not_lt h1),Option.getD_none];exact aaq
theorem KN : ∀ (v is xs:List Int),(cE v is xs).length=v.length
 | v,[],_=>rfl
 | v,_::_,[]=>rfl
 | v,i::is,x::xs=>by rw [cE,KN]; simp
theorem aav : ∀ (v is xs:List Int),(∀ x∈v,U64 x)->(∀ x∈xs,U64 x) -> ∀ x∈cE v is xs,U64 x
 | v,[],_,h,_=>h
 | v,_::_,[],h,_=>h
 | v,i::is,x::xs,h,k=>by
  rw [cE];refine aav _ _ _ (fun y hy => ?_) fun y hy=>k y (by simp [hy])
  rcases List.mem_or_eq_of_mem_set hy with h1 | rfl
  .exact h y h1
  .exact k y (by simp)
theorem ZW : ∀ (outs inp:List Int),(∀ x∈inp,U64 x)->((hostL outs inp).2.2=0->(hostL outs inp).1.length=outs.length)/\(∀ x∈(hostL outs inp).1,U64 x)/\(hostL outs inp).2.1.length<=inp.length /\ ∀ x∈(hostL outs inp).2.1,U64 x
 | [],inp,h=>⟨fun _=>rfl,by simp [hostL],by simp [hostL],h⟩
 | _::_,[],h=>⟨fun h=>absurd h (show ¬ (39:Int)=0 by decide),by simp [hostL],by simp [hostL],by simp [hostL]⟩
 | t::ts,x::inp,h=>by
  obtain ⟨h1,h2,h3,h4⟩:=ZW ts inp fun y hy=>h y (by simp [hy])
  simp only [hostL];split
  .rename_i hz;refine ⟨fun _=>by simp [h1 hz],fun y hy => ?_,by simp; omega,h4⟩;rcases aL.1 hy with rfl | hy
   .split
    .exact Go.Vw.aaa _
    .exact h x (by simp)
   .exact h2 y hy
  .rename_i hz;exact ⟨fun h=>absurd h hz,by simp,by simp; omega,h4⟩
theorem au4 {e:Ss.Env} {s:State} {n:Int} {outs args:List Int} (hg:Good e s) (hn:0<=n/\n<18446744073709551616) (ha : ∀ x∈args,U64 x) (hl:args.length<=8) (hp:pot s+9<=17592186040000) :
  ∃ r,hostF s n outs args=some r/\EndOk e s outs.length 9 9 r:=by
 obtain ⟨h1,h2,h3,h4⟩:=ZW outs s.input hg.fit.input.2;have hpl:s.log.length<=pot s:=by simp only [pot]; omega
 have hin:=hg.fit.input.1;refine ⟨_,by rw [hostF,if_pos (by omega)],⟨⟨hg.fit.mem,hg.fit.most,hg.fit.globals,hg.fit.fuel,⟨by simp only; omega,h4⟩,⟨?_,fun x hx => ?_⟩⟩,hg.fuel,hg.glob⟩,Int.le_refl _,fun hz=>⟨Nat.le_of_eq (h1 hz).symm,h2, ?_⟩, ?_⟩
 .simp; omega
 .rcases aG.1 hx with hx | hx
  .exact hg.fit.log.2 x hx
  .rcases aL.1 hx with rfl | hx
   .exact hn
   .exact ha x hx
 .simp [pot]; omega
 .simp [pot]; omega
theorem YJ {op:Int} (h:(Ss.cB op).2.2=true):69<=op/\op<=250:=by
 simp only [Ss.cB] at h;split at h
 .rename_i g hg;obtain ⟨h1,h2⟩:=Ss.abz hg;have h3 : ∀ g∈Ss.groups,69<=g.first/\g.first+g.many<=250:=by decide
  have:=h3 g h1;simp only [Ss.Grp.has,af,aj] at h2;omega
 .cases h
theorem jcc {α:Type} {n:Int} : ∀ {l:List (Int × α)},(∀ p∈l,p.1≠n)->Ss.findK n l=none
 | [],_=>rfl
 | (k,v)::r,h=>by
  rw [Ss.findK,if_neg (fun e=>h (k,v) (by simp) e.symm)];exact jcc fun p hp=>h p (by simp [hp])
theorem zP {op:Int} (h:63<=op):Ss.accOf op=none:=by
 refine jcc fun p hp e => ?_
 have : ∀ p∈Ss.accL,p.1<=62:=by decide
 have:=this p hp;omega
theorem list1 {l:List Int} (h:l.length=1) : ∃ a,l=[a]:=List.length_eq_one_iff.1 h
theorem list2 {l:List Int} (h:l.length=2) : ∃ a b,l=[a,b]:=by
 match l,h with
 | [a,b],_=>exact ⟨a,b,rfl⟩
theorem list3 {l:List Int} (h:l.length=3) : ∃ a b c,l=[a,b,c]:=by
 match l,h with
 | [a,b,c],_=>exact ⟨a,b,c,rfl⟩
theorem Jf {e:Ss.Env} {s:State} {out:List Int} {k sl:Nat} {er:Int} (hg:Good e s) (hu : ∀ x∈out,U64 x) (hk:k<=out.length):EndOk e s k 9 (9+sl) (out,s,er) :=
 ⟨hg,Int.le_refl _,fun _=>⟨hk,hu,by simp only; omega⟩,by simp only; omega⟩
theorem aj8 {e:Ss.Env} {s:State} {out m:List Int} {k sl:Nat} {er:Int} (hg:Good e s) (hm:Go.Vw.byteL m) (hu : ∀ x∈out,U64 x) (hk:k<=out.length):EndOk e s k 9 (9+sl) (out,{ s with mem:=m },er) :=
 ⟨⟨⟨hm,hg.fit.most,hg.fit.globals,hg.fit.fuel,hg.fit.input,hg.fit.log⟩,hg.fuel,hg.glob⟩,Int.le_refl _,fun _=>⟨hk,hu,by simp only [pot]; omega⟩,by simp only [pot]; omega⟩
theorem zm {y:Int} (h:U64 y) : ∀ x∈[y],U64 x:=fun x hx=>by
 rcases aL.1 hx with rfl | hx
 .exact h
 .cases hx
theorem YV (e:Ss.Env) (op:Int):Ss.formNum e op=if (Ss.cB op).2.2=true then ⟨(Ss.cB op).1,[(Ss.cB op).2.1],0,true⟩ else if e.mem then Ss.formMem op else ⟨[],[],0,false⟩:=by
 unfold Ss.formNum;rcases hh:Ss.cB op with ⟨l,t,b⟩
 cases b<;>simp
theorem YK (op:Int):(Ss.cB op).1.length<=2:=by
 unfold Ss.cB;split
 .simp only [Ss.Grp.ins]; split<;>simp
 .simp
theorem ax2 {O:Ops} (hO:OpsOk O) {e:Ss.Env} {f:Ss.Fn} {ds:List Ss.Def} {near:List Int} {i k:Int} {x:Ss.Ins} {v:List Int} {s:State} {call:Int->List Int->State->Option Res} {sl:Nat} (hc:CallEx e call sl) (hi:Ss.insOk e f ds near i k x=true) (hx:x.Fits)
  (he:e.right=true) (hg:Good e s) (hv : ∀ y∈v,U64 y) (hp:pot s+9+sl<=17592186040000) :
  ∃ r,oneF O call x (valsI v x.args) s=some r/\EndOk e s x.outs.length 9 (9+sl) r/\(x.op=258->r.2.2=0->pot r.2.1+10000000<=pot s/\r.2.1.fuel<s.fuel):=by
 have hu:=aaf hv x.args;have hl:=aam v x.args;have hxn:=hx.2.1;simp only [Ss.insOk,af,aj] at hi;obtain ⟨⟨⟨i1,i2⟩,i3⟩,i4⟩:=hi;have ho:x.outs.length=(Ss.form e x.op x.n (Ss.insOut f.types x)).outs.length:=by rw [<-i3]; simp [Ss.cv]
 have ha:(valsI v x.args).length=(Ss.form e x.op x.n (Ss.insOut f.types x)).inn.length:=by
  rw [hl];refine Classical.byContradiction fun hne => ?_
  rw [Ss.asks,Go.Vw.eqF_len hne] at i4
  cases i4
 clear i3 i4 hl;generalize valsI v x.args=a at *
 obtain ⟨op,n,xa,xo⟩:=x;simp only at hxn ho ha i1 i2 hu ⊢;generalize Ss.insOut f.types ⟨op,n,xa,xo⟩=out at *
 by_cases c1:op=256
 .subst c1;refine ⟨_,by unfold oneF; exact if_pos rfl,Jf hg (zm hxn) ?_,fun h=>by cases h⟩;rw [ho,Ss.form,if_pos rfl]; split<;>exact a9 _
 simp only [Ss.form,if_neg c1] at i1 i2 ho ha
 by_cases c2:op=258
 .subst c2;simp only [if_true] at ho ha i2;rw [ho];obtain ⟨g0,g1⟩:=hg.fuel;simp only [oneF,if_neg c1,if_true]
  by_cases f0:s.fuel=0
  .rw [if_pos f0];exact ⟨_,rfl,Jf hg (by simp) (Nat.zero_le _),fun _ h=>by cases h⟩
  .rw [if_neg f0];obtain ⟨w,hw⟩ : ∃ w:Nat,s.fuel=(w:Int)+1:=⟨(s.fuel-1).toNat,by omega⟩
   refine ⟨_,rfl,⟨⟨⟨hg.fit.mem,hg.fit.most,hg.fit.globals, ?_,hg.fit.input,hg.fit.log⟩, ?_,hg.glob⟩, ?_,fun _=>⟨Nat.zero_le _,zm aaq, ?_⟩, ?_⟩,fun _ _=>⟨?_, ?_⟩⟩
   .simp only; omega
   .simp only; omega
   .simp only; omega
   all_goals simp only [pot,hw]; omega
 simp only [if_neg c2] at i1 i2 ho ha;have e2:op=258 -> ∀ {p:Prop},p:=fun h=>absurd h c2
 by_cases c3:op=27
 .simp only [if_pos c3] at ho ha;obtain ⟨p,q,r,rfl⟩:=list3 ha;simp only [oneF,if_neg c1,if_neg c2,if_pos c3];refine ⟨_,rfl,Jf hg (zm ?_) (Nat.le_of_eq ho),fun h=>e2 h⟩;split
  .exact hu _ (by simp)
  .exact hu _ (by simp)
 simp only [if_neg c3] at i1 i2 ho ha
 by_cases c6:op=16
 .have c4 : ¬ op=35:=by omega
  have c5 : ¬ op=36:=by omega
  simp only [if_pos c6] at ho ha i1;split at i1
  .rename_i hn;rw [if_pos hn] at ho ha;simp only at ho ha;have hn2:n.toNat<e.sigs.length:=by omega
   have hd:e.sigs.getD n.toNat default=e.sigs[n.toNat]:=by simp [ag,ac hn2]
   rw [hd] at ho ha;obtain ⟨r,h1,h2⟩:=hc n a s _ hxn.1 (ac hn2) ha hu hg hp;refine ⟨r, ?_,⟨h2.good,h2.fuel,fun hz => ?_,h2.any⟩,fun h=>e2 h⟩
   .simp only [oneF,if_neg c1,if_neg c2,if_neg c3,if_neg c4,if_neg c5,if_pos c6]; exact h1
   .rw [ho]; exact h2.out hz
  .cases i1
 simp only [if_neg c6] at i1 i2 ho ha
 by_cases c4:op=35
 .simp only [if_pos (Or.inl c4:op=35\/op=36),Ss.formGlob] at i1 i2 ho ha;split at i1
  .rename_i hn;simp only [if_pos hn,if_pos c4] at ho ha;have hn2:n.toNat<s.globals.length:=by rw [hg.glob]; omega
   simp only [oneF,if_neg c1,if_neg c2,if_neg c3,if_pos c4,ac hn2];exact ⟨_,rfl,Jf hg (zm (hg.fit.globals.2 _ (ah hn2))) (Nat.le_of_eq ho),fun h=>e2 h⟩
  .cases i1
 by_cases c5:op=36
 .simp only [if_pos (Or.inr c5:op=35\/op=36),Ss.formGlob,if_neg c4] at i1 i2 ho ha;split at i1
  .rename_i hn;rw [if_pos hn] at ho ha;have hn2:n.toNat<s.globals.length:=by rw [hg.glob]; omega
   obtain ⟨p,rfl⟩:=list1 ha;simp only [oneF,if_neg c1,if_neg c2,if_neg c3,if_neg c4,if_pos c5,if_pos hn2];refine ⟨_,rfl,⟨⟨⟨hg.fit.mem,hg.fit.most,⟨by simpa using hg.fit.globals.1,fun y hy => ?_⟩,hg.fit.fuel,hg.fit.input,hg.fit.log⟩,hg.fuel,by simpa using hg.glob⟩,Int.le_refl _,fun _=>⟨by rw [ho]; exact Nat.zero_le _,zm aaq, ?_⟩, ?_⟩,fun h=>e2 h⟩
   .rcases List.mem_or_eq_of_mem_set hy with h1 | rfl
    .exact hg.fit.globals.2 _ h1
    .exact hu _ (by simp)
   all_goals simp only [pot]; omega
  .cases i1
 have c45 : ¬ (op=35\/op=36):=by omega
 simp only [if_neg c45,YV] at i1 i2 ho ha;simp only [oneF,if_neg c1,if_neg c2,if_neg c3,if_neg c4,if_neg c5,if_neg c6]
 cases hns:(Ss.cB op).2.2 with
 | true =>
  have hop:=YJ hns;simp only [hns,if_true] at ho ha;have c7 : ¬ op=257:=by omega
  have c8 : ¬ op=63:=by omega
  have c9 : ¬ op=64:=by omega
  simp only [if_neg c7,if_neg c8,if_neg c9,zP (op:=op) (by omega)];have:=YK op;exact ⟨_,rfl,Jf hg (zm (hO.eval op a hu (by omega))) (Nat.le_of_eq ho),fun h=>e2 h⟩
 | false =>
  simp only [hns,aF,if_false] at i1 i2 ho ha
  cases hm:e.mem with
  | false=>rw [hm] at i1; cases i1
  | true =>
  simp only [hm,if_true,Ss.formMem] at i1 i2 ho ha;have hmB:=hg.fit.mem
  by_cases c7:op=257
  .simp only [if_pos c7] at ho ha;obtain ⟨p,rfl⟩:=list1 ha;simp only [if_pos c7];exact ⟨_,rfl,Jf hg (zm aaq) (by rw [ho]; exact Nat.zero_le _),fun h=>e2 h⟩
  simp only [if_neg c7] at i1 i2 ho ha ⊢
  by_cases c8:op=63
  .simp only [if_pos c8] at ho ha;simp only [zP (op:=op) (by omega),if_pos c8];refine ⟨_,rfl,Jf hg (zm ⟨?_, ?_⟩) (Nat.le_of_eq ho),fun h=>e2 h⟩
   .exact Int.tdiv_nonneg (by omega) (by omega)
   .have:=hmB.1;rw [Int.tdiv_eq_ediv_of_nonneg (by omega)];omega
  simp only [if_neg c8] at i1 i2 ho ha ⊢
  by_cases c9:op=64
  .simp only [if_pos c9] at ho ha;obtain ⟨p,rfl⟩:=list1 ha;simp only [zP (op:=op) (by omega),if_pos c9];obtain ⟨g1,g2,g3,g4⟩:=hO.grow s.mem s.most p hmB hg.fit.most.1 hg.fit.most.2 (hu p (by simp));exact ⟨_,rfl,aj8 hg g1 (zm ⟨g3,by omega⟩) (Nat.le_of_eq ho),fun h=>e2 h⟩
  simp only [if_neg c9] at i1 i2 ho ha
  cases hao:Ss.accOf op with
  | none=>rw [hao] at i1; cases i1
  | some c =>
   simp only [hao] at i1 i2 ho ha ⊢
   by_cases hst:c.store=true
   .simp only [if_pos hst] at ho ha ⊢;obtain ⟨p,q,rfl⟩:=list2 ha;obtain ⟨g1,g2⟩:=hO.store s.mem op p n q hmB (hu p (by simp)) hxn (hu q (by simp));simp only
    by_cases hz:(O.store s.mem op p n q).2=0
    .rw [if_pos hz,if_pos hz];exact ⟨_,rfl,aj8 hg g1 (zm aaq) (by rw [ho]; exact Nat.zero_le _),fun h=>e2 h⟩
    .rw [if_neg hz,if_neg hz];exact ⟨_,rfl,Jf hg (zm aaq) (by rw [ho]; exact Nat.zero_le _),fun h=>e2 h⟩
   .simp only [if_neg hst] at ho ha ⊢;obtain ⟨p,rfl⟩:=list1 ha;exact ⟨_,rfl,Jf hg (zm (hO.load s.mem op p n hmB (hu p (by simp)) hxn).1) (Nat.le_of_eq ho),fun h=>e2 h⟩
theorem KA {n:Nat} {l:List Int} (h:Ss.InTs n l):inR n l=true:=by
 simp only [inR,aD,af,aj];exact h
theorem asks_in {ts:List Int} {ds:List Ss.Def} {near:List Int} {block pos:Int} {l types:List Int} (h:Ss.asks ts ds near block pos l types=true):Ss.InTs ds.length l:=fun v hv=>by
 obtain ⟨t,ht⟩:=Ss.abd h v hv;simp only [Ss.askOk,af,aj] at ht;exact ht.1.1.1
theorem ahn {ts:List Int} {ds:List Ss.Def} {near:List Int} {block pos:Int} {l types:List Int} (h:Ss.asks ts ds near block pos l types=true):l.length=types.length:=by
 refine Classical.byContradiction fun hne => ?_
 rw [Ss.asks,Go.Vw.eqF_len hne] at h
 cases h
def ticks (l:List Ss.Ins):Nat:=if (l.any fun x=>decide (x.op=258))=true then 10000000 else 0
theorem aja {O:Ops} (hO:OpsOk O) {e:Ss.Env} {f:Ss.Fn} {ds:List Ss.Def} {near:List Int} {i:Int} {call:Int->List Int->State->Option Res} {sl:Nat} (hc:CallEx e call sl) (he:e.right=true) (hds:ds.length=f.types.length) :
  ∀ (l:List Ss.Ins) (k:Nat) (v:List Int) (s:State),Ss.cx e f ds near i k l=true->(∀ x∈l,x.Fits/\Ss.InTs f.types.length x.outs)->v.length=f.types.length->(∀ y∈v,U64 y)->Good e s->pot s+9*l.length+sl<=17592186040000 ->
   ∃ v' s' er,codeF O call l v s=some (v',s',er)/\Good e s'/\s'.fuel<=s.fuel/\pot s'<=pot s+9*l.length+sl/\(er=0->v'.length=f.types.length/\(∀ y∈v',U64 y)/\pot s'+ticks l<=pot s+9*l.length/\((l.any fun x=>decide (x.op=258))=true->s'.fuel<s.fuel))
 | [],k,v,s,_,_,hl,hv,hg,_=>⟨v,s,0,rfl,hg,Int.le_refl _,by omega,fun _=>⟨hl,hv,by simp [ticks],by simp⟩⟩
 | x::r,k,v,s,hk,hf,hl,hv,hg,hp=>by
  simp only [Ss.cx,af] at hk;obtain ⟨hk1,hk2⟩:=hk;obtain ⟨x1,x2⟩:=hf x (by simp);simp only [aC] at hp;obtain ⟨r1,h1,h2,h3⟩:=ax2 hO hc hk1 x1 he hg hv (by omega);obtain ⟨out,s',er⟩:=r1;have hin:inR v.length x.args=true:=by
   rw [hl, <-hds];simp only [Ss.insOk,af] at hk1;exact KA (asks_in hk1.2)
  have hino:inR v.length x.outs=true:=by rw [hl]; exact KA x2
  have hany:=h2.any;have hfu:=h2.fuel;have hgo:=h2.good;simp only at hany hfu hgo
  by_cases h0:er=0
  .obtain ⟨o1,o2,o3⟩:=h2.out h0;simp only at o1 o2 o3;obtain ⟨v2,s2,e2,k1,k2,k3,k4,k5⟩:=aja hO hc he hds r (k+1) (cE v x.outs out) s' hk2 (fun y hy=>hf y (by simp [hy])) (by rw [KN,hl]) (aav _ _ _ hv o2) hgo (by omega);refine ⟨v2,s2,e2, ?_,k2,by omega, ?_,fun hz => ?_⟩
   .rw [codeF,if_pos hin,h1];simp only;rw [if_neg (not_not_intro h0),if_pos ⟨hino,o1⟩,k1]
   .simp only [aC]; omega
   .obtain ⟨q1,q2,q3,q4⟩:=k5 hz;refine ⟨q1,q2, ?_,fun ht => ?_⟩
    rotate_left
    .simp only [List.any_cons,bk,aj] at ht;rcases ht with ht | ht
     .have:=(h3 ht h0).2;simp only at this;omega
     .have:=q4 ht;omega
    have ht:ticks (x::r)<=(if x.op=258 then 10000000 else 0)+ticks r:=by
     simp only [ticks,List.any_cons,bk,aj];split<;>split<;>split<;>simp_all
    simp only [aC]
    by_cases ho:x.op=258
    .have:=(h3 ho h0).1;rw [if_pos ho] at ht;simp only at this;omega
    .rw [if_neg ho] at ht;omega
  .refine ⟨[],s',er, ?_,hgo,hfu, ?_,fun hz=>absurd hz h0⟩
   .rw [codeF,if_pos hin,h1];simp only;rw [if_pos h0]
   .simp only [aC]; omega
structure RightP (P:Prog):Prop where
 env:P.env.right=true
 len:(P.fns.length:Int)=P.env.sigs.length-P.env.imports
 fns : ∀ (i:Nat) (f:Ss.Fn),P.fns[i]? = some f->f.Fits/\Ss.check P.env f=true/\P.env.sigs[(P.env.imports+i).toNat]? = some f.sig
noncomputable def rkOf (e:Ss.Env) (f:Ss.Fn):Nat->Nat:=open Classical in if h:Ss.check e f=true then (Ss.ajh h).choose else fun _=>0
theorem ada {e:Ss.Env} {f:Ss.Fn} (h:Ss.check e f=true):(∀ i,rkOf e f i<256) /\ ∀ i b,f.blocks[i]? = some b->Ss.tickB b=false -> ∀ x∈b.term.to,rkOf e f x.to.toNat<rkOf e f i:=by
 rw [rkOf,dif_pos h];exact (Ss.ajh h).choose_spec
structure BlockOk (e:Ss.Env) (f:Ss.Fn) (ds:List Ss.Def) (near:List Int) (i:Nat) (b:Ss.Block):Prop where
 code:Ss.cx e f ds near i 0 b.code=true
 term:Ss.termOk f ds near i b=true
 len:b.code.length<=4096
 pars:Ss.InTs f.types.length b.params
 ins : ∀ x∈b.code,x.Fits/\Ss.InTs f.types.length x.outs
 to : ∀ x∈b.term.to,0<=x.to/\x.to<f.blocks.length
structure FnOk (e:Ss.Env) (f:Ss.Fn) (ds:List Ss.Def) (near:List Int):Prop where
 dsl:ds.length=f.types.length
 blocks : ∀ (i:Nat) (b:Ss.Block),f.blocks[i]? = some b->BlockOk e f ds near i b
 entry : ∃ b,f.blocks[0]? = some b/\b.params.length=f.sig.inn.length/\Ss.tickB b=true
theorem acb {e:Ss.Env} {f:Ss.Fn} (hf:f.Fits) (h:Ss.check e f=true) : ∃ ds,Ss.defsOf f=some ds/\FnOk e f ds (Go.Vw.G.cD (Ss.succs f.blocks)):=by
 obtain ⟨h1,ds,h2,h3,h4⟩:=Ss.aae h;obtain ⟨d1,d2⟩:=Ss.defs_in h2;simp only [Ss.shapeOk,af,Bool.not_eq_true'] at h3;obtain ⟨⟨⟨⟨hr,h5⟩,h6⟩,h7⟩,h8⟩:=h3;have hto:=Ss.right_to hr;have hsm:f.small=true:=by
  simp only [Ss.checkHead,af] at h1;exact h1.1.1.1.1.2
 have hcnt:=((Ss.aao f).1 hsm).2.2;refine ⟨ds,h2,d1,fun i b hb => ?_, ?_⟩
 .have hm:=aA hb;obtain ⟨c1,c2⟩:=Ss.aad h4 hb;rw [a8] at c1 c2;have:=Go.Vw.abb hm;exact ⟨c1,c2,by omega,(d2 b hm).1,fun x hx=>⟨(hf.2.2.2 b hm).2.1.2 x hx,(d2 b hm).2 x hx⟩,hto b hm⟩
 .have hpos:0<f.blocks.length:=by
   simp only [Go.Vw.G.right,af,aj,Ss.succs,aI] at hr;omega
  have e0:f.blocks.getD 0 default=f.blocks[0]:=by simp [ag,ac hpos]
  rw [e0] at h7 h8;refine ⟨_,ac hpos, ?_, ?_⟩
  .rw [<-aP h7]; simp [Ss.cv]
  .rw [Ss.tickB];split at h8
   .rename_i x r hx;rw [hx]; simp [aP h8]
   .cases h8
theorem amf {f:Ss.Fn} {ds:List Ss.Def} {near:List Int} {i:Int} {b:Ss.Block} (h:Ss.termOk f ds near i b=true) (hd:ds.length=f.types.length) :
  (b.term.kind=4->Ss.InTs f.types.length b.term.args/\b.term.args.length=f.sig.out.length)/\(b.term.kind≠4->b.term.kind≠5->(b.term.kind=1/\b.term.to.length=1)\/(b.term.kind=2/\b.term.to.length=2/\Ss.InTs f.types.length [b.term.arg])\/(b.term.kind=3/\0<b.term.to.length/\Ss.InTs f.types.length [b.term.arg])) /\
  ∀ x∈b.term.to,Ss.InTs f.types.length x.args/\x.args.length=(f.blocks.getD x.to.toNat default).params.length:=by
 simp only [Ss.termOk] at h;split at h
 .rename_i le mo rs hh;simp only [Ss.termTail,af,aj] at h;obtain ⟨⟨⟨⟨t1,t2⟩,t3⟩,t4⟩,t5⟩:=h;have hE : ∀ x∈b.term.to,Ss.InTs f.types.length x.args/\x.args.length=(f.blocks.getD x.to.toNat default).params.length:=fun x hx=>by
   have:=aD.1 t5 x hx;simp only [Ss.edgeOk,af] at this;refine ⟨hd▸asks_in this.2, ?_⟩;rw [ahn this.2]; simp [Ss.cv]
  refine ⟨fun hk => ?_,fun k4 k5 => ?_,hE⟩
  .rw [hk] at hh;have:(0,0,f.sig.out)=(le,mo,rs):=Option.some.inj hh
   cases this
   exact ⟨hd▸asks_in t4,ahn t4⟩
  .simp only [Ss.termHead] at hh
   by_cases k1:b.term.kind=1
   .rw [if_pos k1] at hh
    cases hh
    exact .inl ⟨k1,by omega⟩
   rw [if_neg k1] at hh
   by_cases k2:b.term.kind=2
   .rw [if_pos k2] at hh
    cases hh
    rw [if_pos (by simp [Ss.branches,k2])] at t1;exact .inr (.inl ⟨k2,by omega,hd▸asks_in t1⟩)
   rw [if_neg k2] at hh
   by_cases k3:b.term.kind=3
   .rw [if_pos k3] at hh
    cases hh
    rw [if_pos (by simp [Ss.branches,k3])] at t1;exact .inr (.inr ⟨k3,by omega,hd▸asks_in t1⟩)
   rw [if_neg k3,if_neg k4,if_neg k5] at hh
   cases hh
 .cases h
theorem aw4 {v:List Int} {f:Ss.Fn} {t:Ss.Term} (hv:v.length=f.types.length) (hu : ∀ y∈v,U64 y) (h:(t.kind=1/\t.to.length=1)\/(t.kind=2/\t.to.length=2/\Ss.InTs f.types.length [t.arg])\/(t.kind=3/\0<t.to.length/\Ss.InTs f.types.length [t.arg])) : ∃ k,pickF v t=some k/\k<t.to.length:=by
 rw [<-hv] at h;rcases h with ⟨h1,h2⟩ | ⟨h1,h2,h3⟩ | ⟨h1,h2,h3⟩
 .exact ⟨0,by simp [pickF,h1],by omega⟩
 .refine ⟨_,by rw [pickF,if_pos h1,if_pos (KA h3)], ?_⟩;split<;>omega
 .refine ⟨_,by rw [pickF,if_neg (by omega),if_pos h1,if_pos ⟨KA h3,h2⟩], ?_⟩;split
  .rename_i hlt;omega
  .omega
def room (b:Ss.Block) (rk:Nat):Nat:=if Ss.tickB b=true then 36864 else 36864*(rk+2)
def gain (b:Ss.Block) (rk:Nat):Nat:=if Ss.tickB b=true then 0 else 36864*(rk+1)
def BlocksEx (O:Ops) (P:Prog) (N d:Nat):Prop :=
 ∀ (f:Ss.Fn) (v:List Int) (at_:Nat) (b:Ss.Block) (args:List Int) (s:State),f∈P.fns->v.length=f.types.length->(∀ y∈v,U64 y)->f.blocks[at_]? = some b->args.length=b.params.length->(∀ y∈args,U64 y)->Good P.env s ->
  pot s+room b (rkOf P.env f at_)+10000000*(16-d)<=17592186040000->300000*(16-d)+257*s.fuel.toNat+rkOf P.env f at_+1<=N ->
  ∃ r,cF O P N d f v at_ args s=some r/\EndOk P.env s f.sig.out.length (gain b (rkOf P.env f at_)) (room b (rkOf P.env f at_)+10000000*(16-d)) r
theorem abn {e:Ss.Env} (he:e.right=true) {i:Nat} {t:Ss.Sig} (ht:e.sigs[i]? = some t):t.inn.length<=8/\t.out.length<=8:=by
 simp only [Ss.Env.right,af,aD] at he;have:=he.2 t (aA ht);simp only [Ss.Sig.right,Ss.kinds,af,aj] at this;exact ⟨this.1.1,this.2.1⟩
theorem aje {O:Ops} {P:Prog} (hP:RightP P) {N d:Nat} (h:d<16->BlocksEx O P N (d+1)) (hN:300000*(16-d)<=N):CallEx P.env (callG P (cF O P N) d) (10000000*(16-d)):=by
 intro n args s t h0 ht hal hau hg hp;obtain ⟨q1,q2⟩:=abn hP.env ht;have hen:=hP.env;simp only [Ss.Env.right,af,aj] at hen;have hi0:=hen.1.1.1.1.1;have hi1:=hen.1.1.1.1.2;have hi2:=hen.1.1.1.2;obtain ⟨hlt,hte⟩:=ae.1 ht
 by_cases hn:n<P.env.imports
 .obtain ⟨r,h1,h2⟩:=au4 (outs:=t.out) hg (n:=n) (args:=args) ⟨h0,by omega⟩ hau (by omega) (by omega);refine ⟨r,by rw [callG,if_pos hn,ht]; exact h1,h2.good,h2.fuel,h2.out, ?_⟩;have:=h2.any;omega
 .by_cases hd:16<=d
  .refine ⟨([],s,37),by rw [callG,if_neg hn,if_pos hd],hg,Int.le_refl _,fun h=>absurd h (show ¬ (37:Int)=0 by decide), ?_⟩;simp only; omega
  .have hl:=hP.len;have hk:(n-P.env.imports).toNat<P.fns.length:=by omega
   obtain ⟨f1,f2,f3⟩:=hP.fns _ _ (ac hk);have e1:(P.env.imports+((n-P.env.imports).toNat:Int)).toNat=n.toNat:=by omega
   rw [e1,ht] at f3;have e2:t=(P.fns[(n-P.env.imports).toNat]).sig:=Option.some.inj f3;obtain ⟨ds,hds,hok⟩:=acb f1 f2;obtain ⟨b,hb,hbp,hbt⟩:=hok.entry;have hr:=(ada f2).1 0;have hfu:=hg.fuel;obtain ⟨r,h1,h2⟩:=h (by omega) (P.fns[(n-P.env.imports).toNat]) (List.replicate (P.fns[(n-P.env.imports).toNat]).types.length 0) 0 b args s (ah hk) (by simp) (fun y hy=>by rw [List.eq_of_mem_replicate hy]; exact aaq) hb (by rw [hal,hbp,e2]) hau hg
    (by rw [room,if_pos hbt]; clear hN; omega) (by clear hp; omega)
   refine ⟨r,by rw [callG,if_neg hn,if_neg hd,ac hk]; exact h1,h2.good,h2.fuel,fun hz => ?_, ?_⟩
   .obtain ⟨o1,o2,o3⟩:=h2.out hz;rw [gain,if_pos hbt] at o3;exact ⟨by rw [e2]; exact o1,o2,by omega⟩
   .have:=h2.any;rw [room,if_pos hbt] at this;omega
theorem jbj {O:Ops} (hO:OpsOk O) {P:Prog} (hP:RightP P) : ∀ N d,d<=16->BlocksEx O P N d
 | 0,d,_=>fun f v at_ b args s _ _ _ _ _ _ _ _ hN=>by omega
 | N+1,d,hd=>fun f v at_ b args s hf hvl hvu hb hal hau hg hp hN=>by
  obtain ⟨i,hi⟩:=aB.1 hf;obtain ⟨f1,f2,f3⟩:=hP.fns i f hi;obtain ⟨ds,hds,hok⟩:=acb f1 f2;obtain ⟨b1,b2,b3,b4,b5,b6⟩:=hok.blocks at_ b hb;obtain ⟨r1,r2⟩:=ada f2;have hrk:=r1 at_;have hcall:=aje (O:=O) hP (N:=N) (d:=d) (fun h=>jbj hO hP N (d+1) h) (by clear hp; omega);have hroom:36864<=room b (rkOf P.env f at_):=by
   simp only [room]; split<;>omega
  obtain ⟨v2,s2,er,k1,k2,k3,k4,k5⟩:=aja hO hcall hP.env hok.dsl b.code 0 (cE v b.params args) s b1 b5 (by rw [KN,hvl]) (aav _ _ _ hvu hau) hg (by omega);have hpar:inR v.length b.params=true/\b.params.length<=args.length:=⟨by rw [hvl]; exact KA b4,by omega⟩
  simp only [cF,hb,if_pos hpar,k1]
  by_cases he:er=0
  .obtain ⟨q1,q2,q3,q4⟩:=k5 he;rw [if_neg (not_not_intro he)];obtain ⟨t1,t2,t3⟩:=amf b2 hok.dsl;have ht:Ss.tickB b=true->ticks b.code=10000000/\s2.fuel<s.fuel:=fun h=>⟨if_pos h,q4 h⟩
   have hf2:=hg.fuel;have hf3:=k2.fuel;have hga:pot s2<=pot s+gain b (rkOf P.env f at_)/\pot s2<=pot s+36864:=by
    simp only [gain];split
    .rename_i h;have:=(ht h).1;omega
    .omega
   by_cases h4:b.term.kind=4
   .obtain ⟨a1,a2⟩:=t1 h4;rw [if_pos h4,if_pos (by rw [q1]; exact KA a1)];exact ⟨_,rfl,k2,k3,fun _=>⟨by rw [aam,a2]; exact a9 _,aaf q2 _,hga.1⟩,by simp only; omega⟩
   rw [if_neg h4]
   by_cases h5:b.term.kind=5
   .rw [if_pos h5];exact ⟨_,rfl,k2,k3,fun h=>(by cases h),by simp only; omega⟩
   rw [if_neg h5];obtain ⟨k,hk,hkl⟩:=aw4 q1 q2 (t2 h4 h5);rw [hk];simp only [ac hkl];have hm:=ah hkl;generalize b.term.to[k]=ed at *
   obtain ⟨x1,x2⟩:=t3 ed hm;obtain ⟨y1,y2⟩:=b6 ed hm;rw [if_pos ⟨by rw [q1]; exact KA x1,y1⟩];have hnb:ed.to.toNat<f.blocks.length:=by omega
   have e0:f.blocks.getD ed.to.toNat default=f.blocks[ed.to.toNat]:=by simp [ag,ac hnb]
   rw [e0] at x2;have hnr:=r1 ed.to.toNat;have hstep:pot s2+room (f.blocks[ed.to.toNat]) (rkOf P.env f ed.to.toNat)<=pot s+room b (rkOf P.env f at_)/\pot s2+gain (f.blocks[ed.to.toNat]) (rkOf P.env f ed.to.toNat)<=pot s+gain b (rkOf P.env f at_)/\257*s2.fuel.toNat+rkOf P.env f ed.to.toNat+1<=257*s.fuel.toNat+rkOf P.env f at_:=by
    cases hbt:Ss.tickB b with
    | true =>
     obtain ⟨z1,z2⟩:=ht hbt;simp only [room,gain,if_pos hbt];split<;>omega
    | false =>
     have:=r2 at_ b hb hbt ed hm;have hbt' : ¬ Ss.tickB b=true:=by rw [hbt]; decide
     simp only [room,gain,if_neg hbt'];split<;>omega
   obtain ⟨z1,z2,z3⟩:=hstep;obtain ⟨r,w1,w2⟩:=jbj hO hP N d hd f v2 ed.to.toNat _ (valsI v2 ed.args) s2 hf q1 q2 (ac hnb) (by rw [aam,x2]) (aaf q2 _) k2 (by omega) (by omega);refine ⟨r,w1,w2.good,by have:=w2.fuel; omega,fun hz => ?_, ?_⟩
   .obtain ⟨o1,o2,o3⟩:=w2.out hz;exact ⟨o1,o2,by omega⟩
   .have:=w2.any;omega
  .rw [if_pos he];exact ⟨_,rfl,k2,k3,fun h=>absurd h he,by simp only; omega⟩
theorem ab3 {O:Ops} (hO:OpsOk O) {P:Prog} (hP:RightP P) {n:Int} {args:List Int} {s:State} {t:Ss.Sig} (h0:0<=n) (ht:P.env.sigs[n.toNat]? = some t) (ha:args.length=t.inn.length) (hu : ∀ x∈args,U64 x) (hg:Good P.env s) (hl:s.log.length<=4096) :
  ∃ r,callF O P 4800000 0 n args s=some r/\EndOk P.env s t.out.length 9 (9+160000000) r:=by
 have hf:=hg.fuel;exact aje hP (fun h=>jbj hO hP _ _ (by omega)) (by omega) n args s t h0 ht ha hu hg (by simp only [pot]; omega)
end Ev
