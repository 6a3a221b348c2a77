import Derived.Test.YtcpncecdegmliaaGreatC35
/- Part of the proof. -/
set_option linter.unusedVariables false
set_option linter.unusedSimpArgs false
set_option maxRecDepth 10000
set_option maxHeartbeats 8000000
namespace Ss
def rtermOk (f:Fn) (ds:List Def) (near:List Int) (i pos:Int) (t:Term):Bool :=
 if t.kind=2 then asks f.types ds near i pos [t.arg] [127]&&(decide (t.args.length=0)&&decide (t.to.length=2))
 else if t.kind=3 then asks f.types ds near i pos [t.arg] [127]&&(decide (t.args.length=0)&&(decide (1≤t.to.length)&&decide (t.to.length≤65)))
 else decide (t.arg=0)&&(if t.kind=4 then decide (t.to.length=0)&&asks f.types ds near i pos t.args f.sig.out
  else decide (t.args.length=0)&&(if t.kind=1 then decide (t.to.length=1) else decide (t.kind=5)&&decide (t.to.length=0)))
def redgeOk (f:Fn) (ds:List Def) (near:List Int) (i pos:Int) (x:Edge):Bool :=
 decide (1≤x.to)&&asks f.types ds near i pos x.args (typesOf f.types (f.blocks.getD x.to.toNat default).params)
end Ss
namespace Go.Vw
open Go.Proofs Go.RowKit
attribute [-simp] List.map_set
theorem rterm_v (e:Ss.Env) (f:Ss.Fn) (ds:List Ss.Def) (near:List Int) (i:Nat) (b:Ss.Block) (hds:ds.length=f.types.length) (htl:f.types.length<2^63) (hnl:near.length<2^63) (hnn : ∀ x∈ds,x.made=true→0≤x.block) (hi:f.blocks[i]? = some b) (hb:b.Fits) :
  VPure Tryz.prog 47 [ckR e f ds near,vnat i] (.bool (Ss.rtermOk f ds near i b.code.length b.term)):=by
 intro S;obtain ⟨_,⟨hcl,_⟩,_,_,⟨htol,htf⟩,⟨haz,_⟩⟩:=hb;have ca : ∀ l m:List Int,l.length<2^63→VPure Tryz.prog 79 [ckR e f ds near,vl vint l,vl vint m,vnat i,vnat b.code.length] (.bool (Ss.asks f.types ds near i b.code.length l m)):=fun l m hl=>jbM e f ds near i b.code.length l m hds htl hnl hl hnn
 obtain ⟨ps,code,⟨tk,ta,to,az⟩⟩:=b;simp only at hcl htol htf haz ca;obtain ⟨⟨fi,fo⟩,ts,bs⟩:=f;simp only at *
 have c1:=ca [ta] [127] (by simp);have c2:=ca az fo (by omega);obtain ⟨hi1,hi2⟩:=List.getElem?_eq_some_iff.1 hi;have hX:Ss.rtermOk ⟨⟨fi,fo⟩,ts,bs⟩ ds near i code.length ⟨tk,ta,to,az⟩=if tk=2 then Ss.asks ts ds near i code.length [ta] [127]&&(decide (az.length=0)&&decide (to.length=2))
  else if tk=3 then Ss.asks ts ds near i code.length [ta] [127]&&(decide (az.length=0)&&(decide (1≤to.length)&&decide (to.length≤65)))
  else decide (ta=0)&&(if tk=4 then decide (to.length=0)&&Ss.asks ts ds near i code.length az fo
   else decide (az.length=0)&&(if tk=1 then decide (to.length=1) else decide (tk=5)&&decide (to.length=0))):=rfl
 rw [hX];clear hX;generalize Ss.asks ts ds near i code.length [ta] [127]=A at *
 generalize Ss.asks ts ds near i code.length az fo=B at *
 refine QB (c:=jc Tryz.f47) Tryz.func47 Tryz.ntmps47 fun hwf=>?_
 repeat first|refine QG ?_|refine QY ?_ (r:=by conv=>lhs;simp[QV,hi1,hi2])
 refine QT ?_;refine QJ (St S [] [some (6,[vl vint ps,vl jp code, .int .i64 tk, .int .i64 ta,vl ji to,vl vint az])]) (St S [] [some (6,[vl vint ps,vl jp code, .int .i64 tk, .int .i64 ta,vl ji to,vl vint az])]) [] ?_ (r:=by conv=>lhs; simp [QV]);refine QI ?_;refine QZ ?_;refine QI ?_;refine QW ?_
 by_cases k2:tk=2
 ·rw [if_pos k2]
  repeat first|refine QG ?_|refine QY ?_ (r:=by conv=>lhs;simp[QV,k2])
  refine QT ?_;refine QP ?_;refine qY (xs':=[ckR e ⟨⟨fi,fo⟩,ts,bs⟩ ds near,vl vint [ta],vl vint [127],vnat i,vnat code.length]) rfl (GhostArgs.trans (GhostArgs.one [_] [_,_,_] (frz1 (k:=2) (len:=1) (by simp) (by rfl) (by rfl) (by rfl))) (GhostArgs.one [_,_] [_,_] (frz1 (k:=3) (len:=1) (by simp) (by rfl) (by rfl) (by rfl)))) c1 ?_;simp only [List.set_cons_succ,List.set_cons_zero]
  by_cases h2:A=true
  case neg =>
   have h2':A=false:=by simpa using h2
   refine QM (by conv=>lhs;simp[QV,h2']) ?_;refine QN ?_
   repeat first|refine QG ?_|refine QY ?_
   exact ja hwf (by simp [h2']) rfl
  by_cases h3:az.length=0
  case neg =>
   have h3':(0:Int)<(az.length:Int):=by omega
   have h3n:0<az.length:=by omega
   refine QM (by conv=>lhs;simp[QV,h2,k2,h3,h3',h3n]) ?_;refine QN ?_
   repeat first|refine QG ?_|refine QY ?_
   exact ja hwf (by simp [h3]) rfl
  have h3':az=[]:=List.eq_nil_of_length_eq_zero h3;subst h3';refine QM (by conv=>lhs;simp[QV,h2,k2]) ?_;refine QN ?_
  repeat first|refine QG ?_|refine QY ?_ (r:=by conv=>lhs;simp[QV,k2])
  exact ja hwf (by simp [h2]; try omega) rfl
 rw [if_neg k2]
 by_cases k3:tk=3
 ·rw [if_pos k3]
  repeat first|refine QG ?_|refine QY ?_ (r:=by conv=>lhs;simp[QV,k2,k3])
  refine QT ?_;refine QP ?_;refine qY (xs':=[ckR e ⟨⟨fi,fo⟩,ts,bs⟩ ds near,vl vint [ta],vl vint [127],vnat i,vnat code.length]) rfl (GhostArgs.trans (GhostArgs.one [_] [_,_,_] (frz1 (k:=2) (len:=1) (by simp) (by rfl) (by rfl) (by rfl))) (GhostArgs.one [_,_] [_,_] (frz1 (k:=3) (len:=1) (by simp) (by rfl) (by rfl) (by rfl)))) c1 ?_;simp only [List.set_cons_succ,List.set_cons_zero]
  by_cases h2:A=true
  case neg =>
   have h2':A=false:=by simpa using h2
   refine QM (by conv=>lhs;simp[QV,h2']) ?_;refine QN ?_
   repeat first|refine QG ?_|refine QY ?_
   exact ja hwf (by simp [h2']) rfl
  by_cases h3:az.length=0
  case neg =>
   have h3':(0:Int)<(az.length:Int):=by omega
   have h3n:0<az.length:=by omega
   refine QM (by conv=>lhs;simp[QV,h2,k2,k3,h3,h3',h3n]) ?_;refine QN ?_
   repeat first|refine QG ?_|refine QY ?_
   exact ja hwf (by simp [h3]) rfl
  have h3':az=[]:=List.eq_nil_of_length_eq_zero h3;subst h3';have k4 : ¬ tk=4:=by omega
  refine QM (by conv=>lhs;simp[QV,h2,k2,k3,k4]) ?_;refine QN ?_
  by_cases h5:(1:Int)≤(to.length:Int)
  case neg =>
   repeat first|refine QG ?_|refine QY ?_ (r:=by conv=>lhs;simp[QV,k2,k3,h5])
   exact ja hwf (by simp; omega) rfl
  have h6:decide (1≤to.length)=true:=decide_eq_true (by omega)
  repeat first|refine QG ?_|refine QY ?_ (r:=by conv=>lhs;simp[QV,k2,k3,h5])
  exact ja hwf (by rw [h6]; simp [h2]; try omega) rfl
 rw [if_neg k3]
 by_cases h1:ta=0
 case neg =>
  repeat first|refine QG ?_|refine QY ?_ (r:=by conv=>lhs;simp[QV,k2,k3,h1])
  exact ja hwf (by simp [h1]) rfl
 by_cases k4:tk=4
 ·rw [if_pos k4]
  by_cases h5:to.length=0
  case neg =>
   have h5' : ¬ (to.length:Int)=0:=by omega
   have k1 : ¬ tk=1:=by omega
   repeat first|refine QG ?_|refine QY ?_ (r:=by conv=>lhs;simp[QV,k2,k3,h1,k4,k1,h5,h5'])
   exact ja hwf (by simp [h5]) rfl
  have h5':(to.length:Int)=0:=by omega
  have k1 : ¬ tk=1:=by omega
  obtain rfl:to=[]:=List.eq_nil_of_length_eq_zero h5
  repeat first|refine QG ?_|refine QY ?_ (r:=by conv=>lhs;simp[QV,k2,k3,h1,k4,k1])
  refine QT ?_;refine QD (r:=by conv=>lhs;simp[QV]) (k:=?_);refine QL (c2) ?_;refine QW ?_
  repeat first|refine QG ?_|refine QY ?_
  exact ja hwf (by simp [h1]) rfl
 rw [if_neg k4]
 by_cases h3:az.length=0
 case neg =>
  have h3':(0:Int)<(az.length:Int):=by omega
  have h3n:0<az.length:=by omega
  repeat first|refine QG ?_|refine QY ?_ (r:=by conv=>lhs;simp[QV,k2,k3,h1,k4,h3,h3',h3n])
  exact ja hwf (by simp [h3]) rfl
 have h3':az=[]:=List.eq_nil_of_length_eq_zero h3;subst h3'
 by_cases k1:tk=1
 ·repeat first|refine QG ?_|refine QY ?_ (r:=by conv=>lhs;simp[QV,k2,k3,h1,k4,k1])
  exact ja hwf (by simp [h1,k1]; try omega) rfl
 by_cases k5:tk=5
 ·repeat first|refine QG ?_|refine QY ?_ (r:=by conv=>lhs;simp[QV,k2,k3,h1,k4,k1,k5])
  exact ja hwf (by simp [h1,k1,k5]; try omega) rfl
 ·repeat first|refine QG ?_|refine QY ?_ (r:=by conv=>lhs;simp[QV,k2,k3,h1,k4,k1,k5])
  exact ja hwf (by simp [h1,k1,k5]; try omega) rfl
theorem redges_v (e:Ss.Env) (f:Ss.Fn) (ds:List Ss.Def) (near:List Int) (i:Nat) (b:Ss.Block) (hds:ds.length=f.types.length) (htl:f.types.length<2^63) (hnl:near.length<2^63) (hnn : ∀ x∈ds,x.made=true→0≤x.block) (hi:f.blocks[i]? = some b) (hb:b.Fits)
  (hbl:f.blocks.length<2^63) (hto : ∀ x∈b.term.to,0≤x.to∧x.to<f.blocks.length) (hps : ∀ b∈f.blocks,b.params.length≤1048576∧Ss.InTs f.types.length b.params) :
  VPure Tryz.prog 48 [ckR e f ds near,vnat i] (.bool (b.term.to.all (Ss.redgeOk f ds near i b.code.length))):=by
 intro S;obtain ⟨_,⟨hcl,_⟩,_,_,⟨htol,htf⟩,⟨haz,_⟩⟩:=hb;have ca : ∀ l m:List Int,l.length<2^63→VPure Tryz.prog 79 [ckR e f ds near,vl vint l,vl vint m,vnat i,vnat b.code.length] (.bool (Ss.asks f.types ds near i b.code.length l m)):=fun l m hl=>jbM e f ds near i b.code.length l m hds htl hnl hl hnn
 have ct : ∀ b∈f.blocks,VPure Tryz.prog 44 [ckR e f ds near,vl vint b.params] (vl vint (Ss.typesOf f.types b.params)):=fun b hb=>jbL e f ds near b.params (hps b hb).1 (hps b hb).2
 obtain ⟨ps,code,⟨tk,ta,to,az⟩⟩:=b;simp only at hcl htol htf haz hto ca;obtain ⟨hi1,hi2⟩:=List.getElem?_eq_some_iff.1 hi;have htl63:to.length<2^63:=by omega
 have hE : ∀ x:Ss.Edge,Ss.redgeOk f ds near i code.length x=(decide (1≤x.to)&&Ss.asks f.types ds near i code.length x.args (Ss.typesOf f.types (f.blocks.getD x.to.toNat default).params)):=fun x=>rfl
 obtain ⟨⟨fi,fo⟩,ts,bs⟩:=f;simp only at *
 generalize hP:Ss.redgeOk ⟨⟨fi,fo⟩,ts,bs⟩ ds near i code.length=P at *
 refine QB (c:=jc Tryz.f48) Tryz.func48 Tryz.ntmps48 fun hwf=>?_
 repeat first|refine QG ?_|refine QY ?_ (r:=by conv=>lhs;simp[QV,hi1,hi2])
 refine QT ?_;refine jd [0,1,5,6] rfl (fun c σ S' => ∃ (k:Nat),k≤to.length∧c=to.length-k∧(to.drop k).all P=to.all P∧σ=[(0,ckR e ⟨⟨fi,fo⟩,ts,bs⟩ ds near),(1,vnat i),(5, .ptr (lid S.nx 0) 0),(6,vnat k)]∧S'=St S [] [some (6,[vl vint ps,vl jp code,vint tk,vint ta,vl ji to,vl vint az])]) to.length ?_ ?_
 ·exact ⟨0,by omega,rfl,rfl,by simp [Fr.only],rfl⟩
 ·rintro c σ T ⟨k,hk,rfl,hd,rfl,rfl⟩
  by_cases hkt:k<to.length
  case neg =>
   repeat first|refine QG ?_|refine QY ?_ (r:=by conv=>lhs;simp[QV,hkt])
   rw [←hd,Ss.drop_all_end _ hkt];exact ja hwf rfl rfl
  have hw:=jh hkt htl63;have hst:=Ss.drop_all P hkt;obtain ⟨h0,h1⟩:=hto _ (List.getElem_mem hkt);have hxa:=(htf _ (List.getElem_mem hkt)).2.1;obtain ⟨⟨xt,xa⟩,hx⟩ : ∃ x,to[k]=x:=⟨_,rfl⟩
  rw [hx] at hst h0 h1 hxa;simp only at h0 h1 hxa;obtain ⟨n,rfl⟩ : ∃ n:Nat,xt=n:=⟨xt.toNat,by omega⟩
  have hn:n<bs.length:=by omega
  obtain ⟨⟨qs,qc,⟨qk,qa,qt,qz⟩⟩,hq⟩ : ∃ b,bs[n]=b:=⟨_,rfl⟩
  have hqg:bs.getD (n:Int).toNat default=⟨qs,qc,⟨qk,qa,qt,qz⟩⟩:=by simp [hn,hq]
  have hE':=hE ⟨(n:Int),xa⟩;rw [hqg] at hE';simp only at hE';rw [hE'] at hst
  by_cases h2:(n:Int)<1
  ·have h2' : ¬ (1:Int)≤(n:Int):=by omega
   rw [decide_eq_false h2',Bool.false_and,Bool.false_and,hd] at hst
   repeat first|refine QG ?_|refine QY ?_ (r:=by conv=>lhs;simp[QV,hkt,hx,h2])
   rw [hst];exact ja hwf rfl rfl
  have h2':(1:Int)≤(n:Int):=by omega
  rw [decide_eq_true h2',Bool.true_and] at hst;have c1:=ct _ (List.getElem_mem hn);rw [hq] at c1;simp only at c1;generalize Ss.typesOf ts qs=tq at *
  have c2:=ca xa tq (by omega);generalize Ss.asks ts ds near i code.length xa tq=B at *
  repeat first|refine QG ?_|refine QY ?_ (r:=by conv=>lhs;simp[QV,hkt,hx,h2,hn,hq])
  refine QT ?_;refine QD (r:=by conv=>lhs;simp[QV,h2,hn,hq]) (k:=?_);refine QL (c1) ?_;refine QZ ?_;refine QL (c2) ?_
  by_cases h3:B=true
  ·rw [h3,Bool.true_and,hd] at hst;refine QM (by conv=>lhs;simp[QV,h3]) ?_;refine QN ?_
   repeat first|refine QG ?_|refine QY ?_
   refine QA [0] (h:=⟨?_,k+1,hkt,rfl,hst.symm,by simp [hw],by simp⟩);omega
  ·have h3':B=false:=by simpa using h3
   rw [h3',Bool.false_and,hd] at hst;refine QM (by conv=>lhs;simp[QV,h3']) ?_;refine QN ?_
   repeat first|refine QG ?_|refine QY ?_
   rw [hst];exact ja hwf rfl rfl
theorem RSuccO_v (S:Store) (f:Ss.Fn) (hf:f.Fits) (hs:f.small=true):VCalls Tryz.prog 24 [jJ f] S (fun r T=>r = .slice (lid S.nx 0) 0 f.blocks.length∧T=St S [] [some (1,(Ss.succs f.blocks).map (vl vint))]):=by
 have cs:=RSmall_v f hf;have hsb := @zk f;obtain ⟨⟨fi,fo⟩,ts,bs⟩:=f;rw [hs] at cs;obtain ⟨sm,hsm⟩ : ∃ sm,sm=true:=⟨_,rfl⟩
 rw [←hsm] at cs;have cs':VPure Tryz.prog 28 [.agg [vl vint fi,vl vint fo,vl vint ts,vl je bs]] (.bool sm):=cs;obtain ⟨_,hbl,hbf,_⟩:=hsb hs;simp only at hbl hbf ⊢;refine QB (c:=jc Tryz.f24) Tryz.func24 Tryz.ntmps24 fun hwf=>?_
 repeat first|refine QG ?_|refine QY ?_
 refine QT ?_;refine QP ?_;refine QL (cs') ?_;refine QM (by conv=>lhs;simp[QV,hsm]) ?_;refine QN ?_
 repeat first|refine QG ?_|refine QY ?_
 refine zy 3 1 rfl (by conv=>lhs; simp [Fr.set]) ?_;refine QT ?_;refine jd [1,3,4] rfl (fun c σ S' => ∃ (k:Nat) (out:List (List Int)),k≤bs.length∧c=bs.length-k∧out.length=k∧out=(bs.take k).map Ss.rowOf∧σ=[(1, .ptr (lid S.nx 0) 0),(3, .slice (lid S.nx 1) 0 k),(4,vnat k)]∧S'=St S [] [some (4,[vl vint fi,vl vint fo,vl vint ts,vl je bs]),some (1,out.map (vl vint))]) bs.length ?_ ?_
 ·exact ⟨0,[],by omega,rfl,rfl,by simp,by simp [Fr.only],by simp⟩
 ·rintro c σ T ⟨k,out,hk,rfl,hol,ho,rfl,rfl⟩
  by_cases hkt:k<bs.length
  ·have hw:=jh hkt (by omega);obtain ⟨_,htl,_,_⟩:=hbf _ (List.getElem_mem hkt);obtain ⟨⟨ps,code,⟨tk,ta,to,az⟩⟩,hx⟩ : ∃ b,bs[k]=b:=⟨_,rfl⟩
   rw [hx] at htl;simp only at htl;have htk:bs.take (k+1)=bs.take k++[⟨ps,code,⟨tk,ta,to,az⟩⟩]:=by rw [List.take_add_one,List.getElem?_eq_getElem hkt,hx]; rfl
   repeat first|refine QG ?_|refine QY ?_ (r:=by conv=>lhs;simp[QV,hkt,hx])
   refine zy 5 1 rfl (by conv=>lhs; simp [Fr.set]) ?_;refine QT ?_;refine jd [1,3,4,5,6] rfl (fun c σ S' => ∃ (j:Nat) (r:List Int),j≤to.length∧c=to.length-j∧r.length=j∧r=(to.take j).map Ss.Edge.to∧σ=[(1, .ptr (lid S.nx 0) 0),(3, .slice (lid S.nx 1) 0 k),(4,vnat k),(5, .slice (lid S.nx 2) 0 j),(6,vnat j)]∧S'=St S [] [some (4,[vl vint fi,vl vint fo,vl vint ts,vl je bs]),some (1,out.map (vl vint)),some (1,r.map vint)]) to.length ?_ ?_
   ·exact ⟨0,[],by omega,rfl,rfl,by simp,by simp [Fr.only],by simp⟩
   ·rintro c σ T ⟨j,r,hj,rfl,hrl,hr,rfl,rfl⟩
    by_cases hjt:j<to.length
    ·have hwj:=jh hjt (by omega);have hb:(j+1)*8≤140737488355328:=by omega
     have hb':j+1≤140737488355328:=by omega
     obtain ⟨⟨xt,xa⟩,hx2⟩ : ∃ b,to[j]=b:=⟨_,rfl⟩
     have htj:to.take (j+1)=to.take j++[⟨xt,xa⟩]:=by rw [List.take_add_one,List.getElem?_eq_getElem hjt,hx2]; rfl
     repeat first|refine QG ?_|refine QY ?_ (r:=by conv=>lhs;simp[QV,hkt,hx,hjt,hx2,hb,hb',hrl])
     refine QA [0,1,4] (h:=⟨?_,j+1,r++[xt],hjt,rfl,by simp [hrl],by rw [htj,List.map_append,hr]; rfl,by simp [hwj],by simp⟩);omega
    ·have hje:j=to.length:=by omega
     subst hje;rw [List.take_length] at hr;have hb:(k+1)*24≤140737488355328:=by omega
     have hb':k+1≤140737488355328:=by omega
     refine QT ?_;refine QY ?_ (r:=by conv=>lhs;simp[QV,hkt,hx,hjt]);refine QT ?_;refine jH rfl rfl rfl ?_;refine QT ?_;refine jW 2 rfl rfl ?_;refine jt 5 rfl ((frz1 (k:=2) (len:=to.length) (by simp) (by rfl) (jq vint (fun _=>rfl) _) (by simpa using hrl))) (by conv=>lhs; simp [Fr.set]) ?_;simp only [List.set_cons_succ,List.set_cons_zero]
     repeat first|refine QG ?_|refine QY ?_ (r:=by conv=>lhs;simp[QV,hb,hb',hol])
     refine QA [0,4] (h:=⟨?_,k+1,out++[r],hkt,rfl,by simp [hol],by rw [htk,List.map_append, ←ho,hr]; rfl,by simp [hw],by simp [vl]⟩);omega
  ·have hke:k=bs.length:=by omega
   subst hke;rw [List.take_length] at ho;refine QT ?_;refine QY ?_ (r:=by conv=>lhs;simp[QV,hkt]);refine QT ?_;refine jH rfl rfl rfl ?_;refine QT ?_;refine jW 0 rfl rfl ?_;refine QO [3] ?_;refine QK [1] ?_
   repeat first|refine QG ?_|refine QY ?_
   rw [Ss.succs, ←ho];exact zN ⟨by simp,rfl⟩
theorem RSucc_v (f:Ss.Fn) (hf:f.Fits) (hs:f.small=true):VPure Tryz.prog 24 [jJ f] (vl (vl vint) (Ss.succs f.blocks)):=by
 intro S;refine Js fun hwf=>qV ((RSuccO_v S f hf hs).mono ?_)
 rintro r T ⟨rfl,rfl⟩;exact jf hwf ((frz1 (k:=0) (cells:=(Ss.succs f.blocks).map (vl vint)) (by simp) (by rfl) (jq (vl vint) (fun _=>rfl) _) (by simp [Ss.succs])).toB _) rfl
theorem any_drop {α:Type} (p:α→Bool) {l:List α} {k:Nat} (h:k<l.length):(l.drop k).any p=(p l[k]||(l.drop (k+1)).any p):=by
 rw [List.drop_eq_getElem_cons h,List.any_cons]
theorem any_drop_end {α:Type} (p:α→Bool) {l:List α} {k:Nat} (h : ¬ k<l.length):(l.drop k).any p=false:=by
 have:l.drop k=[]:=by rw [List.drop_eq_nil_iff]; omega
 rw [this]; rfl
theorem ticks_v (b:Ss.Block) (hb:b.code.length<2^63):VPure Tryz.prog 77 [je b] (.bool (Ss.tickB b)):=by
 intro S;obtain ⟨ps,code,⟨tk,ta,to,az⟩⟩:=b;simp only at hb;have hX:Ss.tickB ⟨ps,code,⟨tk,ta,to,az⟩⟩=code.any fun x=>decide (x.op=258):=rfl
 rw [hX];generalize hP:(fun x:Ss.Ins=>decide (x.op=258))=P;refine QB (c:=jc Tryz.f77) Tryz.func77 Tryz.ntmps77 fun hwf=>?_
 repeat first|refine QG ?_|refine QY ?_
 refine QT ?_;refine jd [1,3] rfl (fun c σ S' => ∃ (k:Nat),k≤code.length∧c=code.length-k∧(code.drop k).any P=code.any P∧σ=[(1, .ptr (lid S.nx 0) 0),(3,vnat k)]∧S'=St S [] [some (6,[vl vint ps,vl jp code,vint tk,vint ta,vl ji to,vl vint az])]) code.length ?_ ?_
 ·exact ⟨0,by omega,rfl,rfl,by simp [Fr.only],rfl⟩
 ·rintro c σ T ⟨k,hk,rfl,hd,rfl,rfl⟩
  by_cases hkt:k<code.length
  ·have hst:=any_drop P hkt;have hw:=jh hkt hb;obtain ⟨⟨o,n,a,u⟩,hx⟩ : ∃ x,code[k]=x:=⟨_,rfl⟩
   have hp:P ⟨o,n,a,u⟩=decide (o=258):=by rw [←hP]
   rw [hx,hp] at hst
   by_cases h1:o=258
   ·rw [decide_eq_true h1,Bool.true_or,hd] at hst
    repeat first|refine QG ?_|refine QY ?_ (r:=by conv=>lhs;simp[QV,hkt,hx,h1])
    rw [hst];exact ja hwf rfl rfl
   ·rw [decide_eq_false h1,Bool.false_or,hd] at hst
    repeat first|refine QG ?_|refine QY ?_ (r:=by conv=>lhs;simp[QV,hkt,hx,h1,hw])
    show jy _ _ _ _ _ _ _;exact again ⟨by omega,k+1,by omega,rfl,hst.symm,by simp [Fr.only],rfl⟩
  ·repeat first|refine QG ?_|refine QY ?_ (r:=by conv=>lhs;simp[QV,hkt])
   rw [←hd,any_drop_end _ hkt];exact ja hwf rfl rfl
end Go.Vw
namespace Ss
inductive Ends (G:List (List Nat)):Nat→Prop
 | mk (i:Nat) (h : ∀ k∈G.getD i [],Ends G k):Ends G i
def msk (bs:List Block) (G:List (List Nat)):List (List Nat):=List.zipWith (fun b r=>if tickB b then [] else r) bs G
theorem msk_len {bs:List Block} {G:List (List Nat)} (h:G.length=bs.length):(msk bs G).length=bs.length:=by simp [msk,h]
theorem part_set {α:Type} {M G:List α} {k:Nat} (h1:k<M.length) (h2:k<G.length) (x:α) (hx:x=M[k]):(M.take k++G.drop k).set k x=M.take (k+1)++G.drop (k+1):=by
 subst hx;rw [List.drop_eq_getElem_cons h2,List.set_append_right _ _ (by simp; omega)];have e:k-(M.take k).length=0:=by simp; omega
 rw [e,List.set_cons_zero,List.take_succ_eq_append_getElem h1,List.append_assoc]
 rfl
theorem part_same {α:Type} {M G:List α} {k:Nat} (h1:k<M.length) (h2:k<G.length) (hx:M[k]=G[k]):M.take k++G.drop k=M.take (k+1)++G.drop (k+1):=by
 rw [List.drop_eq_getElem_cons h2,List.take_succ_eq_append_getElem h1,List.append_assoc,hx]
 rfl
theorem part_get {α:Type} {M G:List α} {k:Nat} (h1:k≤M.length) (h2:k<G.length):(M.take k++G.drop k)[k]? = some G[k]:=by
 rw [List.getElem?_append_right (by simp; omega)];have e:k-(M.take k).length=0:=by simp; omega
 rw [e]; simp [h2]
def fals:List Bool→Nat
 | []=>0
 | b::bs=>(if b then 0 else 1)+fals bs
theorem fals_set : ∀ {l:List Bool} {i:Nat},l[i]? = some false→fals (l.set i true)+1=fals l
 | [],i,h=>by simp at h
 | b::bs,0,h=>by
  have hb:b=false:=by simpa using h
  simp only [hb,List.set_cons_zero,fals]; simp; omega
 | b::bs,i+1,h=>by
  have:=fals_set (l:=bs) (i:=i) (by simpa using h);simp only [List.set_cons_succ,fals]; omega
structure GoneOk (M:List (List Nat)) (gone:List Bool):Prop where
 len:gone.length=M.length
 ends : ∀ i,gone[i]? = some true→Ends M i
def Shut (M:List (List Nat)) (gone:List Bool) (i:Nat):Prop:=(∀ k∈M.getD i [],gone.getD k false=true)→gone.getD i false=true
theorem shut_ends {M:List (List Nat)} {gone:List Bool} (h : ∀ i<M.length,Shut M gone i) (hr : ∀ r∈M, ∀ k∈r,k<M.length) {i:Nat} (he:Ends M i):i<M.length→gone.getD i false=true:=by
 induction he with
 | mk i _ ih =>
  intro hi;refine h i hi fun k hk=>ih k hk ?_
  have e:M.getD i []=M[i]:=by simp [hi]
  rw [e] at hk;exact hr _ (List.getElem_mem hi) k hk
end Ss
namespace Go.Vw
open Go.Proofs Go.RowKit
attribute [-simp] List.map_set
theorem doneB {S:Store} {l:List (Option (Nat × List V))} (hwf:S.Wf) (b:Bool) {p:Bool→Prop} (hp:p b):zO S.nx (fun r T => ∃ b,r = .bool b∧p b∧T=S) (.bool b) (St S [] l):=by
 obtain ⟨x,S',hg,h1,h2⟩:=ja (l:=l) (r := .bool b) hwf rfl rfl;exact ⟨x,S',hg,b,h1,hp,h2⟩
theorem any_take {α:Type} (p:α→Bool) {l:List α} {j:Nat} (h:j<l.length):(l.take (j+1)).any p=((l.take j).any p||p l[j]):=by
 rw [List.take_add_one,List.getElem?_eq_getElem h,List.any_append]; simp
theorem St_St0 {B:Store} {u:Upds} {l:List (Option (Nat × List V))} {d:Nat × List V}:St (St B u l) [] [some d]=(St B u l).add d:=by
 refine Store.ext' (funext fun o' => ?_) rfl;rw [qD,WD]
 by_cases h:o'<(St B u l).nx
 ·rw [if_pos h,if_neg (by omega)];simp only [uGet]
 ·rw [if_neg h]
  by_cases e:o'=(St B u l).nx
  ·subst e;rw [if_pos rfl]; simp
  ·rw [if_neg e,qD];have hnx:(St B u l).nx=B.nx+l.length:=by rw [jP]; rfl
   rw [if_neg (by omega),List.getElem?_eq_none (l:=l) (by omega),List.getElem?_eq_none (by rw [List.length_singleton]; omega)]
theorem circles_v (f:Ss.Fn) (hf:f.Fits) (hs:f.small=true) (G:List (List Nat)) (hG:(Ss.succs f.blocks).map (vl vint)=G.map (vl vnat)) (hrow : ∀ r∈G,r.length<2^62 ∧ ∀ k∈r,k<G.length) (S:Store) :
  VCalls Tryz.prog 45 [jJ f] S (fun r T => ∃ b,r = .bool b∧(b=false ↔ ∀ i<G.length,Ss.Ends (Ss.msk f.blocks G) i)∧T=S):=by
 have hso:=fun S=>RSuccO_v S f hf hs
 have hGl:G.length=f.blocks.length:=by have:=congrArg List.length hG; simpa [Ss.succs] using this.symm
 obtain ⟨_,hbl,hbf,_⟩:=zk hs;have htv : ∀ (k:Nat) (h:k<f.blocks.length),VPure Tryz.prog 77 [je f.blocks[k]] (.bool (Ss.tickB f.blocks[k])):=fun k h=>ticks_v _ (by have:=(hbf _ (List.getElem_mem h)).2.2; omega)
 rw [hG] at hso;obtain ⟨⟨fi,fo⟩,ts,bs⟩:=f;simp only at hGl hbl hso htv ⊢;obtain ⟨M,hM⟩ : ∃ M,Ss.msk bs G=M:=⟨_,rfl⟩
 have hMl:M.length=bs.length:=by rw [←hM]; exact Ss.msk_len hGl
 have hMk : ∀ (k:Nat) (h1:k<bs.length) (h2:k<G.length) (h3:k<M.length),M[k]=if Ss.tickB bs[k] then [] else G[k]:=fun k h1 h2 h3=>by simp [←hM,Ss.msk]
 rw [hM];clear hG;refine QB (c:=jc Tryz.f45) Tryz.func45 Tryz.ntmps45 fun hwf=>?_
 repeat first|refine QG ?_|refine QY ?_
 refine QT ?_;refine QP ?_;refine jO (xs:=[.agg [vl vint fi,vl vint fo,vl vint ts,vl je bs]]) rfl (hso _) ?_;rintro X S' ⟨rfl,rfl⟩;rw [St_St0,jaD,jP,lid_lid];simp only [List.cons_append,List.nil_append,List.length_cons,List.length_nil,Nat.zero_add,Nat.add_zero];refine QW ?_
 repeat first|refine QG ?_|refine QY ?_
 refine QT ?_;refine jd [1,3,4] rfl (fun c σ S' => ∃ (k:Nat),k≤bs.length∧c=bs.length-k∧σ=[(1, .ptr (lid S.nx 0) 0),(3, .slice (lid S.nx 1) 0 bs.length),(4,vnat k)]∧S'=St S [] [some (4,[vl vint fi,vl vint fo,vl vint ts,vl je bs]),some (1,(M.take k++G.drop k).map (vl vnat))]) bs.length ?_ ?_
 ·exact ⟨0,by omega,rfl,by simp [Fr.only],by simp⟩
 ·rintro c σ T ⟨k,hk,rfl,rfl,rfl⟩
  by_cases hkt:k<bs.length
  ·have hw:=jh hkt (by omega);have hkG:k<G.length:=by omega
   have hkM:k<M.length:=by omega
   have h1:=hMk k hkt hkG hkM;have hget:=Ss.part_get (M:=M) (G:=G) (k:=k) (by omega) hkG;have hset:=Ss.part_set (M:=M) (G:=G) hkM hkG;have hsame:=Ss.part_same (M:=M) (G:=G) hkM hkG;have hRl:(M.take k++G.drop k).length=bs.length:=by simp; omega
   generalize M.take k++G.drop k=R at *
   have ct:=htv k hkt;obtain ⟨⟨ps,code,⟨tk,ta,to,az⟩⟩,hx⟩ : ∃ b,bs[k]=b:=⟨_,rfl⟩
   rw [hx] at ct h1;generalize Ss.tickB ⟨ps,code,⟨tk,ta,to,az⟩⟩=tb at *
   have ct':VPure Tryz.prog 77 [.agg [vl vint ps,vl jp code, .int .i64 tk, .int .i64 ta,vl ji to,vl vint az]] (.bool tb):=ct
   repeat first|refine QG ?_|refine QY ?_ (r:=by conv=>lhs;simp[QV,hkt,hx])
   refine QT ?_;refine QP ?_ (r:=by conv=>lhs;simp[QV,hkt,hx]);refine QL (ct') ?_
   by_cases htb:tb=true
   ·rw [htb,if_pos rfl] at h1;have hs:=hset [] h1.symm;refine QM (by conv=>lhs;simp[QV,htb]) ?_;refine QN ?_;refine QT ?_;refine jI rfl rfl rfl ?_;refine QT ?_;refine QY ?_ (r:=by conv=>lhs;simp[QV,hkt,hRl])
    apply jF
    ·exact Reach.nilCell (k:=1) (i:=k) (by simp) (by rfl) (by simp [hkt,hRl])
    simp only [List.set_cons_succ,List.set_cons_zero]
    repeat first|refine QG ?_|refine QY ?_ (r:=by conv=>lhs;simp[QV,hw])
    show jy _ _ _ _ _ _ _;exact again ⟨by omega,k+1,by omega,rfl,by simp [Fr.only],by rw [←hs,List.map_set]; rfl⟩
   ·rw [if_neg htb] at h1;have hs:=hsame h1;have htb':tb=false:=by simpa using htb
    refine QM (by conv=>lhs;simp[QV,htb']) ?_;refine QN ?_
    repeat first|refine QG ?_|refine QY ?_ (r:=by conv=>lhs;simp[QV,hw])
    show jy _ _ _ _ _ _ _;exact again ⟨by omega,k+1,by omega,rfl,by simp [Fr.only],by rw [hs]⟩
  ·have hke:k=bs.length:=by omega
   subst hke;have hMt:M.take bs.length++G.drop bs.length=M:=by rw [←hMl,List.take_length,hMl, ←hGl,List.drop_length,List.append_nil]
   rw [hMt];have hMr : ∀ r∈M,r.length<2^62 ∧ ∀ k∈r,k<M.length:=fun r hr=>by
    obtain ⟨j,hj,rfl⟩:=List.getElem_of_mem hr;rw [hMk j (by omega) (by omega) hj];split
    ·simp
    ·have:=hrow _ (List.getElem_mem (show j<G.length by omega));exact ⟨this.1,fun k hk=>by have:=this.2 k hk; omega⟩
   rw [show G.length=M.length by omega];have hnl:bs.length<2^62:=by omega
   have hb1:bs.length*1≤140737488355328:=by omega
   have hb2:bs.length≤140737488355328:=by omega
   have hrep:rep0 [V.bool false] bs.length=(List.replicate bs.length false).map V.bool:=by simp [jbR]
   repeat first|refine QG ?_|refine QY ?_ (r:=by conv=>lhs;simp[QV,hkt,hb1,hb2,hrep])
   refine QT ?_;refine jd [3,5,6] rfl (fun c σ S' => ∃ (gone:List Bool) (t:Bool),c=2*Ss.fals gone+(if t then 1 else 0)∧Ss.GoneOk M gone∧(t=false → ∀ i<M.length,Ss.Shut M gone i)∧σ=[(3, .slice (lid S.nx 1) 0 bs.length),(5, .slice (lid S.nx 2) 0 bs.length),(6, .bool t)]∧S'=St S [] [some (4,[vl vint fi,vl vint fo,vl vint ts,vl je bs]),some (1,M.map (vl vnat)),some (1,gone.map V.bool)]) (2*Ss.fals (List.replicate bs.length false)+1) ?_ ?_
   ·exact ⟨List.replicate bs.length false,true,rfl,⟨by simp [hMl],fun i h=>by simp [List.getElem?_replicate] at h⟩,(fun h=>by cases h),by simp [Fr.only],by simp⟩
   ·rintro c σ T ⟨gone,t,rfl,hok,hsh,rfl,rfl⟩;have hgl:gone.length=bs.length:=by rw [hok.len,hMl]
    by_cases ht:t=true
    ·subst ht
     repeat first|refine QG ?_|refine QY ?_
     refine QT ?_;refine jd [3,5,6,7] rfl (fun c σ S' => ∃ (k:Nat) (g:List Bool) (t:Bool),k≤bs.length∧c=bs.length-k∧Ss.GoneOk M g∧(t=true→Ss.fals g<Ss.fals gone)∧(t=false→g=gone ∧ ∀ i<k,Ss.Shut M gone i)∧σ=[(3, .slice (lid S.nx 1) 0 bs.length),(5, .slice (lid S.nx 2) 0 bs.length),(6, .bool t),(7,vnat k)]∧S'=St S [] [some (4,[vl vint fi,vl vint fo,vl vint ts,vl je bs]),some (1,M.map (vl vnat)),some (1,g.map V.bool)]) bs.length ?_ ?_
     ·exact ⟨0,gone,false,by omega,rfl,hok,(fun h=>by cases h),fun _=>⟨rfl,fun i hi=>by omega⟩,by simp [Fr.only],rfl⟩
     ·rintro c σ T ⟨k,g,t,hk,rfl,hokg,hlt,heq,rfl,rfl⟩;have hgl:g.length=bs.length:=by rw [hokg.len,hMl]
      by_cases hkt:k<bs.length
      ·have hkM:k<M.length:=by omega
       have hw:=jh hkt (by omega);obtain ⟨row,hrow'⟩ : ∃ r,M[k]=r:=⟨_,rfl⟩
       have hrd:M.getD k []=row:=by simp [hkM,hrow']
       obtain ⟨hrl,hrk⟩:=hMr _ (List.getElem_mem hkM);rw [hrow'] at hrl hrk;obtain ⟨P,hP⟩ : ∃ P:Nat→Bool,(fun x => !g.getD x false)=P:=⟨_,rfl⟩
       have hPx : ∀ x,P x = !g.getD x false:=fun x=>by rw [←hP]
       repeat first|refine QG ?_|refine QY ?_ (r:=by conv=>lhs;simp[QV,hkt,hkM,hrow'])
       refine QT ?_;refine jd [3,5,6,7,8,9] rfl (fun c σ S' => ∃ (j:Nat) (s:Bool),j≤row.length∧c=row.length-j∧s=(row.take j).any P∧σ=[(3, .slice (lid S.nx 1) 0 bs.length),(5, .slice (lid S.nx 2) 0 bs.length),(6, .bool t),(7,vnat k),(8, .bool s),(9,vnat j)]∧S'=St S [] [some (4,[vl vint fi,vl vint fo,vl vint ts,vl je bs]),some (1,M.map (vl vnat)),some (1,g.map V.bool)]) row.length ?_ ?_
       ·exact ⟨0,false,by omega,rfl,by simp,by simp [Fr.only],rfl⟩
       ·rintro c σ T ⟨j,s,hj,rfl,hs,rfl,rfl⟩
        by_cases hjt:j<row.length
        ·have hwj:=jh hjt (by omega);have hst:=any_take P hjt;have hxl:=hrk _ (List.getElem_mem hjt);obtain ⟨x,hx⟩ : ∃ x,row[j]=x:=⟨_,rfl⟩
         rw [hx] at hst hxl;have hxg:x<g.length:=by omega
         have hxb:x<bs.length:=by omega
         obtain ⟨y,hy⟩ : ∃ y,g[x]=y:=⟨_,rfl⟩
         have hyd:P x = !y:=by rw [hPx]; simp [hxg,hy]
         rw [hyd, ←hs] at hst
         by_cases h1:s=true
         ·rw [h1,Bool.true_or] at hst
          repeat first|refine QG ?_|refine QY ?_ (r:=by conv=>lhs;simp[QV,hkt,hkM,hrow',hjt,h1,hwj])
          show jy _ _ _ _ _ _ _;exact again ⟨by omega,j+1,true,by omega,rfl,hst.symm,by simp [Fr.only],rfl⟩
         ·have h1':s=false:=by simpa using h1
          rw [h1',Bool.false_or] at hst
          repeat first|refine QG ?_|refine QY ?_ (r:=by conv=>lhs;simp[QV,hkt,hkM,hrow',hjt,h1',hx,hxg,hxb,hy,hwj])
          show jy _ _ _ _ _ _ _;exact again ⟨by omega,j+1, !y,by omega,rfl,hst.symm,by simp [Fr.only],rfl⟩
        ·have hje:j=row.length:=by omega
         subst hje;rw [List.take_length] at hs;have hkg:k<g.length:=by omega
         obtain ⟨y,hy⟩ : ∃ y,g[k]=y:=⟨_,rfl⟩
         have hyd:g.getD k false=y:=by simp [hkg,hy]
         by_cases h1:s=true
         ·have hsk:Ss.Shut M g k:=fun h=>by
           rw [hrd] at h;rw [h1] at hs;obtain ⟨x,hx1,hx2⟩:=List.any_eq_true.1 hs.symm;rw [hPx,h x hx1] at hx2
           cases hx2
          have heq':t=false→g=gone ∧ ∀ i<k+1,Ss.Shut M gone i:=fun h=>by
           obtain ⟨h2,h3⟩:=heq h;refine ⟨h2,fun i hi => ?_⟩;rcases Nat.lt_succ_iff_lt_or_eq.1 hi with h4 | h4
           ·exact h3 i h4
           ·rw [h4, ←h2]; exact hsk
          repeat first|refine QG ?_|refine QY ?_ (r:=by conv=>lhs;simp[QV,hkt,hkM,hrow',hjt,h1,hw])
          show jy _ _ _ _ _ _ _;exact again ⟨by omega,k+1,g,t,by omega,rfl,hokg,hlt,heq',by simp [Fr.only],rfl⟩
         have h1':s=false:=by simpa using h1
         have hall : ∀ x∈row,g.getD x false=true:=fun x hx=>by
          rw [h1'] at hs;have:=List.any_eq_false.1 hs.symm x hx;rw [hPx] at this;simpa using this
         by_cases h2:y=true
         ·have hsk:Ss.Shut M g k:=fun _=>by rw [hyd]; exact h2
          have heq':t=false→g=gone ∧ ∀ i<k+1,Ss.Shut M gone i:=fun h=>by
           obtain ⟨h2,h3⟩:=heq h;refine ⟨h2,fun i hi => ?_⟩;rcases Nat.lt_succ_iff_lt_or_eq.1 hi with h4 | h4
           ·exact h3 i h4
           ·rw [h4, ←h2]; exact hsk
          repeat first|refine QG ?_|refine QY ?_ (r:=by conv=>lhs;simp[QV,hkt,hkM,hrow',hjt,h1',hkg,hy,h2,hw])
          show jy _ _ _ _ _ _ _;exact again ⟨by omega,k+1,g,t,by omega,rfl,hokg,hlt,heq',by simp [Fr.only],rfl⟩
         ·have h2':y=false:=by simpa using h2
          have hf:=Ss.fals_set (l:=g) (i:=k) (by rw [List.getElem?_eq_getElem hkg,hy,h2']);have hok':Ss.GoneOk M (g.set k true):=⟨by rw [List.length_set]; exact hokg.len,fun i hi=>by
           by_cases hik:i=k
           ·subst hik;refine Ss.Ends.mk i fun x hx => ?_
            rw [hrd] at hx;have h4:=hall x hx;have hxg:x<g.length:=by have:=hrk x hx; omega
            exact hokg.ends x (by rw [List.getElem?_eq_getElem hxg]; simpa [hxg] using h4)
           ·rw [List.getElem?_set_ne (fun h=>hik h.symm)] at hi;exact hokg.ends i hi⟩
          have hlt':true=true→Ss.fals (g.set k true)<Ss.fals gone:=fun _=>by
           cases t with
           | true=>have:=hlt rfl; omega
           | false=>obtain ⟨rfl,_⟩:=heq rfl; omega
          repeat first|refine QG ?_|refine QY ?_ (r:=by conv=>lhs;simp[QV,hkt,hkM,hrow',hjt,h1',hkg,hy,h2',hw])
          show jy _ _ _ _ _ _ _;exact again ⟨by omega,k+1,g.set k true,true,by omega,rfl,hok',hlt',(fun h=>by cases h),by simp [Fr.only],by simp⟩
      ·have hke:k=bs.length:=by omega
       subst hke
       repeat first|refine QG ?_|refine QY ?_ (r:=by conv=>lhs;simp[QV,hkt])
       show jy _ _ _ _ _ _ _;exact again ⟨by cases t with | true=>(have:=hlt rfl; simp; omega) | false=>(obtain ⟨rfl,_⟩:=heq rfl; simp),g,t,rfl,hokg,(fun h=>by obtain ⟨rfl,h2⟩:=heq h; rw [hMl]; exact h2),by simp [Fr.only],rfl⟩
    ·have ht':t=false:=by simpa using ht
     subst ht';have hsh':=hsh rfl
     repeat first|refine QG ?_|refine QY ?_
     refine QT ?_;refine jd [3,5,10] rfl (fun c σ S' => ∃ (k:Nat),k≤bs.length∧c=bs.length-k∧(∀ i<k,gone.getD i false=true)∧σ=[(3, .slice (lid S.nx 1) 0 bs.length),(5, .slice (lid S.nx 2) 0 bs.length),(10,vnat k)]∧S'=St S [] [some (4,[vl vint fi,vl vint fo,vl vint ts,vl je bs]),some (1,M.map (vl vnat)),some (1,gone.map V.bool)]) bs.length ?_ ?_
     ·exact ⟨0,by omega,rfl,fun i hi=>by omega,by simp [Fr.only],rfl⟩
     ·rintro c σ T ⟨k,hk,rfl,hall,rfl,rfl⟩
      by_cases hkt:k<bs.length
      ·have hkg:k<gone.length:=by omega
       have hw:=jh hkt (by omega);obtain ⟨y,hy⟩ : ∃ y,gone[k]=y:=⟨_,rfl⟩
       have hyd:gone.getD k false=y:=by simp [hkg,hy]
       by_cases h1:y=true
       ·have hall' : ∀ i<k+1,gone.getD i false=true:=by
         intro i hi;rcases Nat.lt_succ_iff_lt_or_eq.1 hi with h | h
         ·exact hall i h
         ·rw [h,hyd]; exact h1
        repeat first|refine QG ?_|refine QY ?_ (r:=by conv=>lhs;simp[QV,hkt,hkg,hy,h1,hw])
        show jy _ _ _ _ _ _ _;exact again ⟨by omega,k+1,by omega,rfl,hall',by simp [Fr.only],rfl⟩
       ·have h1':y=false:=by simpa using h1
        have hno : ¬ ∀ i<M.length,Ss.Ends M i:=fun h=>by
         have:=Ss.shut_ends hsh' (fun r hr=>(hMr r hr).2) (h k (by omega)) (by omega);rw [hyd] at this;exact h1 this
        repeat first|refine QG ?_|refine QY ?_ (r:=by conv=>lhs;simp[QV,hkt,hkg,hy,h1'])
        exact doneB hwf true ⟨(fun h=>by cases h),fun h=>absurd h hno⟩
      ·have hke:k=bs.length:=by omega
       subst hke;have hyes : ∀ i<M.length,Ss.Ends M i:=fun i hi=>hok.ends i (by
        have h1:=hall i (by omega);have hig:i<gone.length:=by omega
        simp only [List.getD_eq_getElem?_getD,List.getElem?_eq_getElem hig,Option.getD_some] at h1;rw [List.getElem?_eq_getElem hig,h1])
       repeat first|refine QG ?_|refine QY ?_ (r:=by conv=>lhs;simp[QV,hkt])
       exact doneB hwf false ⟨fun _=>hyes,fun _=>rfl⟩
open Classical in
noncomputable def _root_.Ss.circ (M:List (List Nat)):Bool:=decide (¬ ∀ i<M.length,Ss.Ends M i)
open Classical in
theorem circlesP_v (f:Ss.Fn) (hf:f.Fits) (hs:f.small=true) (G:List (List Nat)) (hG:(Ss.succs f.blocks).map (vl vint)=G.map (vl vnat)) (hrow : ∀ r∈G,r.length<2^62 ∧ ∀ k∈r,k<G.length) :
  VPure Tryz.prog 45 [jJ f] (.bool (Ss.circ (Ss.msk f.blocks G))):=fun S=>by
 have hGl:G.length=f.blocks.length:=by have:=congrArg List.length hG; simpa [Ss.succs] using this.symm
 refine (circles_v f hf hs G hG hrow S).mono ?_;rintro r T ⟨b,rfl,hb,rfl⟩;refine ⟨?_,rfl⟩
 congr 1
 have e:(Ss.msk f.blocks G).length=G.length:=by rw [Ss.msk_len hGl,hGl]
 unfold Ss.circ;rw [e]
 cases b with
 | false =>
  have h1:=hb.1 rfl;exact (decide_eq_false (p := ¬ _) (not_not_intro h1)).symm
 | true =>
  have h1 : ¬ ∀ i<G.length,Ss.Ends (Ss.msk f.blocks G) i:=fun h=>by have:=hb.2 h; cases this
  exact (decide_eq_true (p := ¬ _) h1).symm
end Go.Vw
namespace Ss
def rcheckCode (e:Env) (f:Fn) (ds:List Def) (near:List Int) (i:Int):Nat→List Ins→Bool
 | _,[]=>true
 | k,x::r=>rinsOk e f ds near i k x&&rcheckCode e f ds near i (k+1) r
def rcheckBlock (e:Env) (f:Fn) (ds:List Def) (near:List Int) (i:Int) (b:Block):Bool :=
 rcheckCode e f ds near i 0 b.code&&(rtermOk f ds near i b.code.length b.term&&b.term.to.all (redgeOk f ds near i b.code.length))
def rcheckBlocks (e:Env) (f:Fn) (ds:List Def) (near:List Int):Nat→List Block→Bool
 | _,[]=>true
 | i,b::bs=>rcheckBlock e f ds near i b&&rcheckBlocks e f ds near (i+1) bs
def firstTick:List Ins→Bool
 | []=>false
 | x::_=>decide (x.op=258)
noncomputable def rshape (f:Fn):Bool:=decide (typesOf f.types (f.blocks.getD 0 default).params=f.sig.inn)&&(firstTick (f.blocks.getD 0 default).code && !circ (msk f.blocks (Go.Vw.G.nats (succs f.blocks))))
noncomputable def rcheck (e:Env) (f:Fn):Bool:=checkHead e f&&decide (1≤f.blocks.length)&&match defsOf f with
 | none=>false
 | some ds=>Go.Vw.G.right (succs f.blocks)&&((Go.Vw.G.without (Go.Vw.G.nats (succs f.blocks)) none).all id&&(rshape f&&rcheckBlocks e f ds (Go.Vw.G.nearI (succs f.blocks)) 0 f.blocks))
end Ss
namespace Go.Vw
open Go.Proofs Go.RowKit
theorem RNearI_v (g:List (List Int)) (hl:g.length<2^63) (h : ∀ l∈g,l.length<2^63) (hr:G.right g=true):VPure Tryz.prog 25 [vl (vl vint) g] (.tuple [vl vint (G.nearI g),vint 0]):=by
 have h1:VPure Tryz.prog 42 [vl (vl vnat) (G.nats g)] (.bool true):=by
  have:=RRight_v g hl h;rw [hr,G.right_enc hr] at this;exact this
 have:=RNearest_v _ (G.right_ok hr) h1;rw [←G.right_enc hr] at this;simp only [G.nearI,hr,if_true];exact this
theorem WithoutI_v (g:List (List Int)) (hr:G.right g=true):VPure Tryz.prog 43 [vl (vl vint) g,vint (-1)] (vl V.bool (G.without (G.nats g) none)):=by
 have:=jaB _ (G.right_ok hr) none (fun _ h=>by cases h);rw [←G.right_enc hr] at this;exact this
end Go.Vw
namespace Ss
theorem put_nn {block pos:Int} (h0:0≤block) : ∀ {l:List Int} {ds d:List Def},put block pos ds l=some d→(∀ x∈ds,x.made=true→0≤x.block) → ∀ x∈d,x.made=true→0≤x.block
 | [],ds,d,h,hn=>by simp only [put,Option.some.injEq] at h; rw [←h]; exact hn
 | v::l,ds,d,h,hn=>by
  simp only [put] at h;split at h
  ·cases h
  ·exact put_nn h0 h fun x hx hm=>(List.mem_or_eq_of_mem_set hx).elim (fun h=>hn x h hm) (fun h=>by rw [h]; exact h0)
theorem jbf {i:Int} (h0:0≤i) : ∀ {l:List Ins} {k:Nat} {ds d:List Def},putCode i k ds l=some d→(∀ x∈ds,x.made=true→0≤x.block) → ∀ x∈d,x.made=true→0≤x.block
 | [],k,ds,d,h,hn=>by simp only [putCode,Option.some.injEq] at h; rw [←h]; exact hn
 | x::r,k,ds,d,h,hn=>by
  simp only [putCode,Option.bind_eq_some_iff] at h;obtain ⟨d1,h1,h2⟩:=h;exact jbf h0 h2 (put_nn h0 h1 hn)
theorem Yw : ∀ {bs:List Block} {i:Nat} {ds d:List Def},putBlocks i ds bs=some d→(∀ x∈ds,x.made=true→0≤x.block) → ∀ x∈d,x.made=true→0≤x.block
 | [],i,ds,d,h,hn=>by simp only [putBlocks,Option.some.injEq] at h; rw [←h]; exact hn
 | b::bs,i,ds,d,h,hn=>by
  simp only [putBlocks,Option.bind_eq_some_iff] at h;obtain ⟨d2,⟨d1,h1,h2⟩,h3⟩:=h;exact Yw h3 (jbf (by omega) h2 (put_nn (by omega) h1 hn))
theorem defs_nn {f:Fn} {ds:List Def} (h:defsOf f=some ds) : ∀ x∈ds,x.made=true→0≤x.block :=
 Yw h fun x hx hm=>by
  obtain ⟨_,rfl⟩:=List.mem_replicate.1 hx
  cases hm
end Ss
namespace Go.Vw
end Go.Vw
