import Derived.Test.YtkfllaokjaldnaaGreatC17
import Derived.Test.YtkfllaokjaldnaaGreatC13
import Derived.Test.YtkfllaokjaldnaaGreatC8
import Derived.Test.YtkfllaokjaldnaaGreatC7
import Derived.Test.YtkfllaokjaldnaaGreatC12
import Derived.Test.YtkfllaokjaldnaaGreatC14
import Derived.Test.YtkfllaokjaldnaaGreatProg
import Derived.Test.YtkfllaokjaldnaaGreatC10
import Derived.Test.YtkfllaokjaldnaaGreatC11
/- Part of the proof. -/
set_option linter.unusedVariables false
set_option linter.unusedSimpArgs false
set_option maxRecDepth 10000
set_option maxHeartbeats 8000000
namespace Ss
def rtermOk (f:Fn) (ds:List Def) (near:List Int) (i pos:Int) (t:Term):Bool :=
 if t.kind=2 then asks f.types ds near i pos [t.arg] [127]&&(decide (t.args.length=0)&&decide (t.to.length=2))
 else if t.kind=3 then asks f.types ds near i pos [t.arg] [127]&&(decide (t.args.length=0)&&(decide (1≤t.to.length)&&decide (t.to.length≤65)))
 else decide (t.arg=0)&&(if t.kind=4 then decide (t.to.length=0)&&asks f.types ds near i pos t.args f.sig.out
  else decide (t.args.length=0)&&(if t.kind=1 then decide (t.to.length=1) else decide (t.kind=5)&&decide (t.to.length=0)))
def redgeOk (f:Fn) (ds:List Def) (near:List Int) (i pos:Int) (x:Edge):Bool :=
 decide (1≤x.to)&&asks f.types ds near i pos x.args (typesOf f.types (f.blocks.getD x.to.toNat default).params)
end Ss
namespace Go.Vw
open Go.Proofs Go.RowKit
attribute [-simp] List.map_set
theorem rterm_v (e:Ss.Env) (f:Ss.Fn) (ds:List Ss.Def) (near:List Int) (i:Nat) (b:Ss.Block) (hds:ds.length=f.types.length) (htl:f.types.length<2^63) (hnl:near.length<2^63) (hnn : ∀ x∈ds,x.made=true→0≤x.block) (hi:f.blocks[i]? = some b) (hb:b.Fits) :
  VPure Tryz.prog 51 [ckR e f ds near,vnat i] (.bool (Ss.rtermOk f ds near i b.code.length b.term)):=by
 intro S;obtain ⟨_,⟨hcl,_⟩,_,_,⟨htol,htf⟩,⟨haz,_⟩⟩:=hb;have ca : ∀ l m:List Int,l.length<2^63→VPure Tryz.prog 89 [ckR e f ds near,vl vint l,vl vint m,vnat i,vnat b.code.length] (.bool (Ss.asks f.types ds near i b.code.length l m)):=fun l m hl=>jcc e f ds near i b.code.length l m hds htl hnl hl hnn
 obtain ⟨ps,code,⟨tk,ta,to,az⟩⟩:=b;simp only at hcl htol htf haz ca;obtain ⟨⟨fi,fo⟩,ts,bs⟩:=f;simp only at *
 have c1:=ca [ta] [127] (by simp);have c2:=ca az fo (by omega);obtain ⟨hi1,hi2⟩:=List.getElem?_eq_some_iff.1 hi;have hX:Ss.rtermOk ⟨⟨fi,fo⟩,ts,bs⟩ ds near i code.length ⟨tk,ta,to,az⟩=if tk=2 then Ss.asks ts ds near i code.length [ta] [127]&&(decide (az.length=0)&&decide (to.length=2))
  else if tk=3 then Ss.asks ts ds near i code.length [ta] [127]&&(decide (az.length=0)&&(decide (1≤to.length)&&decide (to.length≤65)))
  else decide (ta=0)&&(if tk=4 then decide (to.length=0)&&Ss.asks ts ds near i code.length az fo
   else decide (az.length=0)&&(if tk=1 then decide (to.length=1) else decide (tk=5)&&decide (to.length=0))):=rfl
 rw [hX];clear hX;generalize Ss.asks ts ds near i code.length [ta] [127]=A at *
 generalize Ss.asks ts ds near i code.length az fo=B at *
 refine QB (c:=jd Tryz.f51) Tryz.func51 Tryz.ntmps51 fun hwf=>?_
 repeat first|refine QG ?_|refine QY ?_ (r:=by conv=>lhs;simp[QV,hi1,hi2])
 refine QT ?_;refine QJ (St S [] [some (6,[vl vint ps,vl jg code, .int .i64 tk, .int .i64 ta,vl jf to,vl vint az])]) (St S [] [some (6,[vl vint ps,vl jg code, .int .i64 tk, .int .i64 ta,vl jf to,vl vint az])]) [] ?_ (r:=by conv=>lhs; simp [QV]);refine QI ?_;refine QZ ?_;refine QI ?_;refine QW ?_
 by_cases k2:tk=2
 ·rw [if_pos k2]
  repeat first|refine QG ?_|refine QY ?_ (r:=by conv=>lhs;simp[QV,k2])
  refine QT ?_;refine QP ?_;refine zr (xs':=[ckR e ⟨⟨fi,fo⟩,ts,bs⟩ ds near,vl vint [ta],vl vint [127],vnat i,vnat code.length]) rfl (GhostArgs.trans (GhostArgs.one [_] [_,_,_] (frz1 (k:=2) (len:=1) (by simp) (by rfl) (by rfl) (by rfl))) (GhostArgs.one [_,_] [_,_] (frz1 (k:=3) (len:=1) (by simp) (by rfl) (by rfl) (by rfl)))) c1 ?_;simp only [List.set_cons_succ,List.set_cons_zero]
  by_cases h2:A=true
  case neg =>
   have h2':A=false:=by simpa using h2
   refine QM (by conv=>lhs;simp[QV,h2']) ?_;refine QN ?_
   repeat first|refine QG ?_|refine QY ?_
   exact ja hwf (by simp [h2']) rfl
  by_cases h3:az.length=0
  case neg =>
   have h3':(0:Int)<(az.length:Int):=by omega
   have h3n:0<az.length:=by omega
   refine QM (by conv=>lhs;simp[QV,h2,k2,h3,h3',h3n]) ?_;refine QN ?_
   repeat first|refine QG ?_|refine QY ?_
   exact ja hwf (by simp [h3]) rfl
  have h3':az=[]:=List.eq_nil_of_length_eq_zero h3;subst h3';refine QM (by conv=>lhs;simp[QV,h2,k2]) ?_;refine QN ?_
  repeat first|refine QG ?_|refine QY ?_ (r:=by conv=>lhs;simp[QV,k2])
  exact ja hwf (by simp [h2]; try omega) rfl
 rw [if_neg k2]
 by_cases k3:tk=3
 ·rw [if_pos k3]
  repeat first|refine QG ?_|refine QY ?_ (r:=by conv=>lhs;simp[QV,k2,k3])
  refine QT ?_;refine QP ?_;refine zr (xs':=[ckR e ⟨⟨fi,fo⟩,ts,bs⟩ ds near,vl vint [ta],vl vint [127],vnat i,vnat code.length]) rfl (GhostArgs.trans (GhostArgs.one [_] [_,_,_] (frz1 (k:=2) (len:=1) (by simp) (by rfl) (by rfl) (by rfl))) (GhostArgs.one [_,_] [_,_] (frz1 (k:=3) (len:=1) (by simp) (by rfl) (by rfl) (by rfl)))) c1 ?_;simp only [List.set_cons_succ,List.set_cons_zero]
  by_cases h2:A=true
  case neg =>
   have h2':A=false:=by simpa using h2
   refine QM (by conv=>lhs;simp[QV,h2']) ?_;refine QN ?_
   repeat first|refine QG ?_|refine QY ?_
   exact ja hwf (by simp [h2']) rfl
  by_cases h3:az.length=0
  case neg =>
   have h3':(0:Int)<(az.length:Int):=by omega
   have h3n:0<az.length:=by omega
   refine QM (by conv=>lhs;simp[QV,h2,k2,k3,h3,h3',h3n]) ?_;refine QN ?_
   repeat first|refine QG ?_|refine QY ?_
   exact ja hwf (by simp [h3]) rfl
  have h3':az=[]:=List.eq_nil_of_length_eq_zero h3;subst h3';have k4 : ¬ tk=4:=by omega
  refine QM (by conv=>lhs;simp[QV,h2,k2,k3,k4]) ?_;refine QN ?_
  by_cases h5:(1:Int)≤(to.length:Int)
  case neg =>
   repeat first|refine QG ?_|refine QY ?_ (r:=by conv=>lhs;simp[QV,k2,k3,h5])
   exact ja hwf (by simp; omega) rfl
  have h6:decide (1≤to.length)=true:=decide_eq_true (by omega)
  repeat first|refine QG ?_|refine QY ?_ (r:=by conv=>lhs;simp[QV,k2,k3,h5])
  exact ja hwf (by rw [h6]; simp [h2]; try omega) rfl
 rw [if_neg k3]
 by_cases h1:ta=0
 case neg =>
  repeat first|refine QG ?_|refine QY ?_ (r:=by conv=>lhs;simp[QV,k2,k3,h1])
  exact ja hwf (by simp [h1]) rfl
 by_cases k4:tk=4
 ·rw [if_pos k4]
  by_cases h5:to.length=0
  case neg =>
   have h5' : ¬ (to.length:Int)=0:=by omega
   have k1 : ¬ tk=1:=by omega
   repeat first|refine QG ?_|refine QY ?_ (r:=by conv=>lhs;simp[QV,k2,k3,h1,k4,k1,h5,h5'])
   exact ja hwf (by simp [h5]) rfl
  have h5':(to.length:Int)=0:=by omega
  have k1 : ¬ tk=1:=by omega
  obtain rfl:to=[]:=List.eq_nil_of_length_eq_zero h5
  repeat first|refine QG ?_|refine QY ?_ (r:=by conv=>lhs;simp[QV,k2,k3,h1,k4,k1])
  refine QT ?_;refine QD (r:=by conv=>lhs;simp[QV]) (k:=?_);refine QL (c2) ?_;refine QW ?_
  repeat first|refine QG ?_|refine QY ?_
  exact ja hwf (by simp [h1]) rfl
 rw [if_neg k4]
 by_cases h3:az.length=0
 case neg =>
  have h3':(0:Int)<(az.length:Int):=by omega
  have h3n:0<az.length:=by omega
  repeat first|refine QG ?_|refine QY ?_ (r:=by conv=>lhs;simp[QV,k2,k3,h1,k4,h3,h3',h3n])
  exact ja hwf (by simp [h3]) rfl
 have h3':az=[]:=List.eq_nil_of_length_eq_zero h3;subst h3'
 by_cases k1:tk=1
 ·repeat first|refine QG ?_|refine QY ?_ (r:=by conv=>lhs;simp[QV,k2,k3,h1,k4,k1])
  exact ja hwf (by simp [h1,k1]; try omega) rfl
 by_cases k5:tk=5
 ·repeat first|refine QG ?_|refine QY ?_ (r:=by conv=>lhs;simp[QV,k2,k3,h1,k4,k1,k5])
  exact ja hwf (by simp [h1,k1,k5]; try omega) rfl
 ·repeat first|refine QG ?_|refine QY ?_ (r:=by conv=>lhs;simp[QV,k2,k3,h1,k4,k1,k5])
  exact ja hwf (by simp [h1,k1,k5]; try omega) rfl
theorem redges_v (e:Ss.Env) (f:Ss.Fn) (ds:List Ss.Def) (near:List Int) (i:Nat) (b:Ss.Block) (hds:ds.length=f.types.length) (htl:f.types.length<2^63) (hnl:near.length<2^63) (hnn : ∀ x∈ds,x.made=true→0≤x.block) (hi:f.blocks[i]? = some b) (hb:b.Fits)
  (hbl:f.blocks.length<2^63) (hto : ∀ x∈b.term.to,0≤x.to∧x.to<f.blocks.length) (hps : ∀ b∈f.blocks,b.params.length≤1048576∧Ss.InTs f.types.length b.params) :
  VPure Tryz.prog 52 [ckR e f ds near,vnat i] (.bool (b.term.to.all (Ss.redgeOk f ds near i b.code.length))):=by
 intro S;obtain ⟨_,⟨hcl,_⟩,_,_,⟨htol,htf⟩,⟨haz,_⟩⟩:=hb;have ca : ∀ l m:List Int,l.length<2^63→VPure Tryz.prog 89 [ckR e f ds near,vl vint l,vl vint m,vnat i,vnat b.code.length] (.bool (Ss.asks f.types ds near i b.code.length l m)):=fun l m hl=>jcc e f ds near i b.code.length l m hds htl hnl hl hnn
 have ct : ∀ b∈f.blocks,VPure Tryz.prog 48 [ckR e f ds near,vl vint b.params] (vl vint (Ss.typesOf f.types b.params)):=fun b hb=>jcb e f ds near b.params (hps b hb).1 (hps b hb).2
 obtain ⟨ps,code,⟨tk,ta,to,az⟩⟩:=b;simp only at hcl htol htf haz hto ca;obtain ⟨hi1,hi2⟩:=List.getElem?_eq_some_iff.1 hi;have htl63:to.length<2^63:=by omega
 have hE : ∀ x:Ss.Edge,Ss.redgeOk f ds near i code.length x=(decide (1≤x.to)&&Ss.asks f.types ds near i code.length x.args (Ss.typesOf f.types (f.blocks.getD x.to.toNat default).params)):=fun x=>rfl
 obtain ⟨⟨fi,fo⟩,ts,bs⟩:=f;simp only at *
 generalize hP:Ss.redgeOk ⟨⟨fi,fo⟩,ts,bs⟩ ds near i code.length=P at *
 refine QB (c:=jd Tryz.f52) Tryz.func52 Tryz.ntmps52 fun hwf=>?_
 repeat first|refine QG ?_|refine QY ?_ (r:=by conv=>lhs;simp[QV,hi1,hi2])
 refine QT ?_;refine jc [0,1,5,6] rfl (fun c σ S' => ∃ (k:Nat),k≤to.length∧c=to.length-k∧(to.drop k).all P=to.all P∧σ=[(0,ckR e ⟨⟨fi,fo⟩,ts,bs⟩ ds near),(1,vnat i),(5, .ptr (lid S.nx 0) 0),(6,vnat k)]∧S'=St S [] [some (6,[vl vint ps,vl jg code,vint tk,vint ta,vl jf to,vl vint az])]) to.length ?_ ?_
 ·exact ⟨0,by omega,rfl,rfl,by simp [Fr.only],rfl⟩
 ·rintro c σ T ⟨k,hk,rfl,hd,rfl,rfl⟩
  by_cases hkt:k<to.length
  case neg =>
   repeat first|refine QG ?_|refine QY ?_ (r:=by conv=>lhs;simp[QV,hkt])
   rw [←hd,Ss.drop_all_end _ hkt];exact ja hwf rfl rfl
  have hw:=ji hkt htl63;have hst:=Ss.drop_all P hkt;obtain ⟨h0,h1⟩:=hto _ (List.getElem_mem hkt);have hxa:=(htf _ (List.getElem_mem hkt)).2.1;obtain ⟨⟨xt,xa⟩,hx⟩ : ∃ x,to[k]=x:=⟨_,rfl⟩
  rw [hx] at hst h0 h1 hxa;simp only at h0 h1 hxa;obtain ⟨n,rfl⟩ : ∃ n:Nat,xt=n:=⟨xt.toNat,by omega⟩
  have hn:n<bs.length:=by omega
  obtain ⟨⟨qs,qc,⟨qk,qa,qt,qz⟩⟩,hq⟩ : ∃ b,bs[n]=b:=⟨_,rfl⟩
  have hqg:bs.getD (n:Int).toNat default=⟨qs,qc,⟨qk,qa,qt,qz⟩⟩:=by simp [hn,hq]
  have hE':=hE ⟨(n:Int),xa⟩;rw [hqg] at hE';simp only at hE';rw [hE'] at hst
  by_cases h2:(n:Int)<1
  ·have h2' : ¬ (1:Int)≤(n:Int):=by omega
   rw [decide_eq_false h2',Bool.false_and,Bool.false_and,hd] at hst
   repeat first|refine QG ?_|refine QY ?_ (r:=by conv=>lhs;simp[QV,hkt,hx,h2])
   rw [hst];exact ja hwf rfl rfl
  have h2':(1:Int)≤(n:Int):=by omega
  rw [decide_eq_true h2',Bool.true_and] at hst;have c1:=ct _ (List.getElem_mem hn);rw [hq] at c1;simp only at c1;generalize Ss.typesOf ts qs=tq at *
  have c2:=ca xa tq (by omega);generalize Ss.asks ts ds near i code.length xa tq=B at *
  repeat first|refine QG ?_|refine QY ?_ (r:=by conv=>lhs;simp[QV,hkt,hx,h2,hn,hq])
  refine QT ?_;refine QD (r:=by conv=>lhs;simp[QV,h2,hn,hq]) (k:=?_);refine QL (c1) ?_;refine QZ ?_;refine QL (c2) ?_
  by_cases h3:B=true
  ·rw [h3,Bool.true_and,hd] at hst;refine QM (by conv=>lhs;simp[QV,h3]) ?_;refine QN ?_
   repeat first|refine QG ?_|refine QY ?_
   refine QA [0] (h:=⟨?_,k+1,hkt,rfl,hst.symm,by simp [hw],by simp⟩);omega
  ·have h3':B=false:=by simpa using h3
   rw [h3',Bool.false_and,hd] at hst;refine QM (by conv=>lhs;simp[QV,h3']) ?_;refine QN ?_
   repeat first|refine QG ?_|refine QY ?_
   rw [hst];exact ja hwf rfl rfl
theorem RSuccO_v (S:Store) (f:Ss.Fn) (hf:f.Fits) (hs:f.small=true):VCalls Tryz.prog 20 [ql f] S (fun r T=>r = .slice (lid S.nx 0) 0 f.blocks.length∧T=St S [] [some (1,(Ss.succs f.blocks).map (vl vint))]):=by
 have cs:=Ke f hf;have hsb := @jX f;obtain ⟨⟨fi,fo⟩,ts,bs⟩:=f;rw [hs] at cs;obtain ⟨sm,hsm⟩ : ∃ sm,sm=true:=⟨_,rfl⟩
 rw [←hsm] at cs;have cs':VPure Tryz.prog 35 [.agg [vl vint fi,vl vint fo,vl vint ts,vl jb bs]] (.bool sm):=cs;obtain ⟨_,hbl,hbf,_⟩:=hsb hs;simp only at hbl hbf ⊢;refine QB (c:=jd Tryz.f20) Tryz.func20 Tryz.ntmps20 fun hwf=>?_
 repeat first|refine QG ?_|refine QY ?_
 refine QT ?_;refine QP ?_;refine QL (cs') ?_;refine QM (by conv=>lhs;simp[QV,hsm]) ?_;refine QN ?_
 repeat first|refine QG ?_|refine QY ?_
 refine qW 3 1 rfl (by conv=>lhs; simp [Fr.set]) ?_;refine QT ?_;refine jc [1,3,4] rfl (fun c σ S' => ∃ (k:Nat) (out:List (List Int)),k≤bs.length∧c=bs.length-k∧out.length=k∧out=(bs.take k).map Ss.rowOf∧σ=[(1, .ptr (lid S.nx 0) 0),(3, .slice (lid S.nx 1) 0 k),(4,vnat k)]∧S'=St S [] [some (4,[vl vint fi,vl vint fo,vl vint ts,vl jb bs]),some (1,out.map (vl vint))]) bs.length ?_ ?_
 ·exact ⟨0,[],by omega,rfl,rfl,by simp,by simp [Fr.only],by simp⟩
 ·rintro c σ T ⟨k,out,hk,rfl,hol,ho,rfl,rfl⟩
  by_cases hkt:k<bs.length
  ·have hw:=ji hkt (by omega);obtain ⟨_,htl,_,_⟩:=hbf _ (List.getElem_mem hkt);obtain ⟨⟨ps,code,⟨tk,ta,to,az⟩⟩,hx⟩ : ∃ b,bs[k]=b:=⟨_,rfl⟩
   rw [hx] at htl;simp only at htl;have htk:bs.take (k+1)=bs.take k++[⟨ps,code,⟨tk,ta,to,az⟩⟩]:=by rw [List.take_add_one,List.getElem?_eq_getElem hkt,hx]; rfl
   repeat first|refine QG ?_|refine QY ?_ (r:=by conv=>lhs;simp[QV,hkt,hx])
   refine qW 5 1 rfl (by conv=>lhs; simp [Fr.set]) ?_;refine QT ?_;refine jc [1,3,4,5,6] rfl (fun c σ S' => ∃ (j:Nat) (r:List Int),j≤to.length∧c=to.length-j∧r.length=j∧r=(to.take j).map Ss.Edge.to∧σ=[(1, .ptr (lid S.nx 0) 0),(3, .slice (lid S.nx 1) 0 k),(4,vnat k),(5, .slice (lid S.nx 2) 0 j),(6,vnat j)]∧S'=St S [] [some (4,[vl vint fi,vl vint fo,vl vint ts,vl jb bs]),some (1,out.map (vl vint)),some (1,r.map vint)]) to.length ?_ ?_
   ·exact ⟨0,[],by omega,rfl,rfl,by simp,by simp [Fr.only],by simp⟩
   ·rintro c σ T ⟨j,r,hj,rfl,hrl,hr,rfl,rfl⟩
    by_cases hjt:j<to.length
    ·have hwj:=ji hjt (by omega);have hb:(j+1)*8≤140737488355328:=by omega
     have hb':j+1≤140737488355328:=by omega
     obtain ⟨⟨xt,xa⟩,hx2⟩ : ∃ b,to[j]=b:=⟨_,rfl⟩
     have htj:to.take (j+1)=to.take j++[⟨xt,xa⟩]:=by rw [List.take_add_one,List.getElem?_eq_getElem hjt,hx2]; rfl
     repeat first|refine QG ?_|refine QY ?_ (r:=by conv=>lhs;simp[QV,hkt,hx,hjt,hx2,hb,hb',hrl])
     refine QA [0,1,4] (h:=⟨?_,j+1,r++[xt],hjt,rfl,by simp [hrl],by rw [htj,List.map_append,hr]; rfl,by simp [hwj],by simp⟩);omega
    ·have hje:j=to.length:=by omega
     subst hje;rw [List.take_length] at hr;have hb:(k+1)*24≤140737488355328:=by omega
     have hb':k+1≤140737488355328:=by omega
     refine QT ?_;refine QY ?_ (r:=by conv=>lhs;simp[QV,hkt,hx,hjt]);refine QT ?_;refine jH rfl rfl rfl ?_;refine QT ?_;refine jQ 2 rfl rfl ?_;refine jx 5 rfl ((frz1 (k:=2) (len:=to.length) (by simp) (by rfl) (jF vint (fun _=>rfl) _) (by simpa using hrl))) (by conv=>lhs; simp [Fr.set]) ?_;simp only [List.set_cons_succ,List.set_cons_zero]
     repeat first|refine QG ?_|refine QY ?_ (r:=by conv=>lhs;simp[QV,hb,hb',hol])
     refine QA [0,4] (h:=⟨?_,k+1,out++[r],hkt,rfl,by simp [hol],by rw [htk,List.map_append, ←ho,hr]; rfl,by simp [hw],by simp [vl]⟩);omega
  ·have hke:k=bs.length:=by omega
   subst hke;rw [List.take_length] at ho;refine QT ?_;refine QY ?_ (r:=by conv=>lhs;simp[QV,hkt]);refine QT ?_;refine jH rfl rfl rfl ?_;refine QT ?_;refine jQ 0 rfl rfl ?_;refine QO [3] ?_;refine QK [1] ?_
   repeat first|refine QG ?_|refine QY ?_
   rw [Ss.succs, ←ho];exact qZ ⟨by simp,rfl⟩
theorem RSucc_v (f:Ss.Fn) (hf:f.Fits) (hs:f.small=true):VPure Tryz.prog 20 [ql f] (vl (vl vint) (Ss.succs f.blocks)):=by
 intro S;refine zG fun hwf=>qT ((RSuccO_v S f hf hs).mono ?_)
 rintro r T ⟨rfl,rfl⟩;exact jh hwf ((frz1 (k:=0) (cells:=(Ss.succs f.blocks).map (vl vint)) (by simp) (by rfl) (jF (vl vint) (fun _=>rfl) _) (by simp [Ss.succs])).toB _) rfl
theorem any_drop {α:Type} (p:α→Bool) {l:List α} {k:Nat} (h:k<l.length):(l.drop k).any p=(p l[k]||(l.drop (k+1)).any p):=by
 rw [List.drop_eq_getElem_cons h,List.any_cons]
theorem any_drop_end {α:Type} (p:α→Bool) {l:List α} {k:Nat} (h : ¬ k<l.length):(l.drop k).any p=false:=by
 have:l.drop k=[]:=by rw [List.drop_eq_nil_iff]; omega
 rw [this]; rfl
theorem ticks_v (b:Ss.Block) (hb:b.code.length<2^63):VPure Tryz.prog 87 [jb b] (.bool (Ss.tickB b)):=by
 intro S;obtain ⟨ps,code,⟨tk,ta,to,az⟩⟩:=b;simp only at hb;have hX:Ss.tickB ⟨ps,code,⟨tk,ta,to,az⟩⟩=code.any fun x=>decide (x.op=258):=rfl
 rw [hX];generalize hP:(fun x:Ss.Ins=>decide (x.op=258))=P;refine QB (c:=jd Tryz.f87) Tryz.func87 Tryz.ntmps87 fun hwf=>?_
 repeat first|refine QG ?_|refine QY ?_
 refine QT ?_;refine jc [1,3] rfl (fun c σ S' => ∃ (k:Nat),k≤code.length∧c=code.length-k∧(code.drop k).any P=code.any P∧σ=[(1, .ptr (lid S.nx 0) 0),(3,vnat k)]∧S'=St S [] [some (6,[vl vint ps,vl jg code,vint tk,vint ta,vl jf to,vl vint az])]) code.length ?_ ?_
 ·exact ⟨0,by omega,rfl,rfl,by simp [Fr.only],rfl⟩
 ·rintro c σ T ⟨k,hk,rfl,hd,rfl,rfl⟩
  by_cases hkt:k<code.length
  ·have hst:=any_drop P hkt;have hw:=ji hkt hb;obtain ⟨⟨o,n,a,u⟩,hx⟩ : ∃ x,code[k]=x:=⟨_,rfl⟩
   have hp:P ⟨o,n,a,u⟩=decide (o=258):=by rw [←hP]
   rw [hx,hp] at hst
   by_cases h1:o=258
   ·rw [decide_eq_true h1,Bool.true_or,hd] at hst
    repeat first|refine QG ?_|refine QY ?_ (r:=by conv=>lhs;simp[QV,hkt,hx,h1])
    rw [hst];exact ja hwf rfl rfl
   ·rw [decide_eq_false h1,Bool.false_or,hd] at hst
    repeat first|refine QG ?_|refine QY ?_ (r:=by conv=>lhs;simp[QV,hkt,hx,h1,hw])
    show jp _ _ _ _ _ _ _;exact again ⟨by omega,k+1,by omega,rfl,hst.symm,by simp [Fr.only],rfl⟩
  ·repeat first|refine QG ?_|refine QY ?_ (r:=by conv=>lhs;simp[QV,hkt])
   rw [←hd,any_drop_end _ hkt];exact ja hwf rfl rfl
end Go.Vw
namespace Ss
inductive Ends (G:List (List Nat)):Nat→Prop
 | mk (i:Nat) (h : ∀ k∈G.getD i [],Ends G k):Ends G i
def msk (bs:List Block) (G:List (List Nat)):List (List Nat):=List.zipWith (fun b r=>if tickB b then [] else r) bs G
theorem msk_len {bs:List Block} {G:List (List Nat)} (h:G.length=bs.length):(msk bs G).length=bs.length:=by simp [msk,h]
theorem part_set {α:Type} {M G:List α} {k:Nat} (h1:k<M.length) (h2:k<G.length) (x:α) (hx:x=M[k]):(M.take k++G.drop k).set k x=M.take (k+1)++G.drop (k+1):=by
 subst hx;rw [List.drop_eq_getElem_cons h2,List.set_append_right _ _ (by simp; omega)];have e:k-(M.take k).length=0:=by simp; omega
 rw [e,List.set_cons_zero,List.take_succ_eq_append_getElem h1,List.append_assoc]
 rfl
theorem part_same {α:Type} {M G:List α} {k:Nat} (h1:k<M.length) (h2:k<G.length) (hx:M[k]=G[k]):M.take k++G.drop k=M.take (k+1)++G.drop (k+1):=by
 rw [List.drop_eq_getElem_cons h2,List.take_succ_eq_append_getElem h1,List.append_assoc,hx]
 rfl
theorem part_get {α:Type} {M G:List α} {k:Nat} (h1:k≤M.length) (h2:k<G.length):(M.take k++G.drop k)[k]? = some G[k]:=by
 rw [List.getElem?_append_right (by simp; omega)];have e:k-(M.take k).length=0:=by simp; omega
 rw [e]; simp [h2]
def fals:List Bool→Nat
 | []=>0
 | b::bs=>(if b then 0 else 1)+fals bs
theorem fals_set : ∀ {l:List Bool} {i:Nat},l[i]? = some false→fals (l.set i true)+1=fals l
 | [],i,h=>by simp at h
 | b::bs,0,h=>by
  have hb:b=false:=by simpa using h
  simp only [hb,List.set_cons_zero,fals]; simp; omega
 | b::bs,i+1,h=>by
  have:=fals_set (l:=bs) (i:=i) (by simpa using h);simp only [List.set_cons_succ,fals]; omega
structure GoneOk (M:List (List Nat)) (gone:List Bool):Prop where
 len:gone.length=M.length
 ends : ∀ i,gone[i]? = some true→Ends M i
def Shut (M:List (List Nat)) (gone:List Bool) (i:Nat):Prop:=(∀ k∈M.getD i [],gone.getD k false=true)→gone.getD i false=true
theorem shut_ends {M:List (List Nat)} {gone:List Bool} (h : ∀ i<M.length,Shut M gone i) (hr : ∀ r∈M, ∀ k∈r,k<M.length) {i:Nat} (he:Ends M i):i<M.length→gone.getD i false=true:=by
 induction he with
 | mk i _ ih =>
  intro hi;refine h i hi fun k hk=>ih k hk ?_
  have e:M.getD i []=M[i]:=by simp [hi]
  rw [e] at hk;exact hr _ (List.getElem_mem hi) k hk
end Ss
namespace Go.Vw
open Go.Proofs Go.RowKit
attribute [-simp] List.map_set
theorem doneB {S:Store} {l:List (Option (Nat × List V))} (hwf:S.Wf) (b:Bool) {p:Bool→Prop} (hp:p b):Yg S.nx (fun r T => ∃ b,r = .bool b∧p b∧T=S) (.bool b) (St S [] l):=by
 obtain ⟨x,S',hg,h1,h2⟩:=ja (l:=l) (r := .bool b) hwf rfl rfl;exact ⟨x,S',hg,b,h1,hp,h2⟩
theorem any_take {α:Type} (p:α→Bool) {l:List α} {j:Nat} (h:j<l.length):(l.take (j+1)).any p=((l.take j).any p||p l[j]):=by
 rw [List.take_add_one,List.getElem?_eq_getElem h,List.any_append]; simp
theorem St_St0 {B:Store} {u:Upds} {l:List (Option (Nat × List V))} {d:Nat × List V}:St (St B u l) [] [some d]=(St B u l).add d:=by
 refine Store.ext' (funext fun o' => ?_) rfl;rw [zV,Kk]
 by_cases h:o'<(St B u l).nx
 ·rw [if_pos h,if_neg (by omega)];simp only [uGet]
 ·rw [if_neg h]
  by_cases e:o'=(St B u l).nx
  ·subst e;rw [if_pos rfl]; simp
  ·rw [if_neg e,zV];have hnx:(St B u l).nx=B.nx+l.length:=by rw [jE]; rfl
   rw [if_neg (by omega),List.getElem?_eq_none (l:=l) (by omega),List.getElem?_eq_none (by rw [List.length_singleton]; omega)]
theorem circles_v (f:Ss.Fn) (hf:f.Fits) (hs:f.small=true) (G:List (List Nat)) (hG:(Ss.succs f.blocks).map (vl vint)=G.map (vl vnat)) (hrow : ∀ r∈G,r.length<2^62 ∧ ∀ k∈r,k<G.length) (S:Store) :
  VCalls Tryz.prog 49 [ql f] S (fun r T => ∃ b,r = .bool b∧(b=false ↔ ∀ i<G.length,Ss.Ends (Ss.msk f.blocks G) i)∧T=S):=by
 have hso:=fun S=>RSuccO_v S f hf hs
 have hGl:G.length=f.blocks.length:=by have:=congrArg List.length hG; simpa [Ss.succs] using this.symm
 obtain ⟨_,hbl,hbf,_⟩:=jX hs;have htv : ∀ (k:Nat) (h:k<f.blocks.length),VPure Tryz.prog 87 [jb f.blocks[k]] (.bool (Ss.tickB f.blocks[k])):=fun k h=>ticks_v _ (by have:=(hbf _ (List.getElem_mem h)).2.2; omega)
 rw [hG] at hso;obtain ⟨⟨fi,fo⟩,ts,bs⟩:=f;simp only at hGl hbl hso htv ⊢;obtain ⟨M,hM⟩ : ∃ M,Ss.msk bs G=M:=⟨_,rfl⟩
 have hMl:M.length=bs.length:=by rw [←hM]; exact Ss.msk_len hGl
 have hMk : ∀ (k:Nat) (h1:k<bs.length) (h2:k<G.length) (h3:k<M.length),M[k]=if Ss.tickB bs[k] then [] else G[k]:=fun k h1 h2 h3=>by simp [←hM,Ss.msk]
 rw [hM];clear hG;refine QB (c:=jd Tryz.f49) Tryz.func49 Tryz.ntmps49 fun hwf=>?_
 repeat first|refine QG ?_|refine QY ?_
 refine QT ?_;refine QP ?_;refine jT (xs:=[.agg [vl vint fi,vl vint fo,vl vint ts,vl jb bs]]) rfl (hso _) ?_;rintro X S' ⟨rfl,rfl⟩;rw [St_St0,Yf,jE,lid_lid];simp only [List.cons_append,List.nil_append,List.length_cons,List.length_nil,Nat.zero_add,Nat.add_zero];refine QW ?_
 repeat first|refine QG ?_|refine QY ?_
 refine QT ?_;refine jc [1,3,4] rfl (fun c σ S' => ∃ (k:Nat),k≤bs.length∧c=bs.length-k∧σ=[(1, .ptr (lid S.nx 0) 0),(3, .slice (lid S.nx 1) 0 bs.length),(4,vnat k)]∧S'=St S [] [some (4,[vl vint fi,vl vint fo,vl vint ts,vl jb bs]),some (1,(M.take k++G.drop k).map (vl vnat))]) bs.length ?_ ?_
 ·exact ⟨0,by omega,rfl,by simp [Fr.only],by simp⟩
 ·rintro c σ T ⟨k,hk,rfl,rfl,rfl⟩
  by_cases hkt:k<bs.length
  ·have hw:=ji hkt (by omega);have hkG:k<G.length:=by omega
   have hkM:k<M.length:=by omega
   have h1:=hMk k hkt hkG hkM;have hget:=Ss.part_get (M:=M) (G:=G) (k:=k) (by omega) hkG;have hset:=Ss.part_set (M:=M) (G:=G) hkM hkG;have hsame:=Ss.part_same (M:=M) (G:=G) hkM hkG;have hRl:(M.take k++G.drop k).length=bs.length:=by simp; omega
   generalize M.take k++G.drop k=R at *
   have ct:=htv k hkt;obtain ⟨⟨ps,code,⟨tk,ta,to,az⟩⟩,hx⟩ : ∃ b,bs[k]=b:=⟨_,rfl⟩
   rw [hx] at ct h1;generalize Ss.tickB ⟨ps,code,⟨tk,ta,to,az⟩⟩=tb at *
   have ct':VPure Tryz.prog 87 [.agg [vl vint ps,vl jg code, .int .i64 tk, .int .i64 ta,vl jf to,vl vint az]] (.bool tb):=ct
   repeat first|refine QG ?_|refine QY ?_ (r:=by conv=>lhs;simp[QV,hkt,hx])
   refine QT ?_;refine QP ?_ (r:=by conv=>lhs;simp[QV,hkt,hx]);refine QL (ct') ?_
   by_cases htb:tb=true
   ·rw [htb,if_pos rfl] at h1;have hs:=hset [] h1.symm;refine QM (by conv=>lhs;simp[QV,htb]) ?_;refine QN ?_;refine QT ?_;refine jG rfl rfl rfl ?_;refine QT ?_;refine QY ?_ (r:=by conv=>lhs;simp[QV,hkt,hRl])
    apply jo
    ·exact Reach.nilCell (k:=1) (i:=k) (by simp) (by rfl) (by simp [hkt,hRl])
    simp only [List.set_cons_succ,List.set_cons_zero]
    repeat first|refine QG ?_|refine QY ?_ (r:=by conv=>lhs;simp[QV,hw])
    show jp _ _ _ _ _ _ _;exact again ⟨by omega,k+1,by omega,rfl,by simp [Fr.only],by rw [←hs,List.map_set]; rfl⟩
   ·rw [if_neg htb] at h1;have hs:=hsame h1;have htb':tb=false:=by simpa using htb
    refine QM (by conv=>lhs;simp[QV,htb']) ?_;refine QN ?_
    repeat first|refine QG ?_|refine QY ?_ (r:=by conv=>lhs;simp[QV,hw])
    show jp _ _ _ _ _ _ _;exact again ⟨by omega,k+1,by omega,rfl,by simp [Fr.only],by rw [hs]⟩
  ·have hke:k=bs.length:=by omega
   subst hke;have hMt:M.take bs.length++G.drop bs.length=M:=by rw [←hMl,List.take_length,hMl, ←hGl,List.drop_length,List.append_nil]
   rw [hMt];have hMr : ∀ r∈M,r.length<2^62 ∧ ∀ k∈r,k<M.length:=fun r hr=>by
    obtain ⟨j,hj,rfl⟩:=List.getElem_of_mem hr;rw [hMk j (by omega) (by omega) hj];split
    ·simp
    ·have:=hrow _ (List.getElem_mem (show j<G.length by omega));exact ⟨this.1,fun k hk=>by have:=this.2 k hk; omega⟩
   rw [show G.length=M.length by omega];have hnl:bs.length<2^62:=by omega
   have hb1:bs.length*1≤140737488355328:=by omega
   have hb2:bs.length≤140737488355328:=by omega
   have hrep:rep0 [V.bool false] bs.length=(List.replicate bs.length false).map V.bool:=by simp [rep0_one]
   repeat first|refine QG ?_|refine QY ?_ (r:=by conv=>lhs;simp[QV,hkt,hb1,hb2,hrep])
   refine QT ?_;refine jc [3,5,6] rfl (fun c σ S' => ∃ (gone:List Bool) (t:Bool),c=2*Ss.fals gone+(if t then 1 else 0)∧Ss.GoneOk M gone∧(t=false → ∀ i<M.length,Ss.Shut M gone i)∧σ=[(3, .slice (lid S.nx 1) 0 bs.length),(5, .slice (lid S.nx 2) 0 bs.length),(6, .bool t)]∧S'=St S [] [some (4,[vl vint fi,vl vint fo,vl vint ts,vl jb bs]),some (1,M.map (vl vnat)),some (1,gone.map V.bool)]) (2*Ss.fals (List.replicate bs.length false)+1) ?_ ?_
   ·exact ⟨List.replicate bs.length false,true,rfl,⟨by simp [hMl],fun i h=>by simp [List.getElem?_replicate] at h⟩,(fun h=>by cases h),by simp [Fr.only],by simp⟩
   ·rintro c σ T ⟨gone,t,rfl,hok,hsh,rfl,rfl⟩;have hgl:gone.length=bs.length:=by rw [hok.len,hMl]
    by_cases ht:t=true
    ·subst ht
     repeat first|refine QG ?_|refine QY ?_
     refine QT ?_;refine jc [3,5,6,7] rfl (fun c σ S' => ∃ (k:Nat) (g:List Bool) (t:Bool),k≤bs.length∧c=bs.length-k∧Ss.GoneOk M g∧(t=true→Ss.fals g<Ss.fals gone)∧(t=false→g=gone ∧ ∀ i<k,Ss.Shut M gone i)∧σ=[(3, .slice (lid S.nx 1) 0 bs.length),(5, .slice (lid S.nx 2) 0 bs.length),(6, .bool t),(7,vnat k)]∧S'=St S [] [some (4,[vl vint fi,vl vint fo,vl vint ts,vl jb bs]),some (1,M.map (vl vnat)),some (1,g.map V.bool)]) bs.length ?_ ?_
     ·exact ⟨0,gone,false,by omega,rfl,hok,(fun h=>by cases h),fun _=>⟨rfl,fun i hi=>by omega⟩,by simp [Fr.only],rfl⟩
     ·rintro c σ T ⟨k,g,t,hk,rfl,hokg,hlt,heq,rfl,rfl⟩;have hgl:g.length=bs.length:=by rw [hokg.len,hMl]
      by_cases hkt:k<bs.length
      ·have hkM:k<M.length:=by omega
       have hw:=ji hkt (by omega);obtain ⟨row,hrow'⟩ : ∃ r,M[k]=r:=⟨_,rfl⟩
       have hrd:M.getD k []=row:=by simp [hkM,hrow']
       obtain ⟨hrl,hrk⟩:=hMr _ (List.getElem_mem hkM);rw [hrow'] at hrl hrk;obtain ⟨P,hP⟩ : ∃ P:Nat→Bool,(fun x => !g.getD x false)=P:=⟨_,rfl⟩
       have hPx : ∀ x,P x = !g.getD x false:=fun x=>by rw [←hP]
       repeat first|refine QG ?_|refine QY ?_ (r:=by conv=>lhs;simp[QV,hkt,hkM,hrow'])
       refine QT ?_;refine jc [3,5,6,7,8,9] rfl (fun c σ S' => ∃ (j:Nat) (s:Bool),j≤row.length∧c=row.length-j∧s=(row.take j).any P∧σ=[(3, .slice (lid S.nx 1) 0 bs.length),(5, .slice (lid S.nx 2) 0 bs.length),(6, .bool t),(7,vnat k),(8, .bool s),(9,vnat j)]∧S'=St S [] [some (4,[vl vint fi,vl vint fo,vl vint ts,vl jb bs]),some (1,M.map (vl vnat)),some (1,g.map V.bool)]) row.length ?_ ?_
       ·exact ⟨0,false,by omega,rfl,by simp,by simp [Fr.only],rfl⟩
       ·rintro c σ T ⟨j,s,hj,rfl,hs,rfl,rfl⟩
        by_cases hjt:j<row.length
        ·have hwj:=ji hjt (by omega);have hst:=any_take P hjt;have hxl:=hrk _ (List.getElem_mem hjt);obtain ⟨x,hx⟩ : ∃ x,row[j]=x:=⟨_,rfl⟩
         rw [hx] at hst hxl;have hxg:x<g.length:=by omega
         have hxb:x<bs.length:=by omega
         obtain ⟨y,hy⟩ : ∃ y,g[x]=y:=⟨_,rfl⟩
         have hyd:P x = !y:=by rw [hPx]; simp [hxg,hy]
         rw [hyd, ←hs] at hst
         by_cases h1:s=true
         ·rw [h1,Bool.true_or] at hst
          repeat first|refine QG ?_|refine QY ?_ (r:=by conv=>lhs;simp[QV,hkt,hkM,hrow',hjt,h1,hwj])
          show jp _ _ _ _ _ _ _;exact again ⟨by omega,j+1,true,by omega,rfl,hst.symm,by simp [Fr.only],rfl⟩
         ·have h1':s=false:=by simpa using h1
          rw [h1',Bool.false_or] at hst
          repeat first|refine QG ?_|refine QY ?_ (r:=by conv=>lhs;simp[QV,hkt,hkM,hrow',hjt,h1',hx,hxg,hxb,hy,hwj])
          show jp _ _ _ _ _ _ _;exact again ⟨by omega,j+1, !y,by omega,rfl,hst.symm,by simp [Fr.only],rfl⟩
        ·have hje:j=row.length:=by omega
         subst hje;rw [List.take_length] at hs;have hkg:k<g.length:=by omega
         obtain ⟨y,hy⟩ : ∃ y,g[k]=y:=⟨_,rfl⟩
         have hyd:g.getD k false=y:=by simp [hkg,hy]
         by_cases h1:s=true
         ·have hsk:Ss.Shut M g k:=fun h=>by
           rw [hrd] at h;rw [h1] at hs;obtain ⟨x,hx1,hx2⟩:=List.any_eq_true.1 hs.symm;rw [hPx,h x hx1] at hx2
           cases hx2
          have heq':t=false→g=gone ∧ ∀ i<k+1,Ss.Shut M gone i:=fun h=>by
           obtain ⟨h2,h3⟩:=heq h;refine ⟨h2,fun i hi => ?_⟩;rcases Nat.lt_succ_iff_lt_or_eq.1 hi with h4 | h4
           ·exact h3 i h4
           ·rw [h4, ←h2]; exact hsk
          repeat first|refine QG ?_|refine QY ?_ (r:=by conv=>lhs;simp[QV,hkt,hkM,hrow',hjt,h1,hw])
          show jp _ _ _ _ _ _ _;exact again ⟨by omega,k+1,g,t,by omega,rfl,hokg,hlt,heq',by simp [Fr.only],rfl⟩
         have h1':s=false:=by simpa using h1
         have hall : ∀ x∈row,g.getD x false=true:=fun x hx=>by
          rw [h1'] at hs;have:=List.any_eq_false.1 hs.symm x hx;rw [hPx] at this;simpa using this
         by_cases h2:y=true
         ·have hsk:Ss.Shut M g k:=fun _=>by rw [hyd]; exact h2
          have heq':t=false→g=gone ∧ ∀ i<k+1,Ss.Shut M gone i:=fun h=>by
           obtain ⟨h2,h3⟩:=heq h;refine ⟨h2,fun i hi => ?_⟩;rcases Nat.lt_succ_iff_lt_or_eq.1 hi with h4 | h4
           ·exact h3 i h4
           ·rw [h4, ←h2]; exact hsk
          repeat first|refine QG ?_|refine QY ?_ (r:=by conv=>lhs;simp[QV,hkt,hkM,hrow',hjt,h1',hkg,hy,h2,hw])
          show jp _ _ _ _ _ _ _;exact again ⟨by omega,k+1,g,t,by omega,rfl,hokg,hlt,heq',by simp [Fr.only],rfl⟩
         ·have h2':y=false:=by simpa using h2
          have hf:=Ss.fals_set (l:=g) (i:=k) (by rw [List.getElem?_eq_getElem hkg,hy,h2']);have hok':Ss.GoneOk M (g.set k true):=⟨by rw [List.length_set]; exact hokg.len,fun i hi=>by
           by_cases hik:i=k
           ·subst hik;refine Ss.Ends.mk i fun x hx => ?_
            rw [hrd] at hx;have h4:=hall x hx;have hxg:x<g.length:=by have:=hrk x hx; omega
            exact hokg.ends x (by rw [List.getElem?_eq_getElem hxg]; simpa [hxg] using h4)
           ·rw [List.getElem?_set_ne (fun h=>hik h.symm)] at hi;exact hokg.ends i hi⟩
          have hlt':true=true→Ss.fals (g.set k true)<Ss.fals gone:=fun _=>by
           cases t with
           | true=>have:=hlt rfl; omega
           | false=>obtain ⟨rfl,_⟩:=heq rfl; omega
          repeat first|refine QG ?_|refine QY ?_ (r:=by conv=>lhs;simp[QV,hkt,hkM,hrow',hjt,h1',hkg,hy,h2',hw])
          show jp _ _ _ _ _ _ _;exact again ⟨by omega,k+1,g.set k true,true,by omega,rfl,hok',hlt',(fun h=>by cases h),by simp [Fr.only],by simp⟩
      ·have hke:k=bs.length:=by omega
       subst hke
       repeat first|refine QG ?_|refine QY ?_ (r:=by conv=>lhs;simp[QV,hkt])
       show jp _ _ _ _ _ _ _;exact again ⟨by cases t with | true=>(have:=hlt rfl; simp; omega) | false=>(obtain ⟨rfl,_⟩:=heq rfl; simp),g,t,rfl,hokg,(fun h=>by obtain ⟨rfl,h2⟩:=heq h; rw [hMl]; exact h2),by simp [Fr.only],rfl⟩
    ·have ht':t=false:=by simpa using ht
     subst ht';have hsh':=hsh rfl
     repeat first|refine QG ?_|refine QY ?_
     refine QT ?_;refine jc [3,5,10] rfl (fun c σ S' => ∃ (k:Nat),k≤bs.length∧c=bs.length-k∧(∀ i<k,gone.getD i false=true)∧σ=[(3, .slice (lid S.nx 1) 0 bs.length),(5, .slice (lid S.nx 2) 0 bs.length),(10,vnat k)]∧S'=St S [] [some (4,[vl vint fi,vl vint fo,vl vint ts,vl jb bs]),some (1,M.map (vl vnat)),some (1,gone.map V.bool)]) bs.length ?_ ?_
     ·exact ⟨0,by omega,rfl,fun i hi=>by omega,by simp [Fr.only],rfl⟩
     ·rintro c σ T ⟨k,hk,rfl,hall,rfl,rfl⟩
      by_cases hkt:k<bs.length
      ·have hkg:k<gone.length:=by omega
       have hw:=ji hkt (by omega);obtain ⟨y,hy⟩ : ∃ y,gone[k]=y:=⟨_,rfl⟩
       have hyd:gone.getD k false=y:=by simp [hkg,hy]
       by_cases h1:y=true
       ·have hall' : ∀ i<k+1,gone.getD i false=true:=by
         intro i hi;rcases Nat.lt_succ_iff_lt_or_eq.1 hi with h | h
         ·exact hall i h
         ·rw [h,hyd]; exact h1
        repeat first|refine QG ?_|refine QY ?_ (r:=by conv=>lhs;simp[QV,hkt,hkg,hy,h1,hw])
        show jp _ _ _ _ _ _ _;exact again ⟨by omega,k+1,by omega,rfl,hall',by simp [Fr.only],rfl⟩
       ·have h1':y=false:=by simpa using h1
        have hno : ¬ ∀ i<M.length,Ss.Ends M i:=fun h=>by
         have:=Ss.shut_ends hsh' (fun r hr=>(hMr r hr).2) (h k (by omega)) (by omega);rw [hyd] at this;exact h1 this
        repeat first|refine QG ?_|refine QY ?_ (r:=by conv=>lhs;simp[QV,hkt,hkg,hy,h1'])
        exact doneB hwf true ⟨(fun h=>by cases h),fun h=>absurd h hno⟩
      ·have hke:k=bs.length:=by omega
       subst hke;have hyes : ∀ i<M.length,Ss.Ends M i:=fun i hi=>hok.ends i (by
        have h1:=hall i (by omega);have hig:i<gone.length:=by omega
        simp only [List.getD_eq_getElem?_getD,List.getElem?_eq_getElem hig,Option.getD_some] at h1;rw [List.getElem?_eq_getElem hig,h1])
       repeat first|refine QG ?_|refine QY ?_ (r:=by conv=>lhs;simp[QV,hkt])
       exact doneB hwf false ⟨fun _=>hyes,fun _=>rfl⟩
open Classical in
noncomputable def _root_.Ss.circ (M:List (List Nat)):Bool:=decide (¬ ∀ i<M.length,Ss.Ends M i)
open Classical in
theorem circlesP_v (f:Ss.Fn) (hf:f.Fits) (hs:f.small=true) (G:List (List Nat)) (hG:(Ss.succs f.blocks).map (vl vint)=G.map (vl vnat)) (hrow : ∀ r∈G,r.length<2^62 ∧ ∀ k∈r,k<G.length) :
  VPure Tryz.prog 49 [ql f] (.bool (Ss.circ (Ss.msk f.blocks G))):=fun S=>by
 have hGl:G.length=f.blocks.length:=by have:=congrArg List.length hG; simpa [Ss.succs] using this.symm
 refine (circles_v f hf hs G hG hrow S).mono ?_;rintro r T ⟨b,rfl,hb,rfl⟩;refine ⟨?_,rfl⟩
 congr 1
 have e:(Ss.msk f.blocks G).length=G.length:=by rw [Ss.msk_len hGl,hGl]
 unfold Ss.circ;rw [e]
 cases b with
 | false =>
  have h1:=hb.1 rfl;exact (decide_eq_false (p := ¬ _) (not_not_intro h1)).symm
 | true =>
  have h1 : ¬ ∀ i<G.length,Ss.Ends (Ss.msk f.blocks G) i:=fun h=>by have:=hb.2 h; cases this
  exact (decide_eq_true (p := ¬ _) h1).symm
end Go.Vw
namespace Go.Vw
open Go.Proofs Go.RowKit
attribute [-simp] List.map_set
theorem opIndex_sl {s:Nat} {S:Store} {k:IntKind} {o off len n:Nat} {c} (h:S.get o=some c) (hn:n<len):qj s S (.slice o off len) (.int k (n:Int))=some (.ptr o (off+n*s)):=by
 simp [qj,h,hn]
def Store.push (S:Store) (o:Nat) (cs:List V) (x:V):Store:=((S.add (1,[x])).del o).add (1,cs++[x])
def Store.push0 (S:Store) (x:V):Store:=(S.add (1,[x])).add (1,[x])
section
variable {S:Store} {o:Nat} {cs:List V} {x:V}
theorem push_new:(S.push o cs x).get (S.nx+1)=some (1,cs++[x]):=by simp [Store.push,Store.add,Store.del]
theorem push0_new:(S.push0 x).get (S.nx+1)=some (1,[x]):=by simp [Store.push0,Store.add]
theorem push_old {o':Nat} (h:o'<S.nx) (hn:o'≠o):(S.push o cs x).get o'=S.get o':=by
 have e1 : ¬ o'=S.nx+1:=by omega
 have e2 : ¬ o'=S.nx:=by omega
 simp [Store.push,Store.add,Store.del,e1,e2,hn]
theorem push0_old {o':Nat} (h:o'<S.nx):(S.push0 x).get o'=S.get o':=by
 have e1 : ¬ o'=S.nx+1:=by omega
 have e2 : ¬ o'=S.nx:=by omega
 simp [Store.push0,Store.add,e1,e2]
theorem Agree.push {S0:Store} (h:Agree S0 S) (ho:S0.nx≤o):Agree S0 (S.push o cs x):=((h.add _).del ho).add _
theorem Agree.push0 {S0:Store} (h:Agree S0 S):Agree S0 (S.push0 x):=(h.add _).add _
theorem jco {b len:Nat} (h:S.get o=some (1,cs)) (ho:o<S.nx) (hl:cs.length=len) (hb:(len+1)*b≤140737488355328) (hb1:len+1≤140737488355328) :
  jY 1 b (S.add (1,[x])) (.slice o 0 len) (.slice S.nx 0 1)=some (.slice (S.nx+1) 0 (len+1),S.push o cs x):=by
 have:o≠S.nx:=by omega
 subst hl;simp [jY,jU,Store.add,Store.push,this,h,hb,hb1,Store.del]
 rfl
theorem jba {b:Nat} (hb:b≤140737488355328) :
  jY 1 b (S.add (1,[x])) .nils (.slice S.nx 0 1)=some (.slice (S.nx+1) 0 1,S.push0 x):=by
 simp [jY,jU,Store.add,Store.push0,hb]
end
namespace G
def DoneAt (S:Store) (b ow om:Nat) (dv:V) (done:List Nat):Prop :=
 (dv = .nils∧done=[]) ∨ ∃ od,dv = .slice od 0 done.length∧S.get od=some (1,done.map vnat)∧od≠ow∧od≠om∧b≤od∧od<S.nx
def WAt (S:Store) (g:List (List Nat)) (b ow om:Nat) (s:WS):Prop :=
 s.1.length=g.length∧ow≠om∧b≤ow∧b≤om∧ow<S.nx∧om<S.nx∧S.get om=some (1,s.1.map V.bool) ∧
 ∃ dv,S.get ow=some (3,[vl (vl vnat) g, .slice om 0 g.length,dv])∧DoneAt S b ow om dv s.2
end G
theorem get_upd (S:Store) (o:Nat) (c:Nat × List V):(S.upd o c).get o=some c:=by simp [Store.upd]
theorem KS (S:Store) {o o':Nat} (c:Nat × List V) (h:o'≠o):(S.upd o c).get o'=S.get o':=by simp [Store.upd,h]
theorem Walk_v (g:List (List Nat)) (hg:G.Ok g) (S0:Store) (ow om:Nat) : ∀ (f n:Nat) (s s':G.WS) (S:Store),n<g.length→G.walk g f n s=some s'→s'.2.length≤2^30→Agree S0 S→G.WAt S g S0.nx ow om s →
  VCalls Tryz.prog 86 [.ptr ow 0,vnat n] S (fun r S'=>r = .tuple []∧Agree S0 S'∧G.WAt S' g S0.nx ow om s')
 | 0,n,s,s',S,hn,hw,hb,hag,hW=>by cases hw
 | f+1,n,s,s',S,hn,hw,hb,hag,hW=>by
  rw [G.walk_succ] at hw;obtain ⟨h1,h2,h3,h4,l1,l2,h5,dv,h6,h7⟩:=hW;refine qO (c:=jd Tryz.f86) Tryz.func86 rfl rfl (by simp [Tryz.ntmps86]) ?_;rw [Tryz.ntmps86];have hn1:n<s.1.length:=by omega
  refine QT ?_;refine qg rfl (by conv=>lhs; reduce) (by conv=>lhs; simp [-qi, -jW,h6,jO,qj,h5,hn,hn1]) ?_;refine QN ?_;have hag1:Agree S0 (S.upd om (1,(List.map V.bool s.1).set n (V.bool true))):=hag.upd h4 _;have hW1:G.WAt (S.upd om (1,(List.map V.bool s.1).set n (V.bool true))) g S0.nx ow om (s.1.set n true,s.2):=by
   refine ⟨by simpa using h1,h2,h3,h4,l1,l2,by rw [get_upd, ←List.map_set],dv,by rw [KS _ _ h2]; exact h6, ?_⟩;rcases h7 with h7 | ⟨od,k1,k2,k3,k4,k5,k6⟩
   ·exact .inl h7
   ·exact .inr ⟨od,k1,by rw [KS _ _ k4]; exact k2,k3,k4,k5,k6⟩
  generalize S.upd om (1,(List.map V.bool s.1).set n (V.bool true))=S1 at hag1 hW1 ⊢;have hgn:g.getD n []=g[n]:=by simp [hn]
  rw [hgn] at hw;obtain ⟨sk,hk,rfl⟩:=Option.map_eq_some_iff.1 hw;refine QT ?_;refine qg rfl (by conv=>lhs; reduce) (by conv=>lhs; simp [-qi, -jW]) ?_;refine QN ?_;refine QT ?_;refine jK 0 rfl rfl ?_;refine QT ?_;refine jc [0,1,4] rfl (fun c σ S' => ∃ (k:Nat) (t:G.WS),k≤g[n].length∧c=g[n].length-k∧G.kids g f (g[n].drop k) t=some sk∧Agree S0 S'∧G.WAt S' g S0.nx ow om t∧σ=[(0, .ptr ow 0),(1,vnat n),(4,vnat k)]) g[n].length ?_ ?_
  ·exact ⟨0,_,by omega,rfl,hk,hag1,hW1,by simp [Fr.only,Fr.look,vnat,vint]⟩
  ·rintro c σ S' ⟨k,t,hkl,rfl,hd,hag2,hW2,rfl⟩;obtain ⟨g1,g2,g3,g4,l3,l4,g5,du,g6,g7⟩:=hW2
   by_cases hk6:k<g[n].length
   ·have h7:(k:Int)<(g[n].length:Int):=by omega
    have hst:G.kids g f (g[n].drop k) t=if t.1.getD g[n][k] false then G.kids g f (g[n].drop (k+1)) t else (G.walk g f g[n][k] t).bind (G.kids g f (g[n].drop (k+1))):=by
     rw [List.drop_eq_getElem_cons hk6,G.kids_cons]
    rw [hst] at hd;have hkn:g[n][k]<g.length:=hg.elt _ (List.getElem_mem hn) _ (List.getElem_mem hk6);have hkt:g[n][k]<t.1.length:=by omega
    have hr:=hg.row _ (List.getElem_mem hn);have hw1:IntKind.i64.wrap ((k:Int)+1)=(k:Int)+1:=wrap_i64 (by omega) (by omega);have hgd:t.1.getD g[n][k] false=t.1[g[n][k]]:=by simp [hkt]
    rw [hgd] at hd;refine QT ?_;refine qg rfl (by conv=>lhs; reduce) (by conv=>lhs; simp [-qi, -jW,g6,jO,qf,jI,hn,h7]) ?_;refine QN ?_;refine QT ?_;refine jG rfl rfl rfl ?_;refine QT ?_;refine jB rfl ?_;refine QT ?_;refine jK 1 rfl rfl ?_;have ix:=opIndex_sl (s:=1) (k := .i64) (off:=0) g5 hkn;refine QT ?_;refine Kt rfl (by kernel_rfl) (by conv=>lhs; reduce) (by conv=>lhs; reduce) (by kernel_rfl) (by conv=>lhs; simp [-qi, -jW,g6,g5,jO,qf,ix,hn,hk6,hkt]) ?_;refine QN ?_
    cases hm:t.1[g[n][k]]
    ·rw [hm] at hd;obtain ⟨u,e1,e2⟩:=Option.bind_eq_some_iff.1 hd;refine jG rfl rfl (by simp [ev,Fr.look,hm]) ?_;refine QT ?_;refine qg rfl (by conv=>lhs; reduce) (by conv=>lhs; simp [-qi, -jW,g6,jO,qf,hn,hk6]) ?_;refine jT rfl (Walk_v g hg S0 ow om f g[n][k] t u S' hkn e1 ?_ hag2 ⟨g1,g2,g3,g4,l3,l4,g5,du,g6,g7⟩) ?_
     ·have:=(G.kids_len (G.walk_len g f) _ _ _ e2).1;simp at hb; omega
     ·rintro X S2 ⟨rfl,hag3,hW3⟩;refine Wz (by conv=>lhs; simp [-qi, -jW]) ?_;refine QN ?_;refine QT ?_;refine qg rfl (by conv=>lhs; reduce) (by conv=>lhs; simp [-qi, -jW,hw1]) ?_;refine QN ?_;exact again ⟨Nat.sub_lt_sub_left (by omega) (Nat.lt_succ_self k),k+1,u,by omega,rfl,e2,hag3,hW3,by simp [Fr.only,Fr.look,vnat,vint]⟩
    ·rw [hm] at hd;refine jH rfl rfl (by simp [ev,Fr.look,hm]) ?_;refine QT ?_;refine jB rfl ?_;refine QT ?_;refine qg rfl (by conv=>lhs; reduce) (by conv=>lhs; simp [-qi, -jW,hw1]) ?_;refine QN ?_;exact again ⟨Nat.sub_lt_sub_left (by omega) (Nat.lt_succ_self k),k+1,t,by omega,rfl,hd,hag2,⟨g1,g2,g3,g4,l3,l4,g5,du,g6,g7⟩,by simp [Fr.only,Fr.look,vnat,vint]⟩
   ·have h7 : ¬ (k:Int)<(g[n].length:Int):=by omega
    refine QT ?_;refine qg rfl (by conv=>lhs; reduce) (by conv=>lhs; simp [-qi, -jW,g6,jO,qf,jI,hn,h7]) ?_;refine QN ?_;refine QT ?_;refine jH rfl rfl rfl ?_;refine QT ?_;refine jQ 0 rfl rfl ?_;have hz:g[n].drop k=[]:=by rw [List.drop_eq_nil_iff]; omega
    rw [hz,G.kids_nil] at hd
    cases hd
    rcases g7 with ⟨rfl,hnil⟩ | ⟨od,rfl,k2,k3,k4,k5,k6⟩
    ·have ap:=jba (S:=S') (x := .int .i64 (n:Int)) (b:=8) (by omega);have gp:(S'.push0 (.int .i64 (n:Int))).get ow=some (3,[vl (vl vnat) g,V.slice om 0 g.length,V.nils]):=(push0_old l3).trans g6;refine QT ?_;refine qg rfl (by conv=>lhs; reduce) (by conv=>lhs; simp [-qi, -jW,g6,jO,qw,rep0,qr,ap,gp]) ?_;refine QN ?_;refine ⟨rfl,hag2.push0.upd g3 _,g1,g2,g3,g4,Nat.lt_add_right 2 l3,Nat.lt_add_right 2 l4, ?_,_,get_upd _ _ _, .inr ⟨S'.nx+1, ?_, ?_, ?_, ?_, ?_, ?_⟩⟩
     ·rw [KS _ _ (Ne.symm g2),push0_old l4]; exact g5
     ·simp [hnil]
     ·rw [KS _ _ (by omega),push0_new]; simp [hnil,vnat]
     ·omega
     ·omega
     ·omega
     ·show S'.nx+1<S'.nx+2; omega
    ·have hb2:sk.2.length+1≤2^30:=by simpa using hb
     have ap:=jco (S:=S') (x := .int .i64 (n:Int)) (b:=8) k2 k6 (by simp:_=sk.2.length) (by omega) (by omega);have gp:(S'.push od (List.map vnat sk.2) (.int .i64 (n:Int))).get ow=some (3,[vl (vl vnat) g,V.slice om 0 g.length,V.slice od 0 sk.2.length]):=(push_old l3 (Ne.symm k3)).trans g6;refine QT ?_;refine qg rfl (by conv=>lhs; reduce) (by conv=>lhs; simp [-qi, -jW,g6,jO,qw,rep0,qr,ap,gp]) ?_;refine QN ?_;refine ⟨rfl,(hag2.push k5).upd g3 _,g1,g2,g3,g4,Nat.lt_add_right 2 l3,Nat.lt_add_right 2 l4, ?_,_,get_upd _ _ _, .inr ⟨S'.nx+1, ?_, ?_, ?_, ?_, ?_, ?_⟩⟩
     ·rw [KS _ _ (Ne.symm g2),push_old l4 (Ne.symm k4)]; exact g5
     ·simp
     ·rw [KS _ _ (by omega),push_new]; simp [vnat]
     ·omega
     ·omega
     ·omega
     ·show S'.nx+1<S'.nx+2; omega
end Go.Vw
namespace Go.Vw
open Go.Proofs Go.RowKit
end Go.Vw
namespace Go.Vw
open Go.Proofs Go.RowKit
attribute [-simp] List.map_set
theorem jaT (g:List (List Nat)) (hg:G.Ok g) (a:Option Nat) (ha : ∀ n,a=some n→n<g.length):VPure Tryz.prog 46 [vl (vl vnat) g,vint (a.elim (-1) Int.ofNat)] (vl V.bool (G.without g a)):=by
 intro S;refine QB (c:=jd Tryz.f46) Tryz.func46 Tryz.ntmps46 fun hwf=>?_
 have hm256:=hg.max;have hp:0<g.length:=hg.pos;have hb1:g.length*1≤140737488355328:=by omega
 have hb0:g.length≤140737488355328:=by omega
 have wat : ∀ m:List Bool,m.length=g.length→G.WAt (St S [] [some (1,m.map V.bool),some (3,[vl (vl vnat) g, .slice (lid S.nx 0) 0 g.length, .nils])]) g S.nx (lid S.nx 1) (lid S.nx 0) (m,[]):=by
  intro m hm;refine ⟨hm,by simp [lid],by simp [lid],by simp [lid],by rw [jE]; simp [lid],by rw [jE]; simp [lid],by simp [jv], .nils,by simp [jv], .inl ⟨rfl,rfl⟩⟩
 cases a with
 | none =>
  obtain ⟨t,w1,w2,w3,w4⟩:=G.metFrom_ends hg (m:=List.replicate g.length false) (by simp) (G.rep_getD _ _);have hX:G.without g none=t.1:=w2;have e1:(-1:Int) = -1:=rfl;simp only [Option.elim];have hrep:List.replicate g.length (V.bool false)=(List.replicate g.length false).map V.bool:=by simp
  repeat first|refine QG ?_|refine QY ?_ (r:=by conv=>lhs;simp[QV,hb1,hb0])
  refine QT ?_;refine QP ?_;refine jT rfl (Walk_v g hg S (lid S.nx 1) (lid S.nx 0) g.length 0 _ t _ hp w1 (by omega) Jn (by rw [hrep]; exact wat _ (by simp))) ?_;rintro X T ⟨rfl,hag,hW⟩;have hom:=hW.2.2.2.2.2.2.1;obtain ⟨dv,how,_⟩:=hW.2.2.2.2.2.2.2;have hol:=hW.2.2.2.2.2.1;refine QW ?_
  repeat first|refine QG ?_|refine QY ?_ (r:=by conv=>lhs;simp[QV,how])
  have hfr:=Ghost.freeze1 (len:=g.length) hom (by simp [V.closed1]) (by simp [w4]);rw [hX];exact zw hwf (hfr.toB _) (hag.del (by simp [lid])) rfl
 | some a =>
  have hal:=ha a rfl;simp only [Option.elim];have hrep:List.replicate g.length (V.bool false)=(List.replicate g.length false).map V.bool:=by simp
  by_cases h0:a=0
  ·subst h0;have hX:G.without g (some 0)=List.replicate g.length false:=by simp [G.without]
   repeat first|refine QG ?_|refine QY ?_ (r:=by conv=>lhs;simp[QV,hb1,hb0,hal])
   have hfr:=frz1 (B:=S) (u:=[]) (l:=[some (1,(List.replicate g.length false).map V.bool),some (3,[vl (vl vnat) g,V.slice (lid S.nx 0) 0 g.length,V.nils])]) (k:=0) (len:=g.length) (cells:=(List.replicate g.length false).map V.bool) (by simp) rfl (by simp [V.closed1]) (by simp);rw [hX];rw [hrep];exact jh hwf (hfr.toB _) rfl
  ·have hz:((List.replicate g.length false).set a true).getD 0 false=false:=by rw [G.getD_set_other h0]; exact G.rep_getD _ _
   obtain ⟨t,w1,w2,w3,w4⟩:=G.metFrom_ends hg (m:=(List.replicate g.length false).set a true) (by simp) hz;have hX:G.without g (some a)=t.1.set a false:=by simp [G.without,h0,w2]
   have ha0 : ¬ (a:Int)=0:=by omega
   have hat:a<t.1.length:=by omega
   repeat first|refine QG ?_|refine QY ?_ (r:=by conv=>lhs;simp[QV,hb1,hb0,hal,ha0,h0])
   refine QT ?_;refine QP ?_;refine jT rfl (Walk_v g hg S (lid S.nx 1) (lid S.nx 0) g.length 0 _ t _ hp w1 (by omega) Jn (by rw [hrep, ←List.map_set]; exact wat _ (by simp))) ?_;rintro X T ⟨rfl,hag,hW⟩;have hom:=hW.2.2.2.2.2.2.1;obtain ⟨dv,how,_⟩:=hW.2.2.2.2.2.2.2;have hol:=hW.2.2.2.2.2.1;refine QW ?_;have hne : ¬ lid S.nx 1=lid S.nx 0:=by simp [lid]
   repeat first|refine QG ?_|refine QY ?_ (r:=by conv=>lhs;simp[QV,how,hom,hal,hat,ju,zl,hne])
   have hfr:=Ghost.freeze1 (S:=T.upd (lid S.nx 0) (1,(t.1.set a false).map V.bool)) (o:=lid S.nx 0) (cells:=(t.1.set a false).map V.bool) (len:=g.length) zl (jF V.bool (fun _=>rfl) _) (by simp [w4]);rw [hX];exact zw hwf (hfr.toB _) ((hag.upd (by simp [lid]) _).del (by simp [lid])) rfl
def qm (g:List (List Nat)) (a:Nat):List V:=((List.range a).map (G.tableRow g)).map (vl V.bool)++List.replicate (g.length-a) .nils
theorem tabCells_set {g:List (List Nat)} {a:Nat} (h:a<g.length) (x:V):(qm g a).set a x=((List.range a).map (G.tableRow g)).map (vl V.bool)++x::List.replicate (g.length-(a+1)) .nils:=by
 have e:g.length-a=(g.length-(a+1))+1:=by omega
 rw [qm,e,List.replicate_succ,List.set_append_right _ _ (by simp)];simp
theorem WA {g:List (List Nat)} {a:Nat} (h:a<g.length):(qm g a).set a (vl V.bool (G.tableRow g a))=qm g (a+1):=by
 rw [tabCells_set h,qm,List.range_succ];simp
theorem Zv (f:Nat→Nat) (g:List (List Nat)) (a:Nat):V.renL f (qm g a)=qm g a:=by
 simp only [qm,jad,renL_vl];rw [qH,List.map_replicate,ren_nils]
theorem Zy (p:Nat→Bool) (g:List (List Nat)) (a:Nat):V.idsL p (qm g a)=true:=by
 simp only [qm,jaC,idsL_vl,Bool.true_and];rw [qS]; simp [ids_nils]
theorem tabCells_len {g:List (List Nat)} {a:Nat} (h:a≤g.length):(qm g a).length=g.length:=by simp [qm]; omega
def fill (f:Nat→Bool) (n b:Nat):List Bool:=(List.range b).map f++List.replicate (n-b) false
theorem fill_set {f:Nat→Bool} {n b:Nat} (h:b<n):(fill f n b).set b (f b)=fill f n (b+1):=by
 have e:n-b=(n-(b+1))+1:=by omega
 rw [fill,e,List.replicate_succ,List.set_append_right _ _ (by simp),fill,List.range_succ];simp
theorem fill_len {f:Nat→Bool} {n b:Nat} (h:b≤n):(fill f n b).length=n:=by simp [fill]; omega
theorem Table_v (g:List (List Nat)) (hg:G.Ok g):VPure Tryz.prog 59 [vl (vl vnat) g] (vl (vl V.bool) (G.table g)):=by
 intro S;refine QB (c:=jd Tryz.f59) Tryz.func59 Tryz.ntmps59 fun hwf=>?_
 have hm256:=hg.max;have hb24:g.length*24≤140737488355328:=by omega
 have hb1:g.length*1≤140737488355328:=by omega
 have hb0:g.length≤140737488355328:=by omega
 generalize hall:G.without g none=all;have hal:all.length=g.length:=by rw [←hall]; exact G.without_length hg none
 repeat first|refine QG ?_|refine QY ?_
 refine QT ?_;refine QP ?_;refine jm rfl (hall▸jaT g hg none (by simp)) ?_;refine QW ?_
 repeat first|refine QG ?_|refine QY ?_ (r:=by conv=>lhs;simp[QV,hb24,hb0])
 refine QT ?_;refine jc [0,3,4,5] rfl (fun c σ S' => ∃ (a:Nat),a≤g.length∧c=g.length-a∧σ=[(0,vl (vl vnat) g),(3,vl V.bool all),(4, .slice (lid S.nx 0) 0 g.length),(5,vnat a)]∧S'=St S [] [some (1,qm g a)]) g.length ?_ ?_
 ·exact ⟨0,by omega,rfl,by simp [Fr.only,Fr.look,vnat],by simp [qm]⟩
 ·rintro c σ T ⟨a,ha,rfl,rfl,rfl⟩
  by_cases hlt:a<g.length
  ·have hw1:IntKind.i64.wrap ((a:Int)+1)=(a:Int)+1:=wrap_i64 (by omega) (by omega);have htl:=tabCells_len ha;have haa:a<all.length:=by omega
   have hat:a<(qm g a).length:=by omega
   obtain ⟨b,hb⟩ : ∃ b,all[a]=b:=⟨_,rfl⟩
   have hbd:all.getD a false=b:=by simp [haa,hb]
   cases b with
   | false =>
    have hrow:G.tableRow g a=List.replicate g.length false:=by simp only [G.tableRow,hall,hbd]; simp
    repeat first|refine QG ?_|refine QY ?_ (r:=by conv=>lhs;simp[QV,hb1,hb0,hlt,hat,haa])
    refine jG rfl rfl (by simp [ev,Fr.look,hb]) ?_;refine QT ?_;refine jQ 1 rfl rfl ?_
    apply jo
    ·exact Reach.frzCell (k:=0) (j:=1) (i:=a) (n:=g.length) (cells':=(List.replicate g.length false).map V.bool) (by omega) (by simp) (by simp) rfl (by simp [hat]) (by simp) (jF V.bool (fun _=>rfl) _) (by simp)
    have e:=WA hlt;rw [hrow] at e;simp only [List.set_cons_succ,List.set_cons_zero,List.set_set];rw [show V.list ((List.replicate g.length false).map V.bool)=vl V.bool (List.replicate g.length false) from rfl,e]
    repeat first|refine QG ?_|refine QY ?_ (r:=by conv=>lhs;simp[QV,hw1])
    refine QA [0] (h2:=by simp [Zv,Zy]) (hl:=by conv=>lhs; simp [Zv,Zy]) (h:=⟨?_,a+1,hlt,rfl,by simp [vnat],rfl⟩);omega
   | true =>
    generalize hl:G.without g (some a)=l;have hll:l.length=g.length:=by rw [←hl]; exact G.without_length hg _
    obtain ⟨f,hf⟩ : ∃ f:Nat→Bool,f=fun b=>all.getD b false && !(l.getD b false):=⟨_,rfl⟩
    have hrow:G.tableRow g a=(List.range g.length).map f:=by rw [hf]; simp only [G.tableRow,hall,hbd,hl]; simp
    repeat first|refine QG ?_|refine QY ?_ (r:=by conv=>lhs;simp[QV,hb1,hb0,hlt,hat,haa,hb])
    refine QT ?_;refine QP ?_;refine jm rfl (hl▸jaT g hg (some a) (by simpa using hlt)) ?_;refine QW ?_
    repeat first|refine QG ?_|refine QY ?_
    refine QT ?_;refine jc [0,3,4,5,6,7] rfl (fun c σ S' => ∃ (b:Nat),b≤g.length∧c=g.length-b∧σ=[(0,vl (vl vnat) g),(3,vl V.bool all),(4, .slice (lid S.nx 0) 0 g.length),(5,vnat a),(6,vl V.bool l),(7,vnat b)]∧S'=St S [] [some (1,(qm g a).set a (.slice (lid S.nx 1) 0 g.length)),some (1,(fill f g.length b).map V.bool)]) g.length ?_ ?_
    ·exact ⟨0,by omega,rfl,by simp [Fr.only,Fr.look,vnat],by simp [fill]⟩
    ·rintro c σ T ⟨b,hbl,rfl,rfl,rfl⟩
     by_cases hbt:b<g.length
     ·have hw2:IntKind.i64.wrap ((b:Int)+1)=(b:Int)+1:=wrap_i64 (by omega) (by omega);have hba:b<all.length:=by omega
      have hbll:b<l.length:=by omega
      obtain ⟨x,hx⟩ : ∃ x,all[b]=x:=⟨_,rfl⟩
      have hfl:=fill_len (f:=f) hbl;have hbf:b<(fill f g.length b).length:=by omega
      have hset:=fill_set (f:=f) hbt;have hfb:f b=(x && !l[b]):=by rw [hf]; simp [hba,hbll,hx]
      rw [hfb] at hset
      cases x with
      | true =>
       repeat first|refine QG ?_|refine QY ?_ (r:=by conv=>lhs;simp[QV,hbt])
       refine QT ?_;refine QJ (St S [] [some (1,(qm g a).set a (.slice (lid S.nx 1) 0 g.length)),none]) (St S [] [some (1,(qm g a).set a (.slice (lid S.nx 1) 0 g.length)),some (1,(fill f g.length b).map V.bool)]) [] ?_ (r:=by conv=>lhs; simp [QV,hlt,hat,hbt,hba,hbll,hx,hbf]);refine QI ?_ (r:=by conv=>lhs;simp[QV,hbt,hbf]);refine QN ?_
       repeat first|refine QG ?_|refine QY ?_
       show jp _ _ _ _ _ _ _;exact again ⟨Nat.sub_lt_sub_left hbt (Nat.lt_succ_self b),b+1,hbt,rfl,by simp [Fr.only,Fr.look,vnat]; exact hw2,by rw [←hset]; simp⟩
      | false =>
       repeat first|refine QG ?_|refine QY ?_ (r:=by conv=>lhs;simp[QV,hbt])
       refine QT ?_;refine QJ (St S [] [some (1,(qm g a).set a (.slice (lid S.nx 1) 0 g.length)),none]) (St S [] [some (1,(qm g a).set a (.slice (lid S.nx 1) 0 g.length)),some (1,(fill f g.length b).map V.bool)]) [] ?_ (r:=by conv=>lhs; simp [QV,hlt,hat,hbt,hba,hbll,hx,hbf]);refine QI ?_ (r:=by conv=>lhs;simp[QV,hbt,hbf]);refine QN ?_
       repeat first|refine QG ?_|refine QY ?_
       show jp _ _ _ _ _ _ _;exact again ⟨Nat.sub_lt_sub_left hbt (Nat.lt_succ_self b),b+1,hbt,rfl,by simp [Fr.only,Fr.look,vnat]; exact hw2,by rw [←hset]; simp⟩
     ·have hbg:b=g.length:=by omega
      subst hbg;refine QT ?_;refine QY ?_ (r:=by conv=>lhs;simp[QV,hbt]);refine QT ?_;refine jH rfl rfl rfl ?_;refine QT ?_;refine jQ 2 rfl rfl ?_
      apply jo
      ·exact Reach.frzCell (k:=0) (j:=1) (i:=a) (n:=g.length) (cells':=(G.tableRow g a).map V.bool) (by omega) (by simp) (by simp) rfl (by simp [hat]) (by rw [hrow]; simp [fill]) (jF V.bool (fun _=>rfl) _) (by simp [G.tableRow_length])
      have e:=WA hlt;simp only [List.set_cons_succ,List.set_cons_zero,List.set_set];rw [show V.list ((G.tableRow g a).map V.bool)=vl V.bool (G.tableRow g a) from rfl,e]
      repeat first|refine QG ?_|refine QY ?_ (r:=by conv=>lhs;simp[QV,hw1])
      refine QA [0] (h2:=by simp [Zv,Zy]) (hl:=by conv=>lhs; simp [Zv,Zy]) (h:=⟨?_,a+1,hlt,rfl,by simp [vnat],rfl⟩);omega
  ·repeat first|refine QG ?_|refine QY ?_ (r:=by conv=>lhs;simp[QV,hlt])
   have hag:a=g.length:=by omega
   subst hag;have e:qm g g.length=(G.table g).map (vl V.bool):=by simp [qm,G.table]
   rw [e];exact jh hwf ((frz1 (by simp) (by rfl) (jF (vl V.bool) (fun _=>rfl) _) (by simp [G.table])).toB _) rfl
end Go.Vw
