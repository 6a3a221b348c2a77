import Derived.Test.YtkfllaokjaldnaaGreatC34
import Derived.Test.YtkfllaokjaldnaaGreatC28
import Derived.Test.YtkfllaokjaldnaaGreatC32
import Derived.Test.YtkfllaokjaldnaaGreatC30
import Derived.Test.YtkfllaokjaldnaaGreatC33
import Derived.Test.YtkfllaokjaldnaaGreatC18
import Derived.Test.YtkfllaokjaldnaaGreatC13
import Derived.Test.YtkfllaokjaldnaaGreatC19
import Derived.Test.YtkfllaokjaldnaaGreatC22
/-
  Part of the proof (texts LPure, LAliveP, BAlive, LAlive, CKinds, CDefs).
-/
set_option linter.unusedVariables false
set_option linter.unusedSimpArgs false
namespace Go.Vw
open Go.Proofs Go.RowKit
set_option maxRecDepth 10000
set_option maxHeartbeats 2000000
theorem LicRunErr_v (e:Ss.Env) (f:Ss.Fn) (he:e.Fits) (hf:f.Fits) (hc:Ss.check e f=false):VPure Tryz.prog 9 [zj e,qT f] (.tuple [qT Ss.emptyFn,vint 6]):=by
 intro S
 have cck:=Check_v e f he hf
 generalize Ss.check e f=ck at *
 obtain ⟨⟨fi,fo⟩,ts,bs⟩:=f
 obtain ⟨sg,im,gl,mu,me⟩:=e
 have cck':VPure Tryz.prog 23 [.agg [vl jJ sg,vint im,vl vint gl,vl V.bool mu, .bool me], .agg [vl vint fi,vl vint fo,vl vint ts,vl jd bs]] (.bool ck):=cck
 refine zm (c:=jf Tryz.f9) Tryz.func9 rfl (by conv=>lhs; reduce) (by simp [Tryz.ntmps9]) ?_
 rw [Tryz.ntmps9]
 intro hwf
 repeat refine QS ?_
 refine QP ?_
 refine QN ?_
 refine jk 2 rfl ((JU (k:=0) (by simp) (by rfl) (by rfl) (by simp))) (by conv=>lhs; simp [Fr.set]) ?_
 simp only [List.set_cons_succ,List.set_cons_zero]
 refine jk 3 rfl ((JU (k:=1) (by simp) (by rfl) (by rfl) (by simp))) (by conv=>lhs; simp [Fr.set]) ?_
 simp only [List.set_cons_succ,List.set_cons_zero]
 refine jO [2,3,4,5] (by conv=>lhs; simp [Fr.only,Fr.look]) ?_
 refine zQ [2] hwf (by decide) (by simp [-List.map_set]) (by conv=>lhs; simp [-List.map_set]) (by conv=>lhs; simp [-List.map_set]) (by conv=>lhs; simp [-List.map_set]) ?_
 repeat (first|refine QG ?_|refine QY ?_)
 repeat refine QS ?_
 refine QP ?_
 refine jc (cck') (by rfl) ?_
 refine QM (by conv=>lhs;simp[-List.map_set,QV,hc]) ?_
 refine QN ?_
 repeat (first|refine QG ?_|refine QY ?_ (r:=by conv=>lhs;simp[-List.map_set,QV,hc]))
 refine doneC (xs:=[.agg [.nils, .nils, .nils, .nils], .int .i64 6]) (by simp) ?_
 exact JB hwf ((Ghost.tuple [] [_] (empty_ghost _)).toB _) WD (by rfl)
theorem LicP_v (e:Ss.Env) (f:Ss.Fn) (he:e.Fits) (hf:f.Fits):VPure Tryz.prog 9 [zj e,qT f] (.tuple [qT (Ss.licOut e f).1,vint (Ss.licOut e f).2]):=by
 cases hc:Ss.check e f with
 | false=>rw [Ss.licOut_f hc]; exact LicRunErr_v e f he hf hc
 | true =>
  rw [Ss.licOut_t hc]
  intro S
  refine Jy fun hwf=>zG ((LicRun_v S e f he hf hc).mono ?_)
  rintro r T ⟨r',rfl,hag,hwT,ot,ob,cells,ids,rfl,hot,hob,how,hnd,hids⟩
  have hg:=fn_ghostD (fi:=(Ss.licF f).sig.inn) (fo:=(Ss.licF f).sig.out) how hob rfl hot rfl hnd
  have hfin:Agree S (T.dels (ot::ob::ids)):=by
   refine ⟨by rw [jbN]; exact hag.1,fun o ho => ?_⟩
   rw [Yf,if_neg]
   ·exact hag.2 o ho
   ·intro hm
    have:=(hids o hm).1; omega
  exact JB hwf ((Ghost.tuple [] [_] hg).toB _) hfin (by simp [qT])
end Go.Vw

namespace Ss
open Go.Vw.G
def smallL:Fn:=⟨⟨[127,127],[]⟩,[127,127,127],[⟨[0,1],[⟨258,0,[],[]⟩],⟨1,0,[⟨1,[]⟩],[]⟩⟩,⟨[],[⟨258,0,[],[]⟩,⟨106,0,[0,1],[2]⟩],⟨1,0,[⟨1,[]⟩],[]⟩⟩]⟩
def smallL':Fn:=⟨⟨[127,127],[]⟩,[127,127,127],[⟨[0,1],[⟨258,0,[],[]⟩,⟨106,0,[0,1],[2]⟩],⟨1,0,[⟨1,[]⟩],[]⟩⟩,⟨[],[⟨258,0,[],[]⟩],⟨1,0,[⟨1,[]⟩],[]⟩⟩]⟩
def envL:Env:=⟨[],0,[],[],false⟩
theorem Zn:defsOf smallL=some [⟨true,0, -1⟩,⟨true,0, -1⟩,⟨true,1,1⟩]:=by decide
theorem smallL_defs':defsOf smallL'=some [⟨true,0, -1⟩,⟨true,0, -1⟩,⟨true,0,1⟩]:=by decide
theorem Kc:succs smallL.blocks=[[1],[1]]:=by decide
theorem jbi:succs smallL'.blocks=[[1],[1]]:=by decide
theorem smallL_near:nearI [[1],[1]]=[-1,0]:=by decide
theorem smallL_rings:rings smallL.blocks [[1],[1]]=false:=by
 simp [rings,smallL,tickB,ringM,ringW,List.range_succ]
theorem smallL_shape:shapeOk smallL=true:=by
 have h1:Go.Vw.G.right [[1],[1]]=true:=by decide
 have h2:Go.Vw.G.ordI [[1],[1]]=[0,1]:=by decide
 have h3:Go.Vw.G.nats [[1],[1]]=[[1],[1]]:=rfl
 simp only [shapeOk,Kc,h1,h2,h3,smallL_rings]
 decide
theorem Kd:check envL smallL=true:=by
 have h1:checkHead envL smallL=true:=by decide
 have hn:numSig 106=([127,127],127,true):=by decide
 have hf : ∀ n o,form envL 106 n o=⟨[127,127],[127],0,true⟩:=fun n o=>by
  have e0:form envL 106 n o=formNum envL 106:=by simp [form]
  rw [e0,formNum,hn]
 have hf2 : ∀ n o,form envL 258 n o=⟨[],[],0,true⟩:=fun n o=>by simp [form]
 simp only [check,h1,Zn,smallL_shape,Bool.true_and]
 rw [Kc,smallL_near]
 simp [smallL,checkBlocks,checkCode,insOk,hf,hf2,insOut,typesOf,asks,Go.Vw.eqF,termOk,termHead,termTail,branches,askOk,edgeOk]
 decide
theorem smallL_froms:froms [[1],[1]]=[[],[0,1]]:=by decide
theorem Zm:loopsTo (rNear [[1],[1]]) (froms [[1],[1]]) 2 2=[(1,[1])]:=by
 have hr:rNear [[1],[1]]=[-1,0]:=by decide
 have hb:backs [-1,0] 1 [0,1]=[1]:=by decide
 have hB : ∀ n,Bk [[],[0,1]] 1 [1] n→n=1:=by
  intro n h
  induction h with
  | start hn=>simpa using hn
  | step _ hn _ ih=>exact absurd ih hn
 have hl:loopIn [[],[0,1]] 1 [1] 2=[false,true]:=by
  have h0 : ¬ (0=1∨Bk [[],[0,1]] 1 [1] 0):=by
   rintro (h | h)
   ·omega
   ·have:=hB 0 h; omega
  have h1 : ¬ Bk [[],[0,1]] 1 [1] 0:=fun h=>h0 (.inr h)
  simp [loopIn,List.range_succ,h1]
 have hb0:backs [-1,0] 0 ([[],[0,1]].getD 0 [])=[]:=rfl
 have hb1:backs [-1,0] 1 ([[],[0,1]].getD 1 [])=[1]:=hb
 rw [hr,smallL_froms,loopsTo,hb1,loopsTo,hb0,loopsTo,hl]
 simp [picked]
theorem smallL_lps:lps smallL.blocks=[(1,[1])]:=by
 have h3:nats [[1],[1]]=[[1],[1]]:=rfl
 rw [lps,Kc,h3]; exact Zm
theorem smallL_lps':lps smallL'.blocks=[(1,[1])]:=by
 have h3:nats [[1],[1]]=[[1],[1]]:=rfl
 rw [lps,jbi,h3]; exact Zm
theorem smallL_small:smallL.small=true:=check_small Kd
theorem smallL_porch:porchF smallL 1 [1]=some 0:=by
 rw [porchF,if_pos smallL_small]; decide
theorem smallL_first:first smallL.blocks (qr smallL) (lps smallL.blocks)=some (0,1,1):=by
 rw [smallL_lps]
 have e:qr smallL=fun v=>(([⟨true,0, -1⟩,⟨true,0, -1⟩,⟨true,1,1⟩]:List Def).getD v.toNat default).block:=by funext v; rw [qr,Zn]; rfl
 rw [e]; decide
theorem jbj:first smallL'.blocks (qr smallL') (lps smallL'.blocks)=none:=by
 rw [smallL_lps']
 have e:qr smallL'=fun v=>(([⟨true,0, -1⟩,⟨true,0, -1⟩,⟨true,0,1⟩]:List Def).getD v.toNat default).block:=by funext v; rw [qr,smallL_defs']; rfl
 rw [e]; decide
theorem smallL_lic:licF smallL=smallL':=by
 have h:=licF_step Kd smallL_first
 have e:moved smallL 0 1 1=smallL':=by decide
 rw [e] at h
 rw [←h]
 exact zV _ jbj
theorem smallL_out:licOut envL smallL=(smallL',0):=by rw [licOut_t Kd,smallL_lic]
theorem smallL_fits:smallL.Fits:=by
 simp [smallL,Fn.Fits,Sig.Fits,Ints,Block.Fits,Ins.Fits,Term.Fits,Edge.Fits,I64]
theorem envL_fits:envL.Fits:=by
 simp [envL,Env.Fits,Ints,I64]
end Ss

namespace Ss
def smallB:Fn:=⟨⟨[127,127],[127]⟩,[127,127],[⟨[0,1],[⟨258,0,[],[]⟩,⟨257,8,[0],[]⟩,⟨257,4,[0],[]⟩,⟨257,4,[1],[]⟩],⟨4,0,[],[0]⟩⟩]⟩
def smallB':Fn:=⟨⟨[127,127],[127]⟩,[127,127],[⟨[0,1],[⟨258,0,[],[]⟩,⟨257,8,[0],[]⟩,⟨257,4,[1],[]⟩],⟨4,0,[],[0]⟩⟩]⟩
def envB:Env:=⟨[],0,[],[],true⟩
end Ss
namespace Go.Vw
open Go.Proofs Go.RowKit
set_option maxRecDepth 10000
set_option maxHeartbeats 8000000
end Go.Vw

namespace Go.Vw
open Go.Proofs Go.RowKit
set_option maxRecDepth 10000
set_option maxHeartbeats 8000000
theorem loop14_v:VPure Tryz.prog 40 [] (qT Ss.smallL):=by
 intro S
 have hr2:rep0 [V.int .i64 0] 2=[.int .i64 0, .int .i64 0]:=rfl
 have hr3:rep0 [V.int .i64 0] 3=[.int .i64 0, .int .i64 0, .int .i64 0]:=rfl
 have hr1:rep0 [V.int .i64 0] 1=[.int .i64 0]:=rfl
 have hr4:rep0 [V.int .i64 0, .int .u64 0, .nils, .nils] 1=[.int .i64 0, .int .u64 0, .nils, .nils]:=rfl
 have hr8:rep0 [V.int .i64 0, .int .u64 0, .nils, .nils] 2=[.int .i64 0, .int .u64 0, .nils, .nils, .int .i64 0, .int .u64 0, .nils, .nils]:=rfl
 have hre:rep0 [V.int .i64 0, .nils] 1=[.int .i64 0, .nils]:=rfl
 have hrb:rep0 [V.nils, .nils, .int .i64 0, .int .i64 0, .nils, .nils] 2=[.nils, .nils, .int .i64 0, .int .i64 0, .nils, .nils, .nils, .nils, .int .i64 0, .int .i64 0, .nils, .nils]:=rfl
 refine zm (c:=jf Tryz.f40) Tryz.func40 rfl (by conv=>lhs; reduce) (by simp [Tryz.ntmps40]) ?_
 rw [Tryz.ntmps40]
 intro hwf
 repeat refine QS ?_
 refine QP ?_
 refine QN ?_
 repeat refine QS ?_
 refine QP ?_ (r:=by conv=>lhs;simp[-List.map_set,QV,hr2,hr1,hr4,hre])
 refine QN ?_
 apply jt
 ·exact Reach.nilCell (k:=2) (i:=2) (by simp) (by rfl) (by rfl)
 simp only [List.set_cons_succ,List.set_cons_zero]
 apply jt
 ·exact Reach.nilCell (k:=2) (i:=3) (by simp) (by rfl) (by rfl)
 simp only [List.set_cons_succ,List.set_cons_zero]
 apply jt
 ·exact Reach.frzCellS (enc:=jp) (s:=4) (fun _=>rfl) zW (k:=4) (j:=2) (i:=1) [⟨258,0,[],[]⟩] (by decide) (by simp) (by simp) (by rfl) (by rfl) (by rfl)
 simp only [List.set_cons_succ,List.set_cons_zero]
 apply jt
 ·exact Reach.frzCell (k:=4) (j:=1) (i:=0) (by decide) (by simp) (by simp) (by rfl) (by rfl) (by rfl) (by rfl) (by rfl)
 simp only [List.set_cons_succ,List.set_cons_zero]
 apply jt
 ·exact Reach.nilCell (k:=3) (i:=1) (by simp) (by rfl) (by rfl)
 simp only [List.set_cons_succ,List.set_cons_zero]
 apply jt
 ·exact Reach.frzCellS (enc:=ji) (s:=2) (fun _=>rfl) zF (k:=4) (j:=3) (i:=4) [⟨1,[]⟩] (by decide) (by simp) (by simp) (by rfl) (by rfl) (by rfl)
 simp only [List.set_cons_succ,List.set_cons_zero]
 apply jt
 ·exact Reach.nilCell (k:=4) (i:=5) (by simp) (by rfl) (by rfl)
 simp only [List.set_cons_succ,List.set_cons_zero]
 repeat refine QS ?_
 refine QP ?_ (r:=by conv=>lhs;simp[-List.map_set,QV,hr2,hr1,hr8,hre])
 refine QN ?_
 apply jt
 ·exact Reach.nilCell (k:=7) (i:=2) (by simp) (by rfl) (by rfl)
 simp only [List.set_cons_succ,List.set_cons_zero]
 apply jt
 ·exact Reach.nilCell (k:=7) (i:=3) (by simp) (by rfl) (by rfl)
 simp only [List.set_cons_succ,List.set_cons_zero]
 apply jt
 ·exact Reach.frzCell (k:=7) (j:=5) (i:=6) (by decide) (by simp) (by simp) (by rfl) (by rfl) (by rfl) (by rfl) (by rfl)
 simp only [List.set_cons_succ,List.set_cons_zero]
 apply jt
 ·exact Reach.frzCell (k:=7) (j:=6) (i:=7) (by decide) (by simp) (by simp) (by rfl) (by rfl) (by rfl) (by rfl) (by rfl)
 simp only [List.set_cons_succ,List.set_cons_zero]
 apply jt
 ·exact Reach.frzCellS (enc:=jp) (s:=4) (fun _=>rfl) zW (k:=9) (j:=7) (i:=1) [⟨258,0,[],[]⟩,⟨106,0,[0,1],[2]⟩] (by decide) (by simp) (by simp) (by rfl) (by rfl) (by rfl)
 simp only [List.set_cons_succ,List.set_cons_zero]
 apply jt
 ·exact Reach.nilCell (k:=8) (i:=1) (by simp) (by rfl) (by rfl)
 simp only [List.set_cons_succ,List.set_cons_zero]
 apply jt
 ·exact Reach.frzCellS (enc:=ji) (s:=2) (fun _=>rfl) zF (k:=9) (j:=8) (i:=4) [⟨1,[]⟩] (by decide) (by simp) (by simp) (by rfl) (by rfl) (by rfl)
 simp only [List.set_cons_succ,List.set_cons_zero]
 apply jt
 ·exact Reach.nilCell (k:=9) (i:=0) (by simp) (by rfl) (by rfl)
 simp only [List.set_cons_succ,List.set_cons_zero]
 apply jt
 ·exact Reach.nilCell (k:=9) (i:=5) (by simp) (by rfl) (by rfl)
 simp only [List.set_cons_succ,List.set_cons_zero]
 repeat refine QS ?_
 refine QP ?_ (r:=by conv=>lhs;simp[-List.map_set,QV,hr2,hr3,hrb])
 refine QN ?_
 apply jt
 ·exact Reach.frzCell (k:=0) (j:=10) (i:=0) (by decide) (by simp) (by simp) (by rfl) (by rfl) (by rfl) (by rfl) (by rfl)
 simp only [List.set_cons_succ,List.set_cons_zero]
 apply jt
 ·exact Reach.nilCell (k:=0) (i:=1) (by simp) (by rfl) (by rfl)
 simp only [List.set_cons_succ,List.set_cons_zero]
 apply jt
 ·exact Reach.frzCell (k:=0) (j:=11) (i:=2) (by decide) (by simp) (by simp) (by rfl) (by rfl) (by rfl) (by rfl) (by rfl)
 simp only [List.set_cons_succ,List.set_cons_zero]
 apply jt
 ·exact Reach.frzCellS (enc:=jd) (s:=6) (fun _=>rfl) Km (k:=0) (j:=12) (i:=3) [⟨[0,1],[⟨258,0,[],[]⟩],⟨1,0,[⟨1,[]⟩],[]⟩⟩,⟨[],[⟨258,0,[],[]⟩,⟨106,0,[0,1],[2]⟩],⟨1,0,[⟨1,[]⟩],[]⟩⟩] (by decide) (by simp) (by simp) (by rfl) (by rfl) (by rfl)
 simp only [List.set_cons_succ,List.set_cons_zero]
 repeat (first|refine QG ?_|refine QY ?_)
 exact doneC (by simp; rfl) (ja hwf (by simp [Ss.smallL,vl]) rfl)
theorem envL_ghost (S:Store):Ghost (.agg [.nils, .int .i64 0, .nils, .nils, .bool false]) S (zj Ss.envL) S:=by
 refine Ghost.agg_nl rfl fun i x y hx hy => ?_
 match i,hx,hy with
 | 0,hx,hy=>cases hx; cases hy; exact .inr ⟨rfl,rfl⟩
 | 1,hx,hy=>cases hx; cases hy; exact .inl rfl
 | 2,hx,hy=>cases hx; cases hy; exact .inr ⟨rfl,rfl⟩
 | 3,hx,hy=>cases hx; cases hy; exact .inr ⟨rfl,rfl⟩
 | 4,hx,hy=>cases hx; cases hy; exact .inl rfl
theorem Alive14_v:VPure Tryz.prog 12 [] (.bool true):=by
 intro S
 have hr1:rep0 [V.int .i64 0] 1=[.int .i64 0]:=rfl
 have cs:=loop14_v
 have cb:=LicP_v Ss.envL Ss.smallL Ss.envL_fits Ss.smallL_fits
 have cp:=Porch_v Ss.smallL Ss.smallL_fits 1 [1] (by decide)
 rw [Ss.smallL_out] at cb
 rw [Ss.smallL_porch] at cp
 have hF':qT Ss.smallL' = .agg [vl vint [127,127],vl vint [],vl vint [127,127,127],vl jd [⟨[0,1],[⟨258,0,[],[]⟩,⟨106,0,[0,1],[2]⟩],⟨1,0,[⟨1,[]⟩],[]⟩⟩,⟨[],[⟨258,0,[],[]⟩],⟨1,0,[⟨1,[]⟩],[]⟩⟩]]:=rfl
 obtain ⟨f1,f2,f3,f4,hF,o1,o2,o3,o4,c1,c2,c3,c4⟩ : ∃ f1 f2 f3 f4,qT Ss.smallL = .agg [f1,f2,f3,f4]∧f1.one=true∧f2.one=true∧f3.one=true∧f4.one=true∧f1.closed1=true∧f2.closed1=true∧f3.closed1=true∧f4.closed1=true:=⟨_,_,_,_,rfl,rfl,rfl,rfl,rfl,rfl,rfl,rfl,rfl⟩
 rw [hF] at cs cb cp
 rw [hF'] at cb
 refine jb (c:=jf Tryz.f12) Tryz.func12 rfl rfl (by simp [Tryz.ntmps12]) ?_
 rw [Tryz.ntmps12]
 intro hwf
 repeat refine QS ?_
 refine QP ?_
 refine QN ?_
 repeat refine QS ?_
 refine QP ?_
 refine jn rfl (cs) ?_
 refine qW rfl (GhostArgs.one [] [_] (envL_ghost _)) cb ?_
 refine QM (by conv=>lhs;simp[-List.map_set,QV]) ?_
 refine QN ?_
 refine jk 1 rfl ((JU (k:=0) (by simp) (by rfl) (by rfl) (by simp))) (by conv=>lhs; simp [Fr.set]) ?_
 simp only [List.set_cons_succ,List.set_cons_zero]
 repeat refine QS ?_
 refine QP ?_
 refine jn rfl (cs) ?_
 refine QM (by conv=>lhs;simp[-List.map_set,QV,hr1]) ?_
 refine qW rfl (GhostArgs.one [_,_] [] (frz1 (k:=1) (len:=1) (by simp) rfl rfl rfl)) cp ?_
 simp only [porchV]
 refine QM (by conv=>lhs;simp[-List.map_set,QV]) ?_
 refine QN ?_
 have hix0 : ∀ S,qe 6 S (vl jd [⟨[0,1],[⟨258,0,[],[]⟩,⟨106,0,[0,1],[2]⟩],⟨1,0,[⟨1,[]⟩],[]⟩⟩,⟨[],[⟨258,0,[],[]⟩],⟨1,0,[⟨1,[]⟩],[]⟩⟩]) (.int .i64 0)=some (.ref (.agg [vl vint [0,1],vl jp [⟨258,0,[],[]⟩,⟨106,0,[0,1],[2]⟩], .int .i64 1, .int .i64 0,vl ji [⟨1,[]⟩],vl vint []])):=fun _=>rfl
 have hix1 : ∀ S,qe 6 S (vl jd [⟨[0,1],[⟨258,0,[],[]⟩,⟨106,0,[0,1],[2]⟩],⟨1,0,[⟨1,[]⟩],[]⟩⟩,⟨[],[⟨258,0,[],[]⟩],⟨1,0,[⟨1,[]⟩],[]⟩⟩]) (.int .i64 1)=some (.ref (.agg [vl vint [],vl jp [⟨258,0,[],[]⟩], .int .i64 1, .int .i64 0,vl ji [⟨1,[]⟩],vl vint []])):=fun _=>rfl
 repeat (first|refine QG ?_|refine QY ?_ (r:=by conv=>lhs;simp[-List.map_set,QV,hix0,hix1]))
 exact ja (X := .bool true) hwf (by simp) rfl
end Go.Vw

namespace Go.Vw
open Go.Proofs Go.RowKit
set_option maxRecDepth 10000
set_option maxHeartbeats 2000000
theorem rkind_v (t:Int):VPure Tryz.prog 85 [vint t] (.bool (Ss.isKind t)):=by
 intro S
 refine jb (c:=jf Tryz.f85) Tryz.func85 rfl rfl (by simp [Tryz.ntmps85]) ?_
 rw [Tryz.ntmps85]
 intro hwf
 by_cases h:t=127
 ·repeat (first|refine QG ?_|refine QY ?_ (r:=by conv=>lhs;simp[-List.map_set,QV,h]))
  exact ja hwf (by simp [Ss.isKind,h]) rfl
 ·repeat (first|refine QG ?_|refine QY ?_ (r:=by conv=>lhs;simp[-List.map_set,QV,h]))
  exact ja hwf (by simp [Ss.isKind,h]) rfl
theorem YN (most:Nat) (l:List Int) (hl:l.length<2^63):VPure Tryz.prog 42 [vl vint l,vnat most] (.bool (Ss.kinds most l)):=by
 intro S
 by_cases h:l.length≤most
 case neg =>
  have h':(most:Int)<(l.length:Int):=by omega
  have hX:Ss.kinds most l=false:=by simp [Ss.kinds,h]
  rw [hX]
  refine jb (c:=jf Tryz.f42) Tryz.func42 rfl rfl (by simp [Tryz.ntmps42]) ?_
  rw [Tryz.ntmps42]
  intro hwf
  repeat (first|refine QG ?_|refine QY ?_ (r:=by conv=>lhs;simp[-List.map_set,QV,h,h']))
  exact ja hwf rfl rfl
 have h' : ¬ (most:Int)<(l.length:Int):=by omega
 have hX:Ss.kinds most l=l.all Ss.isKind:=by simp [Ss.kinds,h]
 rw [hX]
 refine jb (c:=jf Tryz.f42) Tryz.func42 rfl rfl (by simp [Tryz.ntmps42]) ?_
 rw [Tryz.ntmps42]
 intro hwf
 repeat (first|refine QG ?_|refine QY ?_ (r:=by conv=>lhs;simp[-List.map_set,QV,h,h']))
 repeat refine QS ?_
 refine je [0,5] rfl (fun c σ S' => ∃ (k:Nat),k≤l.length∧c=l.length-k∧(l.drop k).all Ss.isKind=l.all Ss.isKind∧σ=[(0,vl vint l),(5,vnat k)]∧S'=St S [] []) l.length ?_ ?_
 ·exact ⟨0,by omega,rfl,rfl,by simp [Fr.only],rfl⟩
 ·rintro c σ T ⟨k,hk,rfl,hd,rfl,rfl⟩
  by_cases hkt:k<l.length
  ·have hst:=Ss.drop_all Ss.isKind hkt
   have hw:=jo hkt hl
   repeat (first|refine QG ?_|refine QY ?_ (r:=by conv=>lhs;simp[-List.map_set,QV,hkt]))
   repeat refine QS ?_
   refine QP ?_ (r:=by conv=>lhs;simp[-List.map_set,QV,hkt])
   refine jc (rkind_v l[k]) (by rfl) ?_
   generalize Ss.isKind l[k]=z at *
   by_cases hz:z=true
   ·refine QM (by conv=>lhs;simp[-List.map_set,QV,hz]) ?_
    refine QN ?_
    repeat (first|refine QG ?_|refine QY ?_ (r:=by conv=>lhs;simp[-List.map_set,QV,hw,hkt]))
    show jy _ _ _ _ _ _ _
    exact again ⟨by omega,k+1,by omega,rfl,by rw [←hd,hst,hz,Bool.true_and],by simp [Fr.only],rfl⟩
   ·have hz':z=false:=by simpa using hz
    refine QM (by conv=>lhs;simp[-List.map_set,QV,hz']) ?_
    refine QN ?_
    repeat (first|refine QG ?_|refine QY ?_)
    rw [←hd,hst,hz',Bool.false_and]
    exact ja hwf rfl rfl
  ·repeat (first|refine QG ?_|refine QY ?_ (r:=by conv=>lhs;simp[-List.map_set,QV,hkt]))
   rw [←hd,Ss.drop_all_end _ hkt]
   exact ja hwf rfl rfl
theorem rsig_v (s:Ss.Sig) (hs:s.Fits):VPure Tryz.prog 43 [jJ s] (.bool s.right):=by
 intro S
 obtain ⟨⟨h1,_⟩,⟨h2,_⟩⟩:=hs
 obtain ⟨a,b⟩:=s
 simp only at h1 h2
 have hX:Ss.Sig.right ⟨a,b⟩=(Ss.kinds 8 a&&Ss.kinds 8 b):=rfl
 rw [hX]
 have c1:VPure Tryz.prog 42 [vl vint a, .int .i64 8] (.bool (Ss.kinds 8 a)):=YN 8 a (by omega)
 have c2:VPure Tryz.prog 42 [vl vint b, .int .i64 8] (.bool (Ss.kinds 8 b)):=YN 8 b (by omega)
 generalize Ss.kinds 8 a=x at *
 generalize Ss.kinds 8 b=y at *
 refine jb (c:=jf Tryz.f43) Tryz.func43 rfl rfl (by simp [Tryz.ntmps43]) ?_
 rw [Tryz.ntmps43]
 intro hwf
 repeat (first|refine QG ?_|refine QY ?_)
 repeat refine QS ?_
 refine QP ?_
 refine jc (c1) (by rfl) ?_
 by_cases hx:x=true
 ·refine QM (by conv=>lhs;simp[-List.map_set,QV,hx]) ?_
  refine jc (c2) (by rfl) ?_
  refine QM (by conv=>lhs;simp[-List.map_set,QV]) ?_
  refine QN ?_
  repeat (first|refine QG ?_|refine QY ?_)
  exact ja hwf (by simp [hx]) rfl
 ·have hx':x=false:=by simpa using hx
  refine QM (by conv=>lhs;simp[-List.map_set,QV,hx']) ?_
  refine QN ?_
  repeat (first|refine QG ?_|refine QY ?_)
  exact ja hwf (by simp [hx']) rfl
theorem REnvRight_v (e:Ss.Env) (he:e.Fits):VPure Tryz.prog 41 [zj e] (.bool e.right):=by
 intro S
 obtain ⟨⟨h1,h2⟩,_,⟨h4,_⟩,h5⟩:=he
 obtain ⟨sg,im,gl,mu,me⟩:=e
 simp only at h1 h2 h4 h5
 have hX:Ss.Env.right ⟨sg,im,gl,mu,me⟩=(decide (0≤im)&&decide (im≤sg.length)&&decide (sg.length≤64)&&decide (mu.length=gl.length)&&Ss.kinds 32 gl&&sg.all Ss.Sig.right):=rfl
 rw [hX]
 have c1:VPure Tryz.prog 42 [vl vint gl, .int .i64 32] (.bool (Ss.kinds 32 gl)):=YN 32 gl (by omega)
 generalize Ss.kinds 32 gl=x at *
 refine jb (c:=jf Tryz.f41) Tryz.func41 rfl rfl (by simp [Tryz.ntmps41]) ?_
 rw [Tryz.ntmps41]
 intro hwf
 by_cases k3:(64:Int)<(sg.length:Int)
 ·repeat (first|refine QG ?_|refine QY ?_ (r:=by conv=>lhs;simp[-List.map_set,QV,k3]))
  exact ja hwf (by simp; omega) rfl
 by_cases k1:im<0
 ·repeat (first|refine QG ?_|refine QY ?_ (r:=by conv=>lhs;simp[-List.map_set,QV,k1,k3]))
  exact ja hwf (by simp; omega) rfl
 by_cases k2:(sg.length:Int)<im
 ·repeat (first|refine QG ?_|refine QY ?_ (r:=by conv=>lhs;simp[-List.map_set,QV,k1,k2,k3]))
  exact ja hwf (by simp; omega) rfl
 repeat (first|refine QG ?_|refine QY ?_ (r:=by conv=>lhs;simp[-List.map_set,QV,k1,k2,k3]))
 repeat refine QS ?_
 refine QP ?_ (r:=by conv=>lhs;simp[-List.map_set,QV,k1,k2,k3])
 refine jc (c1) (by rfl) ?_
 by_cases hx:x=true
 case neg =>
  have hx':x=false:=by simpa using hx
  refine QM (by conv=>lhs;simp[-List.map_set,QV,hx']) ?_
  refine QN ?_
  repeat (first|refine QG ?_|refine QY ?_)
  exact ja hwf (by simp [hx']) rfl
 by_cases k4:mu.length=gl.length
 case neg =>
  have k4' : ¬ (mu.length:Int)=(gl.length:Int):=by omega
  refine QM (by conv=>lhs;simp[-List.map_set,QV,hx,k4,k4']) ?_
  refine QN ?_
  repeat (first|refine QG ?_|refine QY ?_)
  exact ja hwf (by simp [k4]) rfl
 have k4':(mu.length:Int)=(gl.length:Int):=by omega
 have hp:(decide (0≤im)&&decide (im≤sg.length)&&decide (sg.length≤64)&&decide (mu.length=gl.length))=true:=by simp [k4]; omega
 rw [hp,hx]
 refine QM (by conv=>lhs;simp[-List.map_set,QV,hx,k4,k4']) ?_
 refine QN ?_
 repeat (first|refine QG ?_|refine QY ?_)
 have hl:sg.length<2^63:=by omega
 rw [Bool.true_and,Bool.true_and]
 repeat refine QS ?_
 refine je [1,3] rfl (fun c σ S' => ∃ (k:Nat),k≤sg.length∧c=sg.length-k∧(sg.drop k).all Ss.Sig.right=sg.all Ss.Sig.right∧σ=[(1, .ptr (lid S.nx 0) 0),(3,vnat k)]∧S'=St S [] [some (5,[vl jJ sg,vint im,vl vint gl,vl V.bool mu, .bool me])]) sg.length ?_ ?_
 ·exact ⟨0,by omega,rfl,rfl,by simp [Fr.only],rfl⟩
 ·rintro c σ T ⟨k,hk,rfl,hd,rfl,rfl⟩
  by_cases hkt:k<sg.length
  ·have hst:=Ss.drop_all Ss.Sig.right hkt
   have hw:=jo hkt hl
   have c2:=rsig_v sg[k] (h2 _ (List.getElem_mem hkt))
   generalize hz0:Ss.Sig.right sg[k]=z at *
   obtain ⟨⟨a,b⟩,hb⟩ : ∃ s,sg[k]=s:=⟨_,rfl⟩
   rw [hb] at c2
   have c2':VPure Tryz.prog 43 [.agg [vl vint a,vl vint b]] (.bool z):=c2
   repeat (first|refine QG ?_|refine QY ?_ (r:=by conv=>lhs;simp[-List.map_set,QV,hkt]))
   repeat refine QS ?_
   refine QP ?_ (r:=by conv=>lhs;simp[-List.map_set,QV,hkt,hb])
   refine jc (c2') (by rfl) ?_
   by_cases hz:z=true
   ·refine QM (by conv=>lhs;simp[-List.map_set,QV,hz]) ?_
    refine QN ?_
    repeat (first|refine QG ?_|refine QY ?_ (r:=by conv=>lhs;simp[-List.map_set,QV,hw,hkt]))
    show jy _ _ _ _ _ _ _
    exact again ⟨by omega,k+1,by omega,rfl,by rw [←hd,hst,hz,Bool.true_and],by simp [Fr.only],rfl⟩
   ·have hz':z=false:=by simpa using hz
    refine QM (by conv=>lhs;simp[-List.map_set,QV,hz']) ?_
    refine QN ?_
    repeat (first|refine QG ?_|refine QY ?_)
    rw [←hd,hst,hz',Bool.false_and]
    exact ja hwf rfl rfl
  ·repeat (first|refine QG ?_|refine QY ?_ (r:=by conv=>lhs;simp[-List.map_set,QV,hkt]))
   rw [←hd,Ss.drop_all_end _ hkt]
   exact ja hwf rfl rfl
end Go.Vw

namespace Ss
def putLs (i:Int):Nat→List Def→List (List Int)→Option (List Def)
 | _,ds,[]=>some ds
 | j,ds,l::r=>(put i ((j:Int)-1) ds l).bind fun d=>putLs i (j+1) d r
theorem jaI (i:Int) : ∀ (code:List Ins) (k:Nat) (ds:List Def),putLs i (k+1) ds (code.map (·.outs))=putCode i k ds code
 | [],k,ds=>rfl
 | x::r,k,ds=>by
  have e:(((k+1:Nat):Int)-1)=(k:Int):=by omega
  simp only [List.map_cons,putLs,putCode,e]
  congr 1
  funext d
  exact jaI i r (k+1) d
def Block.lists (b:Block):List (List Int):=b.params::b.code.map (·.outs)
theorem putLs_block (i:Nat) (ds:List Def) (b:Block):putLs i 0 ds b.lists=(put i (-1) ds b.params).bind fun d=>putCode i 0 d b.code:=by
 simp only [Block.lists,putLs]
 congr 1
 funext d
 exact jaI i b.code 0 d
theorem putLs_one {i:Int} {j:Nat} {ds:List Def} {ls:List (List Int)} (h:j<ls.length):putLs i j ds (ls.drop j)=(put i ((j:Int)-1) ds ls[j]).bind fun d=>putLs i (j+1) d (ls.drop (j+1)):=by
 rw [List.drop_eq_getElem_cons h,putLs]
theorem putLs_end {i:Int} {j:Nat} {ds:List Def} {ls:List (List Int)} (h : ¬ j<ls.length):putLs i j ds (ls.drop j)=some ds:=by
 have:ls.drop j=[]:=by rw [List.drop_eq_nil_iff]; omega
 rw [this,putLs]
end Ss
namespace Go.Vw
open Go.Proofs Go.RowKit
set_option maxRecDepth 10000
set_option maxHeartbeats 8000000
def jZ (d:Ss.Def):V := .agg [vint (if d.made then d.block else -1),vint (if d.made then d.pos else 0)]
theorem Ww (d:Ss.Def):(jZ d).cells=[vint (if d.made then d.block else -1),vint (if d.made then d.pos else 0)]:=rfl
theorem Ju (d:Ss.Def):(jZ d).closed=true:=rfl
theorem encRDef_eq (d:Ss.Def):jZ d = .agg [vint (if d.made then d.block else -1),vint (if d.made then d.pos else 0)]:=nr rfl
theorem zg (f:Nat→Nat) (l:List Ss.Def):V.renL f (jq jZ l)=jq jZ l:=Wr Ju f l
theorem zh (p:Nat→Bool) (l:List Ss.Def):V.idsL p (jq jZ l)=true:=Ws Ju p l
def rdefsV:Option (List Ss.Def)→V
 | some d => .tuple [vl jZ d, .bool true]
 | none => .tuple [.list [], .bool false]
theorem Defs_v (f:Ss.Fn) (hf:f.Fits) (hts:f.types.length≤1048576):VPure Tryz.prog 44 [qT f] (rdefsV (Ss.defsOf f)):=by
 intro S
 obtain ⟨_,_,⟨hbl0,hbf⟩⟩:=hf
 obtain ⟨⟨fi,fo⟩,ts,bs⟩:=f
 simp only at hts hbl0 hbf
 have hbl:bs.length<2^63:=by omega
 have htl:ts.length<2^63:=by omega
 generalize hD:Ss.defsOf ⟨⟨fi,fo⟩,ts,bs⟩=D
 refine jb (c:=jf Tryz.f44) Tryz.func44 rfl rfl (by simp [Tryz.ntmps44]) ?_
 rw [Tryz.ntmps44]
 intro hwf
 repeat refine QS ?_
 refine QP ?_
 refine QN ?_
 repeat refine QS ?_
 refine QP ?_
 refine QN ?_
 refine zd 4 2 rfl (by conv=>lhs; simp [Fr.set]) ?_
 repeat (first|refine QG ?_|refine QY ?_)
 repeat refine QS ?_
 refine je [1,4,5] rfl (fun c σ S' => ∃ (k:Nat),k≤ts.length∧c=ts.length-k∧σ=[(1, .ptr (lid S.nx 0) 0),(4, .slice (lid S.nx 1) 0 k),(5,vnat k)]∧S'=St S [] [some (4,[vl vint fi,vl vint fo,vl vint ts,vl jd bs]),some (2,jq jZ (List.replicate k ⟨false,0,0⟩))]) ts.length ?_ ?_
 ·exact ⟨0,by omega,rfl,by simp [Fr.only],by simp [jq]⟩
 ·rintro c σ T ⟨k,hk,rfl,rfl,rfl⟩
  by_cases hkt:k<ts.length
  ·have hw:=jo hkt htl
   have hfl2:k*2=(jq jZ (List.replicate k ⟨false,0,0⟩)).length:=by rw [Kl (enc:=jZ) (s:=2) (fun _=>rfl)]; simp
   have hc16:(k+1)*16≤140737488355328:=by omega
   have hc1:k+1≤140737488355328:=by omega
   have hsnoc:jq jZ (List.replicate (k+1) ⟨false,0,0⟩)=jq jZ (List.replicate k ⟨false,0,0⟩)++[.int .i64 (-1), .int .i64 0]:=by rw [List.replicate_succ',JA,Ww]; rfl
   repeat (first|refine QG ?_|refine QY ?_ (r:=by conv=>lhs;simp[-List.map_set,QV,hkt,hfl2,hc16,hc1,rep0]))
   refine qi [0,3] (by conv=>lhs; simp [Fr.only]) hwf (by decide) (by simp [-List.map_set,zg,zh]) (by conv=>lhs; simp [-List.map_set,zg,zh]) (by conv=>lhs; simp [-List.map_set,zg,zh]) (by conv=>lhs; simp [-List.map_set,zg,zh]) ⟨?_,k+1,hkt,rfl,by simp [hw],by rw [hsnoc]⟩
   omega
  ·have hke:k=ts.length:=by omega
   subst hke
   repeat (first|refine QG ?_|refine QY ?_ (r:=by conv=>lhs;simp[-List.map_set,QV,hkt]))
   repeat refine QS ?_
   refine je [1,4,6] rfl (fun c σ S' => ∃ (k:Nat) (d:List Ss.Def),k≤bs.length∧c=bs.length-k∧d.length=ts.length∧(∀ x∈d,x.made=true→0≤x.block)∧Ss.putBlocks k d (bs.drop k)=D∧σ=[(1, .ptr (lid S.nx 0) 0),(4, .slice (lid S.nx 1) 0 ts.length),(6,vnat k)]∧S'=St S [] [some (4,[vl vint fi,vl vint fo,vl vint ts,vl jd bs]),some (2,jq jZ d)]) bs.length ?_ ?_
   ·exact ⟨0,List.replicate ts.length ⟨false,0,0⟩,by omega,rfl,by simp,by simp,by rw [←hD]; rfl,by simp [Fr.only],rfl⟩
   ·rintro c σ T ⟨k,d,hk,rfl,hdl,hnn,hpd,rfl,rfl⟩
    by_cases hkt:k<bs.length
    ·have hw:=jo hkt hbl
     have hst:=Wh (ds:=d) hkt
     rw [←Ss.putLs_block] at hst
     have hbk:=hbf _ (List.getElem_mem hkt)
     obtain ⟨⟨ps,code,⟨tk,ta,to,az⟩⟩,hx⟩ : ∃ b,bs[k]=b:=⟨_,rfl⟩
     rw [hx] at hst hbk
     obtain ⟨⟨hpl,_⟩,⟨hcl,hcf⟩,_⟩:=hbk
     simp only at hst hpl hcl hcf
     obtain ⟨L,hL⟩ : ∃ L,Ss.Block.lists ⟨ps,code,⟨tk,ta,to,az⟩⟩=L:=⟨_,rfl⟩
     rw [hL] at hst
     have hLl:L.length=code.length+1:=by rw [←hL]; simp [Ss.Block.lists]
     repeat (first|refine QG ?_|refine QY ?_ (r:=by conv=>lhs;simp[-List.map_set,QV,hkt,hx]))
     repeat refine QS ?_
     refine je [1,4,6,7,8] rfl (fun c σ S' => ∃ (j:Nat) (d:List Ss.Def) (p:Int),j≤L.length∧c=L.length-j∧p=(j:Int)-1∧d.length=ts.length∧(∀ x∈d,x.made=true→0≤x.block)∧((Ss.putLs k j d (L.drop j)).bind fun d=>Ss.putBlocks (k+1) d (bs.drop (k+1)))=D∧σ=[(1, .ptr (lid S.nx 0) 0),(4, .slice (lid S.nx 1) 0 ts.length),(6,vnat k),(7, .ptr (lid S.nx 2) 0),(8, .int .i64 p)]∧S'=St S [] [some (4,[vl vint fi,vl vint fo,vl vint ts,vl jd bs]),some (2,jq jZ d),some (6,[vl vint ps,vl jp code,vint tk,vint ta,vl ji to,vl vint az])]) L.length ?_ ?_
     ·exact ⟨0,d, -1,by omega,rfl,by omega,hdl,hnn,by rw [←hpd,hst]; rfl,by simp [Fr.only],rfl⟩
     ·rintro c σ T ⟨j,d,p,hj,rfl,hp,hdl,hnn,hpd,rfl,rfl⟩
      by_cases hjt:j<L.length
      ·have hwp:IntKind.i64.wrap (p+1)=p+1:=wrap_i64 (by omega) (by omega)
       have hpc:p<(code.length:Int):=by omega
       have hst:=Ss.putLs_one (i:=(k:Int)) (ds:=d) hjt
       rw [hst] at hpd
       obtain ⟨l,hl⟩ : ∃ l,L[j]=l:=⟨_,rfl⟩
       rw [hl, ←hp] at hpd
       have hlen:l.length<2^63:=by
        cases j with
        | zero =>
         have:l=ps:=by rw [←hl]; simp [←hL,Ss.Block.lists]
         rw [this]; omega
        | succ m =>
         have hm:m<code.length:=by omega
         have:l=code[m].outs:=by rw [←hl]; simp [←hL,Ss.Block.lists]
         have hxf:=hcf _ (List.getElem_mem hm)
         obtain ⟨_,_,_,hxo,_⟩:=hxf
         rw [this]; omega
       repeat (first|refine QG ?_|refine QY ?_ (r:=by conv=>lhs;simp[-List.map_set,QV,hpc]))
       refine Zd (fun σ S'=>σ=[(1, .ptr (lid S.nx 0) 0),(4, .slice (lid S.nx 1) 0 ts.length),(6,vnat k),(7, .ptr (lid S.nx 2) 0),(8, .int .i64 p),(9,vl vint l)]∧S'=St S [] [some (4,[vl vint fi,vl vint fo,vl vint ts,vl jd bs]),some (2,jq jZ d),some (6,[vl vint ps,vl jp code,vint tk,vint ta,vl ji to,vl vint az])]) [1,4,6,7,8,9] ?_ ?_
       ·cases j with
        | zero =>
         obtain rfl:l=ps:=by rw [←hl]; simp [←hL,Ss.Block.lists]
         obtain rfl:p = -1:=by omega
         repeat (first|refine QG ?_|refine QY ?_)
         exact ⟨by simp [Fr.only],by simp⟩
        | succ m =>
         have hm:m<code.length:=by omega
         obtain rfl:p=(m:Int):=by omega
         obtain ⟨⟨o1,o2,o3,o4⟩,hxm⟩ : ∃ x,code[m]=x:=⟨_,rfl⟩
         obtain rfl:l=o4:=by
          have:l=code[m].outs:=by rw [←hl]; simp [←hL,Ss.Block.lists]
          rw [this,hxm]
         repeat (first|refine QG ?_|refine QY ?_ (r:=by conv=>lhs;simp[-List.map_set,QV,hm,hxm]))
         exact ⟨by simp [Fr.only],by simp⟩
       rintro σ S' ⟨rfl,rfl⟩
       repeat (first|refine QG ?_|refine QY ?_)
       repeat refine QS ?_
       refine je [1,4,6,7,8,9,10] rfl (fun c σ S' => ∃ (m:Nat) (d2:List Ss.Def),m≤l.length∧c=l.length-m∧d2.length=ts.length∧(∀ x∈d2,x.made=true→0≤x.block)∧(((Ss.put k p d2 (l.drop m)).bind fun d=>Ss.putLs k (j+1) d (L.drop (j+1))).bind fun d=>Ss.putBlocks (k+1) d (bs.drop (k+1)))=D∧σ=[(1, .ptr (lid S.nx 0) 0),(4, .slice (lid S.nx 1) 0 ts.length),(6,vnat k),(7, .ptr (lid S.nx 2) 0),(8, .int .i64 p),(9,vl vint l),(10,vnat m)]∧S'=St S [] [some (4,[vl vint fi,vl vint fo,vl vint ts,vl jd bs]),some (2,jq jZ d2),some (6,[vl vint ps,vl jp code,vint tk,vint ta,vl ji to,vl vint az])]) l.length ?_ ?_
       ·exact ⟨0,d,by omega,rfl,hdl,hnn,hpd,by simp [Fr.only],rfl⟩
       ·rintro c σ T ⟨m,d2,hm,rfl,hdl,hnn,hpd,rfl,rfl⟩
        by_cases hmt:m<l.length
        ·have hwm:=jo hmt hlen
         have hst:Ss.put k p d2 (l.drop m)=if l[m]<0∨(d2.length:Int)≤l[m]∨(d2.getD l[m].toNat default).made=true then none else Ss.put k p (d2.set l[m].toNat ⟨true,k,p⟩) (l.drop (m+1)):=by rw [List.drop_eq_getElem_cons hmt,Ss.put]
         obtain ⟨v,hxv⟩ : ∃ v,l[m]=v:=⟨_,rfl⟩
         rw [hxv] at hst
         have bad:(v<0∨(d2.length:Int)≤v∨(d2.getD v.toNat default).made=true)→D=none:=fun hb=>by rw [←hpd,hst,if_pos hb]; rfl
         by_cases q1:v<0
         ·repeat (first|refine QG ?_|refine QY ?_ (r:=by conv=>lhs;simp[-List.map_set,QV,hmt,hxv,q1]))
          obtain rfl:=bad (.inl q1)
          exact jh hwf ((Ghost.tuple [] [_] (Ghost.nils_list _)).toB _) rfl
         obtain ⟨n,rfl⟩ : ∃ n:Nat,v=n:=⟨v.toNat,by omega⟩
         by_cases q2:n<d2.length
         case neg =>
          have q2':(ts.length:Int)≤(n:Int):=by omega
          obtain rfl:=bad (.inr (.inl (by omega)))
          repeat (first|refine QG ?_|refine QY ?_ (r:=by conv=>lhs;simp[-List.map_set,QV,hmt,hxv,q1,q2']))
          exact jh hwf ((Ghost.tuple [] [_] (Ghost.nils_list _)).toB _) rfl
         have q2' : ¬ (ts.length:Int)≤(n:Int):=by omega
         obtain ⟨⟨dm,db,dp⟩,hdx⟩ : ∃ x,d2[n]=x:=⟨_,rfl⟩
         have hdg:d2.getD (n:Int).toNat default=⟨dm,db,dp⟩:=by simp [q2,hdx]
         have hcell:(jq jZ d2)[n*2]? = some (vint (if dm then db else -1)):=Wt (enc:=jZ) (s:=2) (fun _=>rfl) d2 n 0 ⟨dm,db,dp⟩ _ (by rw [←hdx]; exact List.getElem?_eq_getElem q2) rfl
         have hfl:(jq jZ d2).length=d2.length*2:=Kl (enc:=jZ) (s:=2) (fun _=>rfl) d2
         have hn2:n<ts.length:=by omega
         by_cases q3:dm=true
         ·obtain rfl:=bad (.inr (.inr (by rw [hdg]; exact q3)))
          subst q3
          have hb0:0≤db:=by
           have:=hnn _ (List.getElem_mem q2)
           rw [hdx] at this
           exact this rfl
          repeat (first|refine QG ?_|refine QY ?_ (r:=by conv=>lhs;simp[-List.map_set,QV,hmt,hxv,q1,q2',hcell,hn2,hb0]))
          exact jh hwf ((Ghost.tuple [] [_] (Ghost.nils_list _)).toB _) rfl
         ·obtain rfl:dm=false:=by simpa using q3
          have hfit:n*2+2≤(jq jZ d2).length:=by omega
          rw [if_neg (by rw [hdg]; rintro (h | h | h)<;>first | exact q1 h | exact q3 h | omega)] at hst
          have hfs:=ZS (enc:=jZ) (s:=2) (fun _=>rfl) ⟨true,k,p⟩ d2 n q2
          repeat (first|refine QG ?_|refine QY ?_ (r:=by conv=>lhs;simp[-List.map_set,QV,hmt,hxv,q1,q2',hcell,hn2,hfit]))
          show jy _ _ _ _ _ _ _
          exact again ⟨Nat.sub_lt_sub_left hmt (Nat.lt_succ_self m),m+1,d2.set n ⟨true,k,p⟩,hmt,rfl,by simp [hdl],fun x hx hm=>(List.mem_or_eq_of_mem_set hx).elim (fun h=>hnn x h hm) (fun h=>by rw [h]; simp),by rw [←hpd,hst]; rfl,by simp [Fr.only,hwm],by rw [hfs]; simp [Ww]⟩
        ·have e1:l.drop m=[]:=by rw [List.drop_eq_nil_iff]; omega
         rw [e1] at hpd
         have hpd2:((Ss.putLs k (j+1) d2 (L.drop (j+1))).bind fun d=>Ss.putBlocks (k+1) d (bs.drop (k+1)))=D:=hpd
         repeat (first|refine QG ?_|refine QY ?_ (r:=by conv=>lhs;simp[-List.map_set,QV,hmt,hwp]))
         show jy _ _ _ _ _ _ _
         exact again ⟨Nat.sub_lt_sub_left hjt (Nat.lt_succ_self j),j+1,d2,p+1,hjt,rfl,by omega,hdl,hnn,hpd2,by simp [Fr.only,hwp],rfl⟩
      ·have hpc : ¬ p<(code.length:Int):=by omega
       rw [Ss.putLs_end hjt] at hpd
       simp only [Option.bind_some] at hpd
       repeat (first|refine QG ?_|refine QY ?_ (r:=by conv=>lhs;simp[-List.map_set,QV,hpc]))
       refine qi [0,1] (by conv=>lhs; simp [Fr.only]) hwf (by decide) (by simp [-List.map_set,zg,zh]) (by conv=>lhs; simp [-List.map_set,zg,zh]) (by conv=>lhs; simp [-List.map_set,zg,zh]) (by conv=>lhs; simp [-List.map_set,zg,zh]) ⟨?_,k+1,d,hkt,rfl,hdl,hnn,hpd,by simp [hw],by simp⟩
       omega
    ·repeat (first|refine QG ?_|refine QY ?_ (r:=by conv=>lhs;simp[-List.map_set,QV,hkt]))
     have e1:bs.drop k=[]:=by rw [List.drop_eq_nil_iff]; omega
     rw [e1] at hpd
     have hpe:D=some d:=by rw [←hpd]; rfl
     subst hpe
     have hfz:=frzSt (B:=S) (u:=[]) (l:=[some (4,[vl vint fi,vl vint fo,vl vint ts,vl jd bs]),some (2,jq jZ d)]) (k:=1) (enc:=jZ) (s:=2) (fun _=>rfl) Ju d (by simp) (by rfl)
     rw [hdl] at hfz
     exact jh hwf ((Ghost.tuple [] [_] hfz).toB _) rfl
end Go.Vw
