import Derived.Test.YtkfllaokjaldnaaC33
import Derived.Test.YtkfllaokjaldnaaC27
import Derived.Test.YtkfllaokjaldnaaC30
import Derived.Test.YtkfllaokjaldnaaC29
import Derived.Test.YtkfllaokjaldnaaC18
/-
  Part of the proof (texts LPure, BAlive, LAlive, LRPor, LLPorch).
-/
set_option linter.unusedVariables false
set_option linter.unusedSimpArgs false
namespace Go.Vw
open Go.Proofs Go.RowKit
set_option maxRecDepth 10000
set_option maxHeartbeats 2000000
theorem LicRunErr_v (e:Ss.Env) (f:Ss.Fn) (he:e.Fits) (hf:f.Fits) (hc:Ss.check e f=false):VPure Try.prog 11 [zS e,za f] (.tuple [za Ss.emptyFn,vint 6]):=by
 intro S
 have cck:=Check_v e f he hf
 generalize Ss.check e f=ck at *
 obtain ⟨⟨fi,fo⟩,ts,bs⟩:=f
 obtain ⟨sg,im,gl,mu,me⟩:=e
 have cck':VPure Try.prog 15 [.agg [vl zt sg,vint im,vl vint gl,vl V.bool mu, .bool me], .agg [vl vint fi,vl vint fo,vl vint ts,vl jd bs]] (.bool ck):=cck
 refine qT (c:=jf Try.f11) Try.func11 rfl (by conv=>lhs; reduce) (by simp [Try.ntmps11]) ?_
 rw [Try.ntmps11]
 intro hwf
 repeat refine QS ?_
 refine QP ?_
 refine QN ?_
 refine jh 2 rfl ((Kr (k:=0) (by simp) (by rfl) (by rfl) (by simp))) (by conv=>lhs; simp [Fr.set]) ?_
 simp only [List.set_cons_succ,List.set_cons_zero]
 refine jh 3 rfl ((Kr (k:=1) (by simp) (by rfl) (by rfl) (by simp))) (by conv=>lhs; simp [Fr.set]) ?_
 simp only [List.set_cons_succ,List.set_cons_zero]
 refine jD [2,3,4,5] (by conv=>lhs; simp [Fr.only,Fr.look]) ?_
 refine zK [2] hwf (by decide) (by simp [-List.map_set]) (by conv=>lhs; simp [-List.map_set]) (by conv=>lhs; simp [-List.map_set]) (by conv=>lhs; simp [-List.map_set]) ?_
 repeat (first|refine QG ?_|refine QY ?_)
 repeat refine QS ?_
 refine QP ?_
 refine jc (cck') (by rfl) ?_
 refine QM (by conv=>lhs;simp[-List.map_set,QV,hc]) ?_
 refine QN ?_
 repeat (first|refine QG ?_|refine QY ?_ (r:=by conv=>lhs;simp[-List.map_set,QV,hc]))
 refine doneC (xs:=[.agg [.nils, .nils, .nils, .nils], .int .i64 6]) (by simp) ?_
 exact WA hwf ((Ghost.tuple [] [_] (empty_ghost _)).toB _) jba (by rfl)
theorem LicP_v (e:Ss.Env) (f:Ss.Fn) (he:e.Fits) (hf:f.Fits):VPure Try.prog 11 [zS e,za f] (.tuple [za (Ss.licOut e f).1,vint (Ss.licOut e f).2]):=by
 cases hc:Ss.check e f with
 | false=>rw [Ss.licOut_f hc]; exact LicRunErr_v e f he hf hc
 | true =>
  rw [Ss.licOut_t hc]
  intro S
  refine JE fun hwf=>zV ((LicRun_v S e f he hf hc).mono ?_)
  rintro r T ⟨r',rfl,hag,hwT,ot,ob,cells,ids,rfl,hot,hob,how,hnd,hids⟩
  have hg:=fn_ghostD (fi:=(Ss.licF f).sig.inn) (fo:=(Ss.licF f).sig.out) how hob rfl hot rfl hnd
  have hfin:Agree S (T.dels (ot::ob::ids)):=by
   refine ⟨by rw [jaS]; exact hag.1,fun o ho => ?_⟩
   rw [WB,if_neg]
   ·exact hag.2 o ho
   ·intro hm
    have:=(hids o hm).1; omega
  exact WA hwf ((Ghost.tuple [] [_] hg).toB _) hfin (by simp [za])
end Go.Vw

namespace Ss
def smallB:Fn:=⟨⟨[127,127],[127]⟩,[127,127],[⟨[0,1],[⟨258,0,[],[]⟩,⟨257,8,[0],[]⟩,⟨257,4,[0],[]⟩,⟨257,4,[1],[]⟩],⟨4,0,[],[0]⟩⟩]⟩
def smallB':Fn:=⟨⟨[127,127],[127]⟩,[127,127],[⟨[0,1],[⟨258,0,[],[]⟩,⟨257,8,[0],[]⟩,⟨257,4,[1],[]⟩],⟨4,0,[],[0]⟩⟩]⟩
def envB:Env:=⟨[],0,[],[],true⟩
end Ss
namespace Go.Vw
open Go.Proofs Go.RowKit
set_option maxRecDepth 10000
set_option maxHeartbeats 8000000
end Go.Vw

namespace Go.Vw
open Go.Proofs Go.RowKit
set_option maxRecDepth 10000
set_option maxHeartbeats 8000000
theorem loop14_v:VPure Try.prog 12 [] (za Ss.smallL):=by
 intro S
 have hr2:rep0 [V.int .i64 0] 2=[.int .i64 0, .int .i64 0]:=rfl
 have hr3:rep0 [V.int .i64 0] 3=[.int .i64 0, .int .i64 0, .int .i64 0]:=rfl
 have hr1:rep0 [V.int .i64 0] 1=[.int .i64 0]:=rfl
 have hr4:rep0 [V.int .i64 0, .int .u64 0, .nils, .nils] 1=[.int .i64 0, .int .u64 0, .nils, .nils]:=rfl
 have hr8:rep0 [V.int .i64 0, .int .u64 0, .nils, .nils] 2=[.int .i64 0, .int .u64 0, .nils, .nils, .int .i64 0, .int .u64 0, .nils, .nils]:=rfl
 have hre:rep0 [V.int .i64 0, .nils] 1=[.int .i64 0, .nils]:=rfl
 have hrb:rep0 [V.nils, .nils, .int .i64 0, .int .i64 0, .nils, .nils] 2=[.nils, .nils, .int .i64 0, .int .i64 0, .nils, .nils, .nils, .nils, .int .i64 0, .int .i64 0, .nils, .nils]:=rfl
 refine qT (c:=jf Try.f12) Try.func12 rfl (by conv=>lhs; reduce) (by simp [Try.ntmps12]) ?_
 rw [Try.ntmps12]
 intro hwf
 repeat refine QS ?_
 refine QP ?_
 refine QN ?_
 repeat refine QS ?_
 refine QP ?_ (r:=by conv=>lhs;simp[-List.map_set,QV,hr2,hr1,hr4,hre])
 refine QN ?_
 apply jx
 ·exact Reach.nilCell (k:=2) (i:=2) (by simp) (by rfl) (by rfl)
 simp only [List.set_cons_succ,List.set_cons_zero]
 apply jx
 ·exact Reach.nilCell (k:=2) (i:=3) (by simp) (by rfl) (by rfl)
 simp only [List.set_cons_succ,List.set_cons_zero]
 apply jx
 ·exact Reach.frzCellS (enc:=js) (s:=4) (fun _=>rfl) zE (k:=4) (j:=2) (i:=1) [⟨258,0,[],[]⟩] (by decide) (by simp) (by simp) (by rfl) (by rfl) (by rfl)
 simp only [List.set_cons_succ,List.set_cons_zero]
 apply jx
 ·exact Reach.frzCell (k:=4) (j:=1) (i:=0) (by decide) (by simp) (by simp) (by rfl) (by rfl) (by rfl) (by rfl) (by rfl)
 simp only [List.set_cons_succ,List.set_cons_zero]
 apply jx
 ·exact Reach.nilCell (k:=3) (i:=1) (by simp) (by rfl) (by rfl)
 simp only [List.set_cons_succ,List.set_cons_zero]
 apply jx
 ·exact Reach.frzCellS (enc:=ji) (s:=2) (fun _=>rfl) zl (k:=4) (j:=3) (i:=4) [⟨1,[]⟩] (by decide) (by simp) (by simp) (by rfl) (by rfl) (by rfl)
 simp only [List.set_cons_succ,List.set_cons_zero]
 apply jx
 ·exact Reach.nilCell (k:=4) (i:=5) (by simp) (by rfl) (by rfl)
 simp only [List.set_cons_succ,List.set_cons_zero]
 repeat refine QS ?_
 refine QP ?_ (r:=by conv=>lhs;simp[-List.map_set,QV,hr2,hr1,hr8,hre])
 refine QN ?_
 apply jx
 ·exact Reach.nilCell (k:=7) (i:=2) (by simp) (by rfl) (by rfl)
 simp only [List.set_cons_succ,List.set_cons_zero]
 apply jx
 ·exact Reach.nilCell (k:=7) (i:=3) (by simp) (by rfl) (by rfl)
 simp only [List.set_cons_succ,List.set_cons_zero]
 apply jx
 ·exact Reach.frzCell (k:=7) (j:=5) (i:=6) (by decide) (by simp) (by simp) (by rfl) (by rfl) (by rfl) (by rfl) (by rfl)
 simp only [List.set_cons_succ,List.set_cons_zero]
 apply jx
 ·exact Reach.frzCell (k:=7) (j:=6) (i:=7) (by decide) (by simp) (by simp) (by rfl) (by rfl) (by rfl) (by rfl) (by rfl)
 simp only [List.set_cons_succ,List.set_cons_zero]
 apply jx
 ·exact Reach.frzCellS (enc:=js) (s:=4) (fun _=>rfl) zE (k:=9) (j:=7) (i:=1) [⟨258,0,[],[]⟩,⟨106,0,[0,1],[2]⟩] (by decide) (by simp) (by simp) (by rfl) (by rfl) (by rfl)
 simp only [List.set_cons_succ,List.set_cons_zero]
 apply jx
 ·exact Reach.nilCell (k:=8) (i:=1) (by simp) (by rfl) (by rfl)
 simp only [List.set_cons_succ,List.set_cons_zero]
 apply jx
 ·exact Reach.frzCellS (enc:=ji) (s:=2) (fun _=>rfl) zl (k:=9) (j:=8) (i:=4) [⟨1,[]⟩] (by decide) (by simp) (by simp) (by rfl) (by rfl) (by rfl)
 simp only [List.set_cons_succ,List.set_cons_zero]
 apply jx
 ·exact Reach.nilCell (k:=9) (i:=0) (by simp) (by rfl) (by rfl)
 simp only [List.set_cons_succ,List.set_cons_zero]
 apply jx
 ·exact Reach.nilCell (k:=9) (i:=5) (by simp) (by rfl) (by rfl)
 simp only [List.set_cons_succ,List.set_cons_zero]
 repeat refine QS ?_
 refine QP ?_ (r:=by conv=>lhs;simp[-List.map_set,QV,hr2,hr3,hrb])
 refine QN ?_
 apply jx
 ·exact Reach.frzCell (k:=0) (j:=10) (i:=0) (by decide) (by simp) (by simp) (by rfl) (by rfl) (by rfl) (by rfl) (by rfl)
 simp only [List.set_cons_succ,List.set_cons_zero]
 apply jx
 ·exact Reach.nilCell (k:=0) (i:=1) (by simp) (by rfl) (by rfl)
 simp only [List.set_cons_succ,List.set_cons_zero]
 apply jx
 ·exact Reach.frzCell (k:=0) (j:=11) (i:=2) (by decide) (by simp) (by simp) (by rfl) (by rfl) (by rfl) (by rfl) (by rfl)
 simp only [List.set_cons_succ,List.set_cons_zero]
 apply jx
 ·exact Reach.frzCellS (enc:=jd) (s:=6) (fun _=>rfl) JO (k:=0) (j:=12) (i:=3) [⟨[0,1],[⟨258,0,[],[]⟩],⟨1,0,[⟨1,[]⟩],[]⟩⟩,⟨[],[⟨258,0,[],[]⟩,⟨106,0,[0,1],[2]⟩],⟨1,0,[⟨1,[]⟩],[]⟩⟩] (by decide) (by simp) (by simp) (by rfl) (by rfl) (by rfl)
 simp only [List.set_cons_succ,List.set_cons_zero]
 repeat (first|refine QG ?_|refine QY ?_)
 exact doneC (by simp; rfl) (jb hwf (by simp [Ss.smallL,vl]) rfl)
theorem envL_ghost (S:Store):Ghost (.agg [.nils, .int .i64 0, .nils, .nils, .bool false]) S (zS Ss.envL) S:=by
 refine Ghost.agg_nl rfl fun i x y hx hy => ?_
 match i,hx,hy with
 | 0,hx,hy=>cases hx; cases hy; exact .inr ⟨rfl,rfl⟩
 | 1,hx,hy=>cases hx; cases hy; exact .inl rfl
 | 2,hx,hy=>cases hx; cases hy; exact .inr ⟨rfl,rfl⟩
 | 3,hx,hy=>cases hx; cases hy; exact .inr ⟨rfl,rfl⟩
 | 4,hx,hy=>cases hx; cases hy; exact .inl rfl
theorem Alive14_v:VPure Try.prog 6 [] (.bool true):=by
 intro S
 have hr1:rep0 [V.int .i64 0] 1=[.int .i64 0]:=rfl
 have cs:=loop14_v
 have cb:=LicP_v Ss.envL Ss.smallL Ss.envL_fits Ss.smallL_fits
 have cp:=Porch_v Ss.smallL Ss.smallL_fits 1 [1] (by decide)
 rw [Ss.smallL_out] at cb
 rw [Ss.smallL_porch] at cp
 have hF':za Ss.smallL' = .agg [vl vint [127,127],vl vint [],vl vint [127,127,127],vl jd [⟨[0,1],[⟨258,0,[],[]⟩,⟨106,0,[0,1],[2]⟩],⟨1,0,[⟨1,[]⟩],[]⟩⟩,⟨[],[⟨258,0,[],[]⟩],⟨1,0,[⟨1,[]⟩],[]⟩⟩]]:=rfl
 obtain ⟨f1,f2,f3,f4,hF,o1,o2,o3,o4,c1,c2,c3,c4⟩ : ∃ f1 f2 f3 f4,za Ss.smallL = .agg [f1,f2,f3,f4]∧f1.one=true∧f2.one=true∧f3.one=true∧f4.one=true∧f1.closed1=true∧f2.closed1=true∧f3.closed1=true∧f4.closed1=true:=⟨_,_,_,_,rfl,rfl,rfl,rfl,rfl,rfl,rfl,rfl,rfl⟩
 rw [hF] at cs cb cp
 rw [hF'] at cb
 refine ja (c:=jf Try.f6) Try.func6 rfl rfl (by simp [Try.ntmps6]) ?_
 rw [Try.ntmps6]
 intro hwf
 repeat refine QS ?_
 refine QP ?_
 refine QN ?_
 repeat refine QS ?_
 refine QP ?_
 refine jm rfl (cs) ?_
 refine zf rfl (GhostArgs.one [] [_] (envL_ghost _)) cb ?_
 refine QM (by conv=>lhs;simp[-List.map_set,QV]) ?_
 refine QN ?_
 refine jh 1 rfl ((Kr (k:=0) (by simp) (by rfl) (by rfl) (by simp))) (by conv=>lhs; simp [Fr.set]) ?_
 simp only [List.set_cons_succ,List.set_cons_zero]
 repeat refine QS ?_
 refine QP ?_
 refine jm rfl (cs) ?_
 refine QM (by conv=>lhs;simp[-List.map_set,QV,hr1]) ?_
 refine zf rfl (GhostArgs.one [_,_] [] (frz1 (k:=1) (len:=1) (by simp) rfl rfl rfl)) cp ?_
 simp only [Kh]
 refine QM (by conv=>lhs;simp[-List.map_set,QV]) ?_
 refine QN ?_
 have hix0 : ∀ S,jU 6 S (vl jd [⟨[0,1],[⟨258,0,[],[]⟩,⟨106,0,[0,1],[2]⟩],⟨1,0,[⟨1,[]⟩],[]⟩⟩,⟨[],[⟨258,0,[],[]⟩],⟨1,0,[⟨1,[]⟩],[]⟩⟩]) (.int .i64 0)=some (.ref (.agg [vl vint [0,1],vl js [⟨258,0,[],[]⟩,⟨106,0,[0,1],[2]⟩], .int .i64 1, .int .i64 0,vl ji [⟨1,[]⟩],vl vint []])):=fun _=>rfl
 have hix1 : ∀ S,jU 6 S (vl jd [⟨[0,1],[⟨258,0,[],[]⟩,⟨106,0,[0,1],[2]⟩],⟨1,0,[⟨1,[]⟩],[]⟩⟩,⟨[],[⟨258,0,[],[]⟩],⟨1,0,[⟨1,[]⟩],[]⟩⟩]) (.int .i64 1)=some (.ref (.agg [vl vint [],vl js [⟨258,0,[],[]⟩], .int .i64 1, .int .i64 0,vl ji [⟨1,[]⟩],vl vint []])):=fun _=>rfl
 repeat (first|refine QG ?_|refine QY ?_ (r:=by conv=>lhs;simp[-List.map_set,QV,hix0,hix1]))
 exact jb (X := .bool true) hwf (by simp) rfl
end Go.Vw

namespace Go.Vw
open Go.Proofs Go.RowKit
set_option maxRecDepth 10000
set_option maxHeartbeats 4000000
theorem RIn_v (l:List Int) (n:Int) (hl:l.length<2^63):VPure Try.prog 10 [vl vint l,vint n] (.bool (decide (n∈l))):=by
 intro S
 refine ja (c:=jf Try.f10) Try.func10 rfl rfl (by simp [Try.ntmps10]) ?_
 rw [Try.ntmps10]
 intro hwf
 repeat (first|refine QG ?_|refine QY ?_)
 repeat refine QS ?_
 refine je [0,1,5] rfl (fun c σ S' => ∃ (k:Nat),k≤l.length∧c=l.length-k∧decide (n∈l.drop k)=decide (n∈l)∧σ=[(0,vl vint l),(1,vint n),(5,vnat k)]∧S'=St S [] []) l.length ?_ ?_
 ·exact ⟨0,by omega,rfl,rfl,by simp [Fr.only],rfl⟩
 ·rintro c σ T ⟨k,hk,rfl,hd,rfl,rfl⟩
  by_cases hkt:k<l.length
  ·have hw:=jn hkt hl
   rw [List.drop_eq_getElem_cons hkt] at hd
   by_cases hp:l[k]=n
   ·have h1:decide (n∈l)=true:=decide_eq_true (hp▸List.getElem_mem hkt)
    rw [h1]
    repeat (first|refine QG ?_|refine QY ?_ (r:=by conv=>lhs;simp[-List.map_set,QV,hkt,hp]))
    exact jb hwf rfl rfl
   ·have h1:decide (n∈l.drop (k+1))=decide (n∈l):=by
     rw [←hd,Bool.eq_iff_iff,decide_eq_true_iff,decide_eq_true_iff,List.mem_cons]
     exact ⟨.inr,fun h=>h.resolve_left (Ne.symm hp)⟩
    repeat (first|refine QG ?_|refine QY ?_ (r:=by conv=>lhs;simp[-List.map_set,QV,hkt,hp,hw]))
    show jC _ _ _ _ _ _ _
    exact again ⟨Nat.sub_lt_sub_left hkt (Nat.lt_succ_self k),k+1,hkt,rfl,h1,by simp [Fr.only,Fr.look],rfl⟩
  ·have e:l.drop k=[]:=by rw [List.drop_eq_nil_iff]; omega
   rw [e] at hd
   have h1:decide (n∈l)=false:=by rw [←hd]; simp
   rw [h1]
   repeat (first|refine QG ?_|refine QY ?_ (r:=by conv=>lhs;simp[-List.map_set,QV,hkt]))
   exact jb hwf rfl rfl
theorem RPorch_v (f:Ss.Fn) (hf:f.Fits) (head:Int) (nodes:List Int) (hn:nodes.length<2^63):VPure Try.prog 5 [za f,vint head,vl vint nodes] (Kh (Ss.porchF f head nodes)):=by
 intro S
 have cs:=RSmall_v f hf
 have cc:=fun x=>RIn_v nodes x hn
 have hsb := @qq f
 have hfb:=hf.2.2.2
 generalize hsm:f.small=sm at *
 cases sm with
 | false =>
  have hr:Ss.porchF f head nodes=none:=by unfold Ss.porchF; rw [hsm]; rfl
  rw [hr]
  clear hr hsm hsb hf
  obtain ⟨⟨fi,fo⟩,ts,bs⟩:=f
  have cs':VPure Try.prog 9 [.agg [vl vint fi,vl vint fo,vl vint ts,vl jd bs]] (.bool false):=cs
  refine ja (c:=jf Try.f5) Try.func5 rfl rfl (by simp [Try.ntmps5]) ?_
  rw [Try.ntmps5]
  intro hwf
  repeat (first|refine QG ?_|refine QY ?_)
  repeat refine QS ?_
  refine QP ?_
  refine jc (cs') (by rfl) ?_
  refine QM (by conv=>lhs;simp[-List.map_set,QV]) ?_
  refine QN ?_
  repeat (first|refine QG ?_|refine QY ?_)
  exact jb hwf rfl rfl
 | true =>
 obtain ⟨rows,hrows⟩ : ∃ rows,rows=Ss.succs f.blocks:=⟨_,rfl⟩
 obtain ⟨_,hb1,hb2,_⟩:=hsb rfl
 obtain ⟨R,hR⟩ : ∃ R,Ss.scanG head nodes 0 rows (0,0)=R:=⟨_,rfl⟩
 have hsp:=(Ss.scan_spec head nodes rows 0 (0,0)).2.2
 rw [hR] at hsp
 have hres:Ss.porchF f head nodes=if R.2≠1∨(f.blocks.getD R.1.toNat default).term.kind≠1 then none else some R.1:=by
  unfold Ss.porchF Ss.porch
  rw [hsm,if_pos rfl, ←hrows,hR]
 have hin:R.2=1 → ∃ j:Nat,R.1=(j:Int)∧j<f.blocks.length:=fun h=>by
  obtain ⟨j,l,h1,_,_,h4,_⟩:=hsp (by simpa using h)
  refine ⟨j,by simpa using h4, ?_⟩
  have:=(List.getElem?_eq_some_iff.1 h1).1
  rw [hrows] at this
  simpa [Ss.succs] using this
 rw [hres]
 clear hres hsp hsb hf hsm
 obtain ⟨⟨fi,fo⟩,ts,bs⟩:=f
 have cs':VPure Try.prog 9 [.agg [vl vint fi,vl vint fo,vl vint ts,vl jd bs]] (.bool true):=cs
 simp only at *
 have hrl:rows.length=bs.length:=by rw [hrows]; simp [Ss.succs]
 refine ja (c:=jf Try.f5) Try.func5 rfl rfl (by simp [Try.ntmps5]) ?_
 rw [Try.ntmps5]
 intro hwf
 repeat refine QS ?_
 refine QP ?_
 refine QN ?_
 refine jh 3 rfl ((Kr (k:=0) (by simp) (by rfl) (by rfl) (by simp))) (by conv=>lhs; simp [Fr.set]) ?_
 simp only [List.set_cons_succ,List.set_cons_zero]
 refine jD [1,2,3] (by conv=>lhs; simp [Fr.only,Fr.look]) ?_
 refine zK [] hwf (by decide) (by simp [-List.map_set]) (by conv=>lhs; simp [-List.map_set]) (by conv=>lhs; simp [-List.map_set]) (by conv=>lhs; simp [-List.map_set]) ?_
 repeat refine QS ?_
 refine QP ?_
 refine jc (cs') (by rfl) ?_
 refine QM (by conv=>lhs;simp[-List.map_set,QV]) ?_
 refine QN ?_
 repeat (first|refine QG ?_|refine QY ?_)
 repeat refine QS ?_
 refine je [1,2,3,8,9,10] rfl (fun c σ S' => ∃ (k:Nat) (at':Int) (many:Nat),k≤bs.length∧c=bs.length-k∧many≤4096*k∧Ss.scanG head nodes k (rows.drop k) (at',many)=R∧σ=[(1,vint head),(2,vl vint nodes),(3,(V.agg [vl vint fi,vl vint fo,vl vint ts,vl jd bs]).ref),(8,vint at'),(9,vnat many),(10,vnat k)]∧S'=St S [] []) bs.length ?_ ?_
 ·exact ⟨0,0,0,by omega,rfl,by omega,hR,by simp [Fr.only],rfl⟩
 ·rintro c σ T ⟨k,at',many,hk,rfl,hm,hsc,rfl,rfl⟩
  by_cases hkt:k<bs.length
  ·have hw:=jn hkt (by omega)
   have hkr:k<rows.length:=by omega
   rw [List.drop_eq_getElem_cons hkr,Ss.scanG] at hsc
   have hr4:=(hb2 _ (List.getElem_mem hkt)).2.1
   have hrow:rows[k]=Ss.rowOf bs[k]:=by subst hrows; simp [Ss.succs]
   obtain ⟨⟨ps,code,⟨tk,ta,to,az⟩⟩,hx⟩ : ∃ b,bs[k]=b:=⟨_,rfl⟩
   rw [hrow] at hsc
   rw [hx] at hsc hr4
   have hsc0:Ss.scanG head nodes (k+1) (rows.drop (k+1)) (if (k:Int)∈nodes then (at',many) else Ss.scanRow head k ((to.drop 0).map Ss.Edge.to) (at',many))=R:=hsc
   simp only at hr4
   repeat (first|refine QG ?_|refine QY ?_ (r:=by conv=>lhs;simp[-List.map_set,QV,hkt]))
   repeat refine QS ?_
   refine je [1,2,3,8,9,10,11] rfl (fun c σ S' => ∃ (j:Nat) (at':Int) (many:Nat),j≤to.length∧c=to.length-j∧many≤4096*k+j∧Ss.scanG head nodes (k+1) (rows.drop (k+1)) (if (k:Int)∈nodes then (at',many) else Ss.scanRow head k ((to.drop j).map Ss.Edge.to) (at',many))=R∧σ=[(1,vint head),(2,vl vint nodes),(3,(V.agg [vl vint fi,vl vint fo,vl vint ts,vl jd bs]).ref),(8,vint at'),(9,vnat many),(10,vnat k),(11,vnat j)]∧S'=St S [] []) to.length ?_ ?_
   ·exact ⟨0,at',many,by omega,rfl,by omega,hsc0,by simp [Fr.only,Fr.look],rfl⟩
   ·rintro c σ T ⟨j,at',many,hj,rfl,hm,hsc,rfl,rfl⟩
    by_cases hjt:j<to.length
    ·have hwj:=jn hjt (by omega)
     have hwm:=jn (k:=many) (n:=many+1) (by omega) (by omega)
     rw [List.drop_eq_getElem_cons hjt,List.map_cons,Ss.scanRow_cons] at hsc
     obtain ⟨⟨xt,xa⟩,hx2⟩ : ∃ b,to[j]=b:=⟨_,rfl⟩
     rw [hx2] at hsc
     simp only at hsc
     by_cases he:xt=head
     ·rw [if_pos he] at hsc
      by_cases hin2:(k:Int)∈nodes
      ·rw [if_pos hin2] at hsc
       have hsc':Ss.scanG head nodes (k+1) (rows.drop (k+1)) (if (k:Int)∈nodes then (at',many) else Ss.scanRow head k ((to.drop (j+1)).map Ss.Edge.to) (at',many))=R:=by rw [if_pos hin2]; exact hsc
       repeat (first|refine QG ?_|refine QY ?_ (r:=by conv=>lhs;simp[-List.map_set,QV,hkt,hx,hjt]))
       repeat refine QS ?_
       refine QP ?_ (r:=by conv=>lhs;simp[-List.map_set,QV,hkt,hx,hjt,hx2,he])
       refine jm rfl (cc (k:Int)) ?_
       refine QM (by conv=>lhs;simp[-List.map_set,QV,hin2]) ?_
       refine QN ?_
       repeat (first|refine QG ?_|refine QY ?_ (r:=by conv=>lhs;simp[-List.map_set,QV,hin2,hwj]))
       show jC _ _ _ _ _ _ _
       exact again ⟨Nat.sub_lt_sub_left hjt (Nat.lt_succ_self j),j+1,at',many,hjt,rfl,by omega,hsc',by simp [Fr.only,Fr.look],rfl⟩
      ·rw [if_neg hin2] at hsc
       have hsc':Ss.scanG head nodes (k+1) (rows.drop (k+1)) (if (k:Int)∈nodes then ((k:Int),many+1) else Ss.scanRow head k ((to.drop (j+1)).map Ss.Edge.to) ((k:Int),many+1))=R:=by rw [if_neg hin2]; exact hsc
       repeat (first|refine QG ?_|refine QY ?_ (r:=by conv=>lhs;simp[-List.map_set,QV,hkt,hx,hjt]))
       repeat refine QS ?_
       refine QP ?_ (r:=by conv=>lhs;simp[-List.map_set,QV,hkt,hx,hjt,hx2,he])
       refine jm rfl (cc (k:Int)) ?_
       refine QM (by conv=>lhs;simp[-List.map_set,QV,hin2]) ?_
       refine QN ?_
       repeat (first|refine QG ?_|refine QY ?_ (r:=by conv=>lhs;simp[-List.map_set,QV,hin2,hwj,hwm]))
       show jC _ _ _ _ _ _ _
       exact again ⟨Nat.sub_lt_sub_left hjt (Nat.lt_succ_self j),j+1,(k:Int),many+1,hjt,rfl,by omega,hsc',by simp [Fr.only,Fr.look],rfl⟩
     ·rw [if_neg he] at hsc
      repeat (first|refine QG ?_|refine QY ?_ (r:=by conv=>lhs;simp[-List.map_set,QV,hkt,hx,hjt]))
      repeat refine QS ?_
      refine QP ?_ (r:=by conv=>lhs;simp[-List.map_set,QV,hkt,hx,hjt,hx2,he])
      refine QN ?_
      repeat (first|refine QG ?_|refine QY ?_ (r:=by conv=>lhs;simp[-List.map_set,QV,hwj]))
      show jC _ _ _ _ _ _ _
      exact again ⟨Nat.sub_lt_sub_left hjt (Nat.lt_succ_self j),j+1,at',many,hjt,rfl,by omega,hsc,by simp [Fr.only,Fr.look],rfl⟩
    ·have e:to.drop j=[]:=by rw [List.drop_eq_nil_iff]; omega
     rw [e] at hsc
     have hsc':Ss.scanG head nodes (k+1) (rows.drop (k+1)) (at',many)=R:=by
      revert hsc; split<;>exact id
     repeat (first|refine QG ?_|refine QY ?_ (r:=by conv=>lhs;simp[-List.map_set,QV,hkt,hx,hjt,hw]))
     show jC _ _ _ _ _ _ _
     exact again ⟨Nat.sub_lt_sub_left hkt (Nat.lt_succ_self k),k+1,at',many,hkt,rfl,by omega,hsc',by simp [Fr.only,Fr.look],rfl⟩
  ·have e:rows.drop k=[]:=by rw [List.drop_eq_nil_iff]; omega
   rw [e] at hsc
   have hsc':(at',many)=R:=hsc
   subst hsc'
   simp only at hin ⊢
   by_cases h1:many=1
   ·obtain ⟨q,rfl,hq⟩:=hin h1
    obtain ⟨⟨ps,code,⟨tk,ta,to,az⟩⟩,hx⟩ : ∃ b,bs[q]=b:=⟨_,rfl⟩
    have hgd:bs.getD ((q:Int)).toNat default=⟨ps,code,⟨tk,ta,to,az⟩⟩:=by rw [List.getD_eq_getElem?_getD,Int.toNat_natCast,List.getElem?_eq_getElem hq,hx]; rfl
    rw [hgd]
    subst h1
    by_cases ht:tk=1
    ·subst ht
     rw [if_neg (by simp)]
     repeat (first|refine QG ?_|refine QY ?_ (r:=by conv=>lhs;simp[-List.map_set,QV,hkt,hq,hx]))
     exact jb hwf rfl rfl
    ·rw [if_pos (.inr ht)]
     repeat (first|refine QG ?_|refine QY ?_ (r:=by conv=>lhs;simp[-List.map_set,QV,hkt,hq,hx,ht]))
     exact jb hwf rfl rfl
   ·rw [if_pos (.inl h1)]
    have h2 : ¬ (many:Int)=1:=by omega
    repeat (first|refine QG ?_|refine QY ?_ (r:=by conv=>lhs;simp[-List.map_set,QV,hkt,h1,h2]))
    exact jb hwf rfl rfl
end Go.Vw

namespace Go.Vw
open Go.Proofs Go.RowKit
set_option maxRecDepth 10000
set_option maxHeartbeats 2000000
theorem jbc (f:Ss.Fn) (hf:f.Fits) (head:Int) (nodes:List Int) (hn:nodes.length<2^63):VPure Try.prog 3 [za f,vint head,vl vint nodes] (.bool true):=by
 intro S
 have cp:=Porch_v f hf head nodes hn
 have cr:=RPorch_v f hf head nodes hn
 have cal:=Alive14_v
 obtain ⟨al,hal⟩ : ∃ al,al=true:=⟨_,rfl⟩
 rw [←hal] at cal
 generalize Ss.porchF f head nodes=po at *
 clear hf
 obtain ⟨⟨fi,fo⟩,ts,bs⟩:=f
 have cp':VPure Try.prog 4 [.agg [vl vint fi,vl vint fo,vl vint ts,vl jd bs],vint head,vl vint nodes] (Kh po):=cp
 have cr':VPure Try.prog 5 [.agg [vl vint fi,vl vint fo,vl vint ts,vl jd bs],vint head,vl vint nodes] (Kh po):=cr
 refine ja (c:=jf Try.f3) Try.func3 rfl rfl (by simp [Try.ntmps3]) ?_
 rw [Try.ntmps3]
 intro hwf
 repeat refine QS ?_
 refine QP ?_
 refine QN ?_
 refine jh 3 rfl ((Kr (k:=0) (by simp) (by rfl) (by rfl) (by simp))) (by conv=>lhs; simp [Fr.set]) ?_
 simp only [List.set_cons_succ,List.set_cons_zero]
 repeat refine QS ?_
 refine QP ?_
 refine jc (cp') (by rfl) ?_
 cases po with
 | none =>
  simp only [Kh] at cr' ⊢
  refine QM (by conv=>lhs;simp[-List.map_set,QV]) ?_
  refine QN ?_
  repeat refine QS ?_
  refine QP ?_
  refine jc (cr') (by rfl) ?_
  refine QM (by conv=>lhs;simp[-List.map_set,QV]) ?_
  refine QN ?_
  repeat refine QS ?_
  refine QP ?_
  refine jc (cal) (by rfl) ?_
  refine QM (by conv=>lhs;simp[-List.map_set,QV,hal]) ?_
  refine QN ?_
  repeat (first|refine QG ?_|refine QY ?_)
  exact jb (X := .bool true) hwf (by simp) rfl
 | some p =>
  simp only [Kh] at cr' ⊢
  refine QM (by conv=>lhs;simp[-List.map_set,QV]) ?_
  refine QN ?_
  repeat refine QS ?_
  refine QP ?_
  refine jc (cr') (by rfl) ?_
  refine QM (by conv=>lhs;simp[-List.map_set,QV]) ?_
  refine QN ?_
  repeat refine QS ?_
  refine QP ?_
  refine jc (cal) (by rfl) ?_
  refine QM (by conv=>lhs;simp[-List.map_set,QV,hal]) ?_
  refine QN ?_
  repeat (first|refine QG ?_|refine QY ?_)
  exact jb (X := .bool true) hwf (by simp) rfl
end Go.Vw
