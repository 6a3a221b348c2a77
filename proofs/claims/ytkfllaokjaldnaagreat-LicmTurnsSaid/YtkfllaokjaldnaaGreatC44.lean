import Derived.Test.YtkfllaokjaldnaaGreatC43
import Derived.Test.YtkfllaokjaldnaaGreatC27
import Derived.Test.YtkfllaokjaldnaaGreatC42
import Derived.Test.YtkfllaokjaldnaaGreatC41
/-
  Part of the proof (texts LPure, BAlive, LAlive, LLTurns).
-/
set_option linter.unusedVariables false
set_option linter.unusedSimpArgs false
namespace Go.Vw
open Go.Proofs Go.RowKit
set_option maxRecDepth 10000
set_option maxHeartbeats 2000000
theorem LicRunErr_v (e:Ss.Env) (f:Ss.Fn) (he:e.Fits) (hf:f.Fits) (hc:Ss.check e f=false):VPure Tryz.prog 9 [zl e,qD f] (.tuple [qD Ss.emptyFn,vint 6]):=by
 intro S;have cck:=Check_v e f he hf;generalize Ss.check e f=ck at *
 obtain ⟨⟨fi,fo⟩,ts,bs⟩:=f;obtain ⟨sg,im,gl,mu,me⟩:=e;have cck':VPure Tryz.prog 23 [.agg [vl jR sg,vint im,vl vint gl,vl V.bool mu, .bool me], .agg [vl vint fi,vl vint fo,vl vint ts,vl jd bs]] (.bool ck):=cck;refine qw (c:=jg Tryz.f9) Tryz.func9 rfl (by conv=>lhs; reduce) (by simp [Tryz.ntmps9]) ?_;rw [Tryz.ntmps9];intro hwf
 repeat refine QS ?_
 refine QY ?_;refine QH 2 0 ?_;refine QH 3 1 ?_;refine jE [2,3,4,5] (by conv=>lhs; simp [Fr.only,Fr.look]) ?_;refine zp [2] hwf (by decide) (by simp [-List.map_set]) (by conv=>lhs; simp [-List.map_set]) (by conv=>lhs; simp [-List.map_set]) (by conv=>lhs; simp [-List.map_set]) ?_
 repeat first|refine QG ?_|refine QY ?_
 repeat refine QS ?_
 refine QP ?_;refine jc (cck') (by rfl) ?_;refine QM (by conv=>lhs;simp[-List.map_set,QV,hc]) ?_;refine QN ?_
 repeat first|refine QG ?_|refine QY ?_ (r:=by conv=>lhs;simp[-List.map_set,QV,hc])
 refine jaY (xs:=[.agg [.nils, .nils, .nils, .nils], .int .i64 6]) (by simp) ?_;exact zG hwf ((Ghost.tuple [] [_] (jaE _)).toB _) JH (by rfl)
theorem LicP_v (e:Ss.Env) (f:Ss.Fn) (he:e.Fits) (hf:f.Fits):VPure Tryz.prog 9 [zl e,qD f] (.tuple [qD (Ss.licOut e f).1,vint (Ss.licOut e f).2]):=by
 cases hc:Ss.check e f with
 | false=>rw [Ss.licOut_f hc]; exact LicRunErr_v e f he hf hc
 | true =>
  rw [Ss.licOut_t hc];intro S;refine Jb fun hwf=>zk ((LicRun_v S e f he hf hc).mono ?_)
  rintro r T ⟨r',rfl,hag,hwT,ot,ob,cells,ids,rfl,hot,hob,how,hnd,hids⟩;have hg:=fn_ghostD (fi:=(Ss.licF f).sig.inn) (fo:=(Ss.licF f).sig.out) how hob rfl hot rfl hnd;have hfin:Agree S (T.dels (ot::ob::ids)):=by
   refine ⟨by rw [jaH]; exact hag.1,fun o ho => ?_⟩;rw [Wn,if_neg]
   ·exact hag.2 o ho
   ·intro hm;have:=(hids o hm).1; omega
  exact zG hwf ((Ghost.tuple [] [_] hg).toB _) hfin (by simp [qD])
end Go.Vw

namespace Ss
def smallB:Fn:=⟨⟨[127,127],[127]⟩,[127,127],[⟨[0,1],[⟨258,0,[],[]⟩,⟨257,8,[0],[]⟩,⟨257,4,[0],[]⟩,⟨257,4,[1],[]⟩],⟨4,0,[],[0]⟩⟩]⟩
def smallB':Fn:=⟨⟨[127,127],[127]⟩,[127,127],[⟨[0,1],[⟨258,0,[],[]⟩,⟨257,8,[0],[]⟩,⟨257,4,[1],[]⟩],⟨4,0,[],[0]⟩⟩]⟩
def envB:Env:=⟨[],0,[],[],true⟩
end Ss
namespace Go.Vw
open Go.Proofs Go.RowKit
set_option maxRecDepth 10000
set_option maxHeartbeats 8000000
end Go.Vw

namespace Go.Vw
open Go.Proofs Go.RowKit
set_option maxRecDepth 10000
set_option maxHeartbeats 8000000
theorem loop14_v:VPure Tryz.prog 40 [] (qD Ss.smallL):=by
 intro S;have hr2:rep0 [V.int .i64 0] 2=[.int .i64 0, .int .i64 0]:=rfl;have hr3:rep0 [V.int .i64 0] 3=[.int .i64 0, .int .i64 0, .int .i64 0]:=rfl;have hr1:rep0 [V.int .i64 0] 1=[.int .i64 0]:=rfl;have hr4:rep0 [V.int .i64 0, .int .u64 0, .nils, .nils] 1=[.int .i64 0, .int .u64 0, .nils, .nils]:=rfl;have hr8:rep0 [V.int .i64 0, .int .u64 0, .nils, .nils] 2=[.int .i64 0, .int .u64 0, .nils, .nils, .int .i64 0, .int .u64 0, .nils, .nils]:=rfl;have hre:rep0 [V.int .i64 0, .nils] 1=[.int .i64 0, .nils]:=rfl;have hrb:rep0 [V.nils, .nils, .int .i64 0, .int .i64 0, .nils, .nils] 2=[.nils, .nils, .int .i64 0, .int .i64 0, .nils, .nils, .nils, .nils, .int .i64 0, .int .i64 0, .nils, .nils]:=rfl;refine qw (c:=jg Tryz.f40) Tryz.func40 rfl (by conv=>lhs; reduce) (by simp [Tryz.ntmps40]) ?_;rw [Tryz.ntmps40];intro hwf
 repeat refine QS ?_
 refine QY ?_
 repeat refine QS ?_
 refine QY ?_ (r:=by conv=>lhs;simp[-List.map_set,QV,hr2,hr1,hr4,hre])
 apply ju
 ·exact Reach.nilCell (k:=2) (i:=2) (by simp) (by rfl) (by rfl)
 simp only [List.set_cons_succ,List.set_cons_zero]
 apply ju
 ·exact Reach.nilCell (k:=2) (i:=3) (by simp) (by rfl) (by rfl)
 simp only [List.set_cons_succ,List.set_cons_zero]
 apply ju
 ·exact Reach.frzCellS (enc:=jm) (s:=4) (fun _=>rfl) qC (k:=4) (j:=2) (i:=1) [⟨258,0,[],[]⟩] (by decide) (by simp) (by simp) (by rfl) (by rfl) (by rfl)
 simp only [List.set_cons_succ,List.set_cons_zero]
 apply ju
 ·exact Reach.frzCell (k:=4) (j:=1) (i:=0) (by decide) (by simp) (by simp) (by rfl) (by rfl) (by rfl) (by rfl) (by rfl)
 simp only [List.set_cons_succ,List.set_cons_zero]
 apply ju
 ·exact Reach.nilCell (k:=3) (i:=1) (by simp) (by rfl) (by rfl)
 simp only [List.set_cons_succ,List.set_cons_zero]
 apply ju
 ·exact Reach.frzCellS (enc:=jk) (s:=2) (fun _=>rfl) qF (k:=4) (j:=3) (i:=4) [⟨1,[]⟩] (by decide) (by simp) (by simp) (by rfl) (by rfl) (by rfl)
 simp only [List.set_cons_succ,List.set_cons_zero]
 apply ju
 ·exact Reach.nilCell (k:=4) (i:=5) (by simp) (by rfl) (by rfl)
 simp only [List.set_cons_succ,List.set_cons_zero]
 repeat refine QS ?_
 refine QY ?_ (r:=by conv=>lhs;simp[-List.map_set,QV,hr2,hr1,hr8,hre])
 apply ju
 ·exact Reach.nilCell (k:=7) (i:=2) (by simp) (by rfl) (by rfl)
 simp only [List.set_cons_succ,List.set_cons_zero]
 apply ju
 ·exact Reach.nilCell (k:=7) (i:=3) (by simp) (by rfl) (by rfl)
 simp only [List.set_cons_succ,List.set_cons_zero]
 apply ju
 ·exact Reach.frzCell (k:=7) (j:=5) (i:=6) (by decide) (by simp) (by simp) (by rfl) (by rfl) (by rfl) (by rfl) (by rfl)
 simp only [List.set_cons_succ,List.set_cons_zero]
 apply ju
 ·exact Reach.frzCell (k:=7) (j:=6) (i:=7) (by decide) (by simp) (by simp) (by rfl) (by rfl) (by rfl) (by rfl) (by rfl)
 simp only [List.set_cons_succ,List.set_cons_zero]
 apply ju
 ·exact Reach.frzCellS (enc:=jm) (s:=4) (fun _=>rfl) qC (k:=9) (j:=7) (i:=1) [⟨258,0,[],[]⟩,⟨106,0,[0,1],[2]⟩] (by decide) (by simp) (by simp) (by rfl) (by rfl) (by rfl)
 simp only [List.set_cons_succ,List.set_cons_zero]
 apply ju
 ·exact Reach.nilCell (k:=8) (i:=1) (by simp) (by rfl) (by rfl)
 simp only [List.set_cons_succ,List.set_cons_zero]
 apply ju
 ·exact Reach.frzCellS (enc:=jk) (s:=2) (fun _=>rfl) qF (k:=9) (j:=8) (i:=4) [⟨1,[]⟩] (by decide) (by simp) (by simp) (by rfl) (by rfl) (by rfl)
 simp only [List.set_cons_succ,List.set_cons_zero]
 apply ju
 ·exact Reach.nilCell (k:=9) (i:=0) (by simp) (by rfl) (by rfl)
 simp only [List.set_cons_succ,List.set_cons_zero]
 apply ju
 ·exact Reach.nilCell (k:=9) (i:=5) (by simp) (by rfl) (by rfl)
 simp only [List.set_cons_succ,List.set_cons_zero]
 repeat refine QS ?_
 refine QY ?_ (r:=by conv=>lhs;simp[-List.map_set,QV,hr2,hr3,hrb])
 apply ju
 ·exact Reach.frzCell (k:=0) (j:=10) (i:=0) (by decide) (by simp) (by simp) (by rfl) (by rfl) (by rfl) (by rfl) (by rfl)
 simp only [List.set_cons_succ,List.set_cons_zero]
 apply ju
 ·exact Reach.nilCell (k:=0) (i:=1) (by simp) (by rfl) (by rfl)
 simp only [List.set_cons_succ,List.set_cons_zero]
 apply ju
 ·exact Reach.frzCell (k:=0) (j:=11) (i:=2) (by decide) (by simp) (by simp) (by rfl) (by rfl) (by rfl) (by rfl) (by rfl)
 simp only [List.set_cons_succ,List.set_cons_zero]
 apply ju
 ·exact Reach.frzCellS (enc:=jd) (s:=6) (fun _=>rfl) JA (k:=0) (j:=12) (i:=3) [⟨[0,1],[⟨258,0,[],[]⟩],⟨1,0,[⟨1,[]⟩],[]⟩⟩,⟨[],[⟨258,0,[],[]⟩,⟨106,0,[0,1],[2]⟩],⟨1,0,[⟨1,[]⟩],[]⟩⟩] (by decide) (by simp) (by simp) (by rfl) (by rfl) (by rfl)
 simp only [List.set_cons_succ,List.set_cons_zero]
 repeat first|refine QG ?_|refine QY ?_
 exact jaY (by simp; rfl) (ja hwf (by simp [Ss.smallL,vl]) rfl)
theorem envL_ghost (S:Store):Ghost (.agg [.nils, .int .i64 0, .nils, .nils, .bool false]) S (zl Ss.envL) S:=by
 refine Ghost.agg_nl rfl fun i x y hx hy => ?_
 match i,hx,hy with
 | 0,hx,hy=>cases hx; cases hy; exact .inr ⟨rfl,rfl⟩
 | 1,hx,hy=>cases hx; cases hy; exact .inl rfl
 | 2,hx,hy=>cases hx; cases hy; exact .inr ⟨rfl,rfl⟩
 | 3,hx,hy=>cases hx; cases hy; exact .inr ⟨rfl,rfl⟩
 | 4,hx,hy=>cases hx; cases hy; exact .inl rfl
theorem Alive14_v:VPure Tryz.prog 12 [] (.bool true):=by
 intro S;have hr1:rep0 [V.int .i64 0] 1=[.int .i64 0]:=rfl;have cs:=loop14_v;have cb:=LicP_v Ss.envL Ss.smallL Ss.envL_fits Ss.smallL_fits;have cp:=Porch_v Ss.smallL Ss.smallL_fits 1 [1] (by decide);rw [Ss.smallL_out] at cb;rw [Ss.smallL_porch] at cp;have hF':qD Ss.smallL' = .agg [vl vint [127,127],vl vint [],vl vint [127,127,127],vl jd [⟨[0,1],[⟨258,0,[],[]⟩,⟨106,0,[0,1],[2]⟩],⟨1,0,[⟨1,[]⟩],[]⟩⟩,⟨[],[⟨258,0,[],[]⟩],⟨1,0,[⟨1,[]⟩],[]⟩⟩]]:=rfl;obtain ⟨f1,f2,f3,f4,hF,o1,o2,o3,o4,c1,c2,c3,c4⟩ : ∃ f1 f2 f3 f4,qD Ss.smallL = .agg [f1,f2,f3,f4]∧f1.one=true∧f2.one=true∧f3.one=true∧f4.one=true∧f1.closed1=true∧f2.closed1=true∧f3.closed1=true∧f4.closed1=true:=⟨_,_,_,_,rfl,rfl,rfl,rfl,rfl,rfl,rfl,rfl,rfl⟩
 rw [hF] at cs cb cp;rw [hF'] at cb;refine jb (c:=jg Tryz.f12) Tryz.func12 rfl rfl (by simp [Tryz.ntmps12]) ?_;rw [Tryz.ntmps12];intro hwf
 repeat refine QS ?_
 refine QY ?_
 repeat refine QS ?_
 refine QP ?_;refine jn rfl (cs) ?_;refine zr rfl (GhostArgs.one [] [_] (envL_ghost _)) cb ?_;refine QW ?_;refine QH 1 0 ?_
 repeat refine QS ?_
 refine QP ?_;refine jn rfl (cs) ?_;refine QM (by conv=>lhs;simp[-List.map_set,QV,hr1]) ?_;refine zr rfl (GhostArgs.one [_,_] [] (frz1 (k:=1) (len:=1) (by simp) rfl rfl rfl)) cp ?_;simp only [WG];refine QW ?_;have hix0 : ∀ S,qm 6 S (vl jd [⟨[0,1],[⟨258,0,[],[]⟩,⟨106,0,[0,1],[2]⟩],⟨1,0,[⟨1,[]⟩],[]⟩⟩,⟨[],[⟨258,0,[],[]⟩],⟨1,0,[⟨1,[]⟩],[]⟩⟩]) (.int .i64 0)=some (.ref (.agg [vl vint [0,1],vl jm [⟨258,0,[],[]⟩,⟨106,0,[0,1],[2]⟩], .int .i64 1, .int .i64 0,vl jk [⟨1,[]⟩],vl vint []])):=fun _=>rfl
 have hix1 : ∀ S,qm 6 S (vl jd [⟨[0,1],[⟨258,0,[],[]⟩,⟨106,0,[0,1],[2]⟩],⟨1,0,[⟨1,[]⟩],[]⟩⟩,⟨[],[⟨258,0,[],[]⟩],⟨1,0,[⟨1,[]⟩],[]⟩⟩]) (.int .i64 1)=some (.ref (.agg [vl vint [],vl jm [⟨258,0,[],[]⟩], .int .i64 1, .int .i64 0,vl jk [⟨1,[]⟩],vl vint []])):=fun _=>rfl
 repeat first|refine QG ?_|refine QY ?_ (r:=by conv=>lhs;simp[-List.map_set,QV,hix0,hix1])
 exact ja (X := .bool true) hwf (by simp) rfl
end Go.Vw

namespace Go.Vw
open Go.Proofs Go.RowKit
set_option maxRecDepth 10000
set_option maxHeartbeats 2000000
theorem LicmTurns_v (e:Ss.Env) (f:Ss.Fn) (he:e.Fits) (hf:f.Fits):VPure Tryz.prog 3 [zl e,qD f] (.bool true):=by
 intro S;have cb:=LicP_v e f he hf;have cr:=RLicP_v e f he hf;have hgf:=Ss.licOut_fits e hf;have hgs:=Ss.licOut_small e f;generalize Ss.licOut e f=out at *
 obtain ⟨g,er⟩:=out;simp only at *
 have csm:=RSame_v g g hgf hgf;have e3:(g.small&&g.small&&decide (g=g))=true:=by simp [hgs]
 rw [e3] at csm;obtain ⟨sm,hsm⟩ : ∃ sm,sm=true:=⟨_,rfl⟩
 rw [←hsm] at csm;have cal:=Alive14_v;obtain ⟨al,hal⟩ : ∃ al,al=true:=⟨_,rfl⟩
 rw [←hal] at cal;obtain ⟨⟨fi,fo⟩,ts,bs⟩:=f;obtain ⟨⟨gi,go⟩,gt,gb⟩:=g;obtain ⟨sg,im,gl,mu,me⟩:=e;have cb':VPure Tryz.prog 9 [.agg [vl jR sg,vint im,vl vint gl,vl V.bool mu, .bool me], .agg [vl vint fi,vl vint fo,vl vint ts,vl jd bs]] (.tuple [.agg [vl vint gi,vl vint go,vl vint gt,vl jd gb],vint er]):=cb;have cr':VPure Tryz.prog 10 [.agg [vl jR sg,vint im,vl vint gl,vl V.bool mu, .bool me], .agg [vl vint fi,vl vint fo,vl vint ts,vl jd bs]] (.tuple [.agg [vl vint gi,vl vint go,vl vint gt,vl jd gb],vint er]):=cr;have csm':VPure Tryz.prog 11 [.agg [vl vint gi,vl vint go,vl vint gt,vl jd gb], .agg [vl vint gi,vl vint go,vl vint gt,vl jd gb]] (.bool sm):=csm;refine jb (c:=jg Tryz.f3) Tryz.func3 rfl rfl (by simp [Tryz.ntmps3]) ?_;rw [Tryz.ntmps3];intro hwf
 repeat refine QS ?_
 refine QY ?_;refine QH 2 0 ?_;refine QH 3 1 ?_
 repeat refine QS ?_
 refine QP ?_;refine jc (cb') (by rfl) ?_;refine QW ?_
 repeat refine QS ?_
 refine QP ?_;refine jc (cr') (by rfl) ?_;refine QW ?_
 repeat refine QS ?_
 refine QP ?_;refine jc (csm') (by rfl) ?_;refine QM (by conv=>lhs;simp[-List.map_set,QV,hsm]) ?_;refine jc (cal) (by rfl) ?_;refine QM (by conv=>lhs;simp[-List.map_set,QV,hal]) ?_;refine QN ?_
 repeat first|refine QG ?_|refine QY ?_
 exact ja (X := .bool true) hwf (by simp) rfl
end Go.Vw
