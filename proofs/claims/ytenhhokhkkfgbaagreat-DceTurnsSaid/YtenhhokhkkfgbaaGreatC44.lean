import Derived.Test.YtenhhokhkkfgbaaGreatC42
import Derived.Test.YtenhhokhkkfgbaaGreatC43
import Derived.Test.YtenhhokhkkfgbaaGreatC30
/-
  Part of the proof (texts DAlive, DLTurns).
-/
set_option linter.unusedVariables false
set_option linter.unusedSimpArgs false
namespace Ss
def smallD:Fn:=⟨⟨[127,127],[127]⟩,[127,127,127],[⟨[0,1],[⟨258,0,[],[]⟩,⟨106,0,[0,1],[2]⟩],⟨4,0,[],[0]⟩⟩]⟩
def smallD':Fn:=⟨⟨[127,127],[127]⟩,[127,127,127],[⟨[0,1],[⟨258,0,[],[]⟩],⟨4,0,[],[0]⟩⟩]⟩
def envD:Env:=⟨[],0,[],[],false⟩
theorem smallD_defs:defsOf smallD=some [⟨true,0, -1⟩,⟨true,0, -1⟩,⟨true,0,1⟩]:=by decide
theorem smallD_succs:succs smallD.blocks=[[]]:=by decide
theorem smallD_rings:rings smallD.blocks [[]]=false:=by
 simp [rings,smallD,tickB,ringM,ringW,List.range_succ]
theorem smallD_shape:shapeOk smallD=true:=by
 have h1:Go.Vw.G.right [[]]=true:=by decide
 have h2:Go.Vw.G.ordI [[]]=[0]:=by decide
 have h3:Go.Vw.G.nats [[]]=[[]]:=rfl
 simp only [shapeOk,smallD_succs,h1,h2,h3,smallD_rings]
 decide
theorem smallD_check:check envD smallD=true:=by
 have h1:checkHead envD smallD=true:=by decide
 have hn:numSig 106=([127,127],127,true):=by decide
 have hf : ∀ n o,form envD 106 n o=⟨[127,127],[127],0,true⟩:=fun n o=>by
  have e0:form envD 106 n o=formNum envD 106:=by simp [form]
  rw [e0,formNum,hn]
 have hf2 : ∀ n o,form envD 258 n o=⟨[],[],0,true⟩:=fun n o=>by simp [form]
 simp only [check,h1,smallD_defs,smallD_shape,Bool.true_and]
 generalize Go.Vw.G.nearI (succs smallD.blocks)=near
 simp [smallD,checkBlocks,checkCode,insOk,hf,hf2,insOut,typesOf,asks,Go.Vw.eqF,termOk,termHead,termTail,branches,askOk]
theorem smallD_need:dNeed smallD=[true,true,false]:=by
 have hp:pure 106=true:=by decide
 have hp2:pure 258=false:=by decide
 have hr:roots smallD=[0,1,0]:=by simp [roots,rootsB,smallD,hp,hp2,branches]
 have ht:askTab smallD=[[],[],[0,1]]:=by simp [askTab,askBlock,askIns,smallD,hp,hp2]
 have hl:smallD.types.length=3:=rfl
 rw [dNeed,hr,ht,hl]
 simp [dfs,on,List.replicate]
theorem smallD_dce:dceF smallD=smallD':=by
 have hp:pure 106=true:=by decide
 have hp2:pure 258=false:=by decide
 rw [dceF,smallD_need]
 simp [smallD,smallD',dBlock,dKeep,hp,hp2,on]
theorem smallD_out:dceOut envD smallD=(smallD',0):=by rw [dceOut_t smallD_check,smallD_dce]
theorem smallD_fits:smallD.Fits:=by
 simp [smallD,Fn.Fits,Sig.Fits,Ints,Block.Fits,Ins.Fits,Term.Fits,I64]
theorem envD_fits:envD.Fits:=by
 simp [envD,Env.Fits,Ints,I64]
end Ss
namespace Go.Vw
open Go.Proofs Go.RowKit
set_option maxRecDepth 10000
set_option maxHeartbeats 8000000
theorem DNeeded_v (e:Ss.Env) (f:Ss.Fn) (he:e.Fits) (hf:f.Fits) (hc:Ss.check e f=true):VPure Tryz.prog 20 [encEnv e,encFn f] (.tuple [vl V.bool (Ss.dNeed f),vint 0]):=by
 intro S
 have cck:=Check_v e f he hf
 have cne:=Needed_v e f hf hc
 generalize Ss.check e f=ck at *
 generalize Ss.dNeed f=need at *
 obtain ⟨⟨fi,fo⟩,ts,bs⟩:=f
 obtain ⟨sg,im,gl,mu,me⟩:=e
 have cck':VPure Tryz.prog 24 [.agg [vl encSig sg,vint im,vl vint gl,vl V.bool mu, .bool me], .agg [vl vint fi,vl vint fo,vl vint ts,vl encBlock bs]] (.bool ck):=cck
 have cne':VPure Tryz.prog 25 [.agg [vl vint fi,vl vint fo,vl vint ts,vl encBlock bs]] (vl V.bool need):=cne
 refine vcalls_start (c:=bodyOf Tryz.f20) Tryz.func20 rfl rfl (by simp [Tryz.ntmps20]) ?_
 rw [Tryz.ntmps20]
 intro hwf
 repeat refine QS ?_
 refine QR (r:=by conv=>lhs;simp[-List.map_set,QV]) (k:=?_)
 refine QN ?_
 refine vw_ghost' 2 rfl ((refSt (k:=0) (by simp) (by rfl) (by rfl) (by simp))) (by conv=>lhs; simp [Fr.set]) ?_
 simp only [List.set_cons_succ,List.set_cons_zero]
 refine vw_ghost' 3 rfl ((refSt (k:=1) (by simp) (by rfl) (by rfl) (by simp))) (by conv=>lhs; simp [Fr.set]) ?_
 simp only [List.set_cons_succ,List.set_cons_zero]
 repeat refine QS ?_
 refine QR (r:=by conv=>lhs;simp[-List.map_set,QV]) (k:=?_)
 refine vcall_useH (cck') (by rfl) ?_
 refine QM (by conv=>lhs;simp[-List.map_set,QV,hc]) ?_
 refine QN ?_
 repeat (first|refine QG ?_|refine QX (r:=by conv=>lhs;simp[-List.map_set,QV,hc]) (k:=?_))
 repeat refine QS ?_
 refine QR (r:=by conv=>lhs;simp[-List.map_set,QV]) (k:=?_)
 refine vcall_useH (cne') (by rfl) ?_
 refine QM (by conv=>lhs;simp[-List.map_set,QV]) ?_
 refine QN ?_
 repeat (first|refine QG ?_|refine QX (r:=by conv=>lhs;simp[-List.map_set,QV]) (k:=?_))
 exact done_pure (X := .tuple [vl V.bool need,vint 0]) hwf (by simp) rfl
theorem envD_ghost (S:Store):Ghost (.agg [.nils, .int .i64 0, .nils, .nils, .bool false]) S (encEnv Ss.envD) S:=by
 refine Ghost.agg_nl rfl fun i x y hx hy => ?_
 match i,hx,hy with
 | 0,hx,hy=>cases hx; cases hy; exact .inr ⟨rfl,rfl⟩
 | 1,hx,hy=>cases hx; cases hy; exact .inl rfl
 | 2,hx,hy=>cases hx; cases hy; exact .inr ⟨rfl,rfl⟩
 | 3,hx,hy=>cases hx; cases hy; exact .inr ⟨rfl,rfl⟩
 | 4,hx,hy=>cases hx; cases hy; exact .inl rfl
theorem small15_v:VPure Tryz.prog 37 [.int .i64 0, .list [.int .i64 127], .list [.agg [.int .i64 106, .int .u64 0, .list [.int .i64 0, .int .i64 1], .list [.int .i64 2]]]] (encFn Ss.smallD):=by
 intro S
 have hcv : ∀ l,(vl encIns l).closed1=true:=fun _=>rfl
 have hk1 : ∀ k n,(V.int k n).closed1=true:=fun _ _=>rfl
 have hk2 : ∀ l,(V.list l).closed1=true:=fun _=>rfl
 have hr2:rep0 [V.int .i64 0] 2=[.int .i64 0, .int .i64 0]:=rfl
 have hr1:rep0 [V.int .i64 0] 1=[.int .i64 0]:=rfl
 have hr4:rep0 [V.int .i64 0, .int .u64 0, .nils, .nils] 1=[.int .i64 0, .int .u64 0, .nils, .nils]:=rfl
 have hr6:rep0 [V.nils, .nils, .int .i64 0, .int .i64 0, .nils, .nils] 1=[.nils, .nils, .int .i64 0, .int .i64 0, .nils, .nils]:=rfl
 refine vcalls_startC (c:=bodyOf Tryz.f37) Tryz.func37 rfl (by conv=>lhs; reduce) (by simp [Tryz.ntmps37]) ?_
 rw [Tryz.ntmps37]
 intro hwf
 repeat refine QS ?_
 refine QR (r:=by conv=>lhs;simp[-List.map_set,QV]) (k:=?_)
 refine QN ?_
 repeat refine QS ?_
 refine QR (r:=by conv=>lhs;simp[-List.map_set,QV,hr2,hr1,hr4,hr6,opAppend,srcCells]) (k:=?_)
 refine QN ?_
 apply vw_reach
 ·exact Reach.nilCell (k:=3) (i:=2) (by simp) (by rfl) (by rfl)
 simp only [List.set_cons_succ,List.set_cons_zero]
 apply vw_reach
 ·exact Reach.nilCell (k:=3) (i:=3) (by simp) (by rfl) (by rfl)
 simp only [List.set_cons_succ,List.set_cons_zero]
 apply vw_reach
 ·exact Reach.frzCellS (enc:=encIns) (s:=4) (fun _=>rfl) encIns_closed (k:=5) (j:=3) (i:=1) [⟨258,0,[],[]⟩,⟨106,0,[0,1],[2]⟩] (by decide) (by simp) (by simp) (by rfl) (by rfl) (by rfl)
 simp only [List.set_cons_succ,List.set_cons_zero]
 apply vw_reach
 ·exact Reach.frzCell (k:=5) (j:=1) (i:=0) (by decide) (by simp) (by simp) (by rfl) (by rfl) (by rfl) (by rfl) (by rfl)
 simp only [List.set_cons_succ,List.set_cons_zero]
 apply vw_reach
 ·exact Reach.nilCell (k:=5) (i:=4) (by simp) (by rfl) (by rfl)
 simp only [List.set_cons_succ,List.set_cons_zero]
 apply vw_reach
 ·exact Reach.frzCell (k:=5) (j:=4) (i:=5) (by decide) (by simp) (by simp) (by rfl) (by rfl) (by rfl) (by rfl) (by rfl)
 simp only [List.set_cons_succ,List.set_cons_zero]
 repeat refine QS ?_
 refine vw_drawFrz (ZZ.mk _ (St S [] [none,none,none,none,none,some (6,[.list [.int .i64 0, .int .i64 1],vl encIns [⟨258,0,[],[]⟩,⟨106,0,[0,1],[2]⟩], .int .i64 4, .int .i64 0, .list [], .list [.int .i64 0]])]) (St S [] [none,none,none,none,none,some (6,[.list [.int .i64 0, .int .i64 1],vl encIns [⟨258,0,[],[]⟩,⟨106,0,[0,1],[2]⟩], .int .i64 4, .int .i64 0, .list [], .list [.int .i64 0]])]) []) [17,18,24] rfl (by kernel_rfl) (by conv=>lhs; reduce) (by conv=>lhs; reduce) (by conv=>lhs; reduce) (by kernel_rfl) (by kernel_rfl) (ok_St (by simp [subU,shpU,subL,shpL])) (Store.sub_refl _) (by conv=>lhs; simp [-List.map_set,QV,hr2,hr1,hr6,hk1,hk2]) ?_
 refine vseg_write rfl (by conv=>lhs;simp[-List.map_set,QV,hr2]) (ok_St (by simp [subU,shpU,subL,shpL])) ?_
 refine QM (by conv=>lhs;simp[-List.map_set,QV]) ?_
 refine vseg_write rfl (by conv=>lhs;simp[-List.map_set,QV,opAppend,srcCells]) (ok_St (by simp [subU,shpU,subL,shpL])) ?_
 refine QM (by conv=>lhs;simp[-List.map_set,QV,hr6,hk1,hk2,hcv]) ?_
 refine vseg_write rfl (by conv=>lhs;simp[-List.map_set,QV]) (ok_St (by simp [subU,shpU,subL,shpL])) ?_
 refine QN ?_
 apply vw_reach
 ·exact Reach.frzCell (k:=0) (j:=7) (i:=2) (by decide) (by simp) (by simp) (by rfl) (by rfl) (by rfl) (by rfl) (by rfl)
 simp only [List.set_cons_succ,List.set_cons_zero]
 repeat (first|refine QG ?_|refine QX (r:=by conv=>lhs;simp[-List.map_set,QV]) (k:=?_))
 exact doneC (by simp; rfl) (done_pure hwf (by simp [Ss.smallD,vl]) rfl)
theorem code15_ghost {S:Store} {oc a b:Nat} (hc:S.get oc=some (4,[.int .i64 106, .int .u64 0, .slice a 0 2, .slice b 0 1])) (ha:S.get a=some (1,[.int .i64 0, .int .i64 1])) (hb:S.get b=some (1,[.int .i64 2])) (hd:[oc,a,b].Nodup) :
  Ghost (.slice oc 0 1) S (.list [.agg [.int .i64 106, .int .u64 0, .list [.int .i64 0, .int .i64 1], .list [.int .i64 2]]]) (S.dels [oc,a,b]):=by
 have hw:OwL S (reps 1 [.c, .c, .s (List.replicate 1 .c), .s (List.replicate 1 .c)]) [.int .i64 106, .int .u64 0, .slice a 0 2, .slice b 0 1] [.int .i64 106, .int .u64 0,vl vint [0,1],vl vint [2]] [a,b]:=by
  refine .c rfl (.c rfl (OwL.slice (enc:=vint) (fun _=>rfl) (fun _=>rfl) [0,1] (by rw [flatC_vint]; exact ha) ?_))
  exact OwL.slice (enc:=vint) (fun _=>rfl) (fun _=>rfl) [2] (by rw [flatC_vint]; exact hb) .nil
 have:=OwL.s (S:=S) (o:=oc) (tys:=[.c, .c, .s (List.replicate 1 .c), .s (List.replicate 1 .c)]) (ys:=[.agg [.int .i64 106, .int .u64 0, .list [.int .i64 0, .int .i64 1], .list [.int .i64 2]]]) (i:=[a,b]) (j:=[]) hc (fun y hy=>by
  simp only [List.mem_cons,List.not_mem_nil,or_false] at hy
  subst hy; exact ⟨rfl,rfl⟩) hw .nil
 exact ghost_single (this.freeze hd S fun _ _=>rfl)
theorem Alive15_v:VPure Tryz.prog 13 [] (.bool true):=by
 intro S
 have hr1:rep0 [V.int .i64 0] 1=[.int .i64 0]:=rfl
 have hr2:rep0 [V.int .i64 0] 2=[.int .i64 0, .int .i64 0]:=rfl
 have hr4:rep0 [V.int .i64 0, .int .u64 0, .nils, .nils] 1=[.int .i64 0, .int .u64 0, .nils, .nils]:=rfl
 have cs:=small15_v
 have cb:=DceP_v Ss.envD Ss.smallD Ss.envD_fits Ss.smallD_fits
 have cn:=DNeeded_v Ss.envD Ss.smallD Ss.envD_fits Ss.smallD_fits Ss.smallD_check
 rw [Ss.smallD_out] at cb
 rw [Ss.smallD_need] at cn
 have hF':encFn Ss.smallD' = .agg [vl vint [127,127],vl vint [127],vl vint [127,127,127],vl encBlock [⟨[0,1],[⟨258,0,[],[]⟩],⟨4,0,[],[0]⟩⟩]]:=rfl
 obtain ⟨f1,f2,f3,f4,hF,o1,o2,o3,o4,c1,c2,c3,c4⟩ : ∃ f1 f2 f3 f4,encFn Ss.smallD = .agg [f1,f2,f3,f4]∧f1.one=true∧f2.one=true∧f3.one=true∧f4.one=true∧f1.closed1=true∧f2.closed1=true∧f3.closed1=true∧f4.closed1=true:=⟨_,_,_,_,rfl,rfl,rfl,rfl,rfl,rfl,rfl,rfl,rfl⟩
 rw [hF] at cs cb cn
 rw [hF'] at cb
 refine vcalls_start (c:=bodyOf Tryz.f13) Tryz.func13 rfl rfl (by simp [Tryz.ntmps13]) ?_
 rw [Tryz.ntmps13]
 intro hwf
 repeat refine QS ?_
 refine QR (r:=by conv=>lhs;simp[-List.map_set,QV]) (k:=?_)
 refine QN ?_
 repeat refine QS ?_
 refine QR (r:=by conv=>lhs;simp[-List.map_set,QV,hr1,hr2,hr4]) (k:=?_)
 have hg1:GhostArgs [.int .i64 0, .slice (lid S.nx 0) 0 1, .slice (lid S.nx 3) 0 1] (St S [] [some (1,[.int .i64 127]),some (1,[.int .i64 0, .int .i64 1]),some (1,[.int .i64 2]),some (4,[.int .i64 106, .int .u64 0, .slice (lid S.nx 1) 0 2, .slice (lid S.nx 2) 0 1])]) [.int .i64 0, .list [.int .i64 127], .slice (lid S.nx 3) 0 1] (St S [] [none,some (1,[.int .i64 0, .int .i64 1]),some (1,[.int .i64 2]),some (4,[.int .i64 106, .int .u64 0, .slice (lid S.nx 1) 0 2, .slice (lid S.nx 2) 0 1])]):=GhostArgs.one [.int .i64 0] [_] (frz1 (k:=0) (len:=1) (by simp) rfl rfl rfl)
 have hg2 := @code15_ghost (St S [] [none,some (1,[.int .i64 0, .int .i64 1]),some (1,[.int .i64 2]),some (4,[.int .i64 106, .int .u64 0, .slice (lid S.nx 1) 0 2, .slice (lid S.nx 2) 0 1])]) (lid S.nx 3) (lid S.nx 1) (lid S.nx 2) (by rw [St_get]; rfl) (by rw [St_get]; rfl) (by rw [St_get]; rfl) (by simp [lid])
 have hdl:(St S [] [none,some (1,[.int .i64 0, .int .i64 1]),some (1,[.int .i64 2]),some (4,[.int .i64 106, .int .u64 0, .slice (lid S.nx 1) 0 2, .slice (lid S.nx 2) 0 1])]).dels [lid S.nx 3,lid S.nx 1,lid S.nx 2]=St S [] [none,none,none,none]:=by
  simp [Store.dels,St_del]
 rw [hdl] at hg2
 refine vcall_useG rfl (hg1.trans (GhostArgs.one [_,_] [] hg2)) cs ?_
 refine QM (by conv=>lhs;simp[-List.map_set,QV,o1,o2,o3,o4]) ?_
 refine QN ?_
 refine vw_ghost' 1 rfl ((refSt (k:=4) (by simp) (by rfl) (by simp [c1,c2,c3,c4]) (by simp))) (by conv=>lhs; simp [Fr.set]) ?_
 simp only [List.set_cons_succ,List.set_cons_zero]
 repeat refine QS ?_
 refine QR (r:=by conv=>lhs;simp[-List.map_set,QV,o1,o2,o3,o4]) (k:=?_)
 refine vcall_useG rfl (GhostArgs.one [] [_] (envD_ghost _)) cb ?_
 refine QM (by conv=>lhs;simp[-List.map_set,QV]) ?_
 refine QN ?_
 have hix0 : ∀ S,opIndex 1 S (vl V.bool [true,true,false]) (.int .i64 0)=some (.ref (.bool true)):=fun _=>rfl
 have hix2 : ∀ S,opIndex 1 S (vl V.bool [true,true,false]) (.int .i64 2)=some (.ref (.bool false)):=fun _=>rfl
 repeat refine QS ?_
 refine QR (r:=by conv=>lhs;simp[-List.map_set,QV,o1,o2,o3,o4]) (k:=?_)
 refine vcall_useG rfl (GhostArgs.one [] [_] (envD_ghost _)) cn ?_
 refine QM (by conv=>lhs;simp[-List.map_set,QV]) ?_
 refine QN ?_
 repeat (first|refine QG ?_|refine QX (r:=by conv=>lhs;simp[-List.map_set,QV,hix0,hix2]) (k:=?_))
 exact done_pure (X := .bool true) hwf (by simp) rfl
end Go.Vw

namespace Go.Vw
open Go.Proofs Go.RowKit
set_option maxRecDepth 10000
set_option maxHeartbeats 2000000
theorem DceTurns_v (e:Ss.Env) (f:Ss.Fn) (he:e.Fits) (hf:f.Fits):VPure Tryz.prog 3 [encEnv e,encFn f] (.bool true):=by
 intro S
 have cb:=DceP_v e f he hf
 have cr:=RDceP_v e f he hf
 have hgf:=Ss.dceOut_fits e hf
 have hgs:=Ss.dceOut_small e f
 generalize Ss.dceOut e f=out at *
 obtain ⟨g,er⟩:=out
 simp only at *
 have csm:=RSame_v g g hgf hgf
 have e3:(g.small&&g.small&&decide (g=g))=true:=by simp [hgs]
 rw [e3] at csm
 obtain ⟨sm,hsm⟩ : ∃ sm,sm=true:=⟨_,rfl⟩
 rw [←hsm] at csm
 have cal:=Alive15_v
 obtain ⟨al,hal⟩ : ∃ al,al=true:=⟨_,rfl⟩
 rw [←hal] at cal
 obtain ⟨⟨fi,fo⟩,ts,bs⟩:=f
 obtain ⟨⟨gi,go⟩,gt,gb⟩:=g
 obtain ⟨sg,im,gl,mu,me⟩:=e
 have cb':VPure Tryz.prog 10 [.agg [vl encSig sg,vint im,vl vint gl,vl V.bool mu, .bool me], .agg [vl vint fi,vl vint fo,vl vint ts,vl encBlock bs]] (.tuple [.agg [vl vint gi,vl vint go,vl vint gt,vl encBlock gb],vint er]):=cb
 have cr':VPure Tryz.prog 11 [.agg [vl encSig sg,vint im,vl vint gl,vl V.bool mu, .bool me], .agg [vl vint fi,vl vint fo,vl vint ts,vl encBlock bs]] (.tuple [.agg [vl vint gi,vl vint go,vl vint gt,vl encBlock gb],vint er]):=cr
 have csm':VPure Tryz.prog 12 [.agg [vl vint gi,vl vint go,vl vint gt,vl encBlock gb], .agg [vl vint gi,vl vint go,vl vint gt,vl encBlock gb]] (.bool sm):=csm
 refine vcalls_start (c:=bodyOf Tryz.f3) Tryz.func3 rfl rfl (by simp [Tryz.ntmps3]) ?_
 rw [Tryz.ntmps3]
 intro hwf
 repeat refine QS ?_
 refine QR (r:=by conv=>lhs;simp[-List.map_set,QV]) (k:=?_)
 refine QN ?_
 refine vw_ghost' 2 rfl ((refSt (k:=0) (by simp) (by rfl) (by rfl) (by simp))) (by conv=>lhs; simp [Fr.set]) ?_
 simp only [List.set_cons_succ,List.set_cons_zero]
 refine vw_ghost' 3 rfl ((refSt (k:=1) (by simp) (by rfl) (by rfl) (by simp))) (by conv=>lhs; simp [Fr.set]) ?_
 simp only [List.set_cons_succ,List.set_cons_zero]
 repeat refine QS ?_
 refine QR (r:=by conv=>lhs;simp[-List.map_set,QV]) (k:=?_)
 refine vcall_useH (cb') (by rfl) ?_
 refine QM (by conv=>lhs;simp[-List.map_set,QV]) ?_
 refine QN ?_
 repeat refine QS ?_
 refine QR (r:=by conv=>lhs;simp[-List.map_set,QV]) (k:=?_)
 refine vcall_useH (cr') (by rfl) ?_
 refine QM (by conv=>lhs;simp[-List.map_set,QV]) ?_
 refine QN ?_
 repeat refine QS ?_
 refine QR (r:=by conv=>lhs;simp[-List.map_set,QV]) (k:=?_)
 refine vcall_useH (csm') (by rfl) ?_
 refine QM (by conv=>lhs;simp[-List.map_set,QV,hsm]) ?_
 refine vcall_useH (cal) (by rfl) ?_
 refine QM (by conv=>lhs;simp[-List.map_set,QV,hal]) ?_
 refine QN ?_
 repeat (first|refine QG ?_|refine QX (r:=by conv=>lhs;simp[-List.map_set,QV]) (k:=?_))
 exact done_pure (X := .bool true) hwf (by simp) rfl
end Go.Vw
