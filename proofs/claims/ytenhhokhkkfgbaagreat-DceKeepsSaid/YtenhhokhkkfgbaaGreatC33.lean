import Derived.Test.YtenhhokhkkfgbaaGreatC31
import Derived.Test.YtenhhokhkkfgbaaGreatC32
import Derived.Test.YtenhhokhkkfgbaaGreatC21
import Derived.Test.YtenhhokhkkfgbaaGreatC24
/-
  Part of the proof (texts BAlive, DAlive, CNum, DPureR, BCov).
-/
set_option linter.unusedVariables false
set_option linter.unusedSimpArgs false
namespace Ss
def smallB:Fn:=⟨⟨[127,127],[127]⟩,[127,127],[⟨[0,1],[⟨258,0,[],[]⟩,⟨257,8,[0],[]⟩,⟨257,4,[0],[]⟩,⟨257,4,[1],[]⟩],⟨4,0,[],[0]⟩⟩]⟩
def smallB':Fn:=⟨⟨[127,127],[127]⟩,[127,127],[⟨[0,1],[⟨258,0,[],[]⟩,⟨257,8,[0],[]⟩,⟨257,4,[1],[]⟩],⟨4,0,[],[0]⟩⟩]⟩
def envB:Env:=⟨[],0,[],[],true⟩
end Ss
namespace Go.Vw
open Go.Proofs Go.RowKit
set_option maxRecDepth 10000
set_option maxHeartbeats 8000000
theorem ghost_single {x x':V} {S S':Store} (h:GhostArgs [x] S [x'] S'):Ghost x S x' S':=by
 intro m β w v hS hr
 obtain ⟨m',β',h1,h2,h3⟩:=h m β w [v] hS ((RepL.nil m β).cons hr)
 exact ⟨m',β',h1,h2,h3.2 0 x' v rfl rfl⟩
end Go.Vw

namespace Ss
def smallD:Fn:=⟨⟨[127,127],[127]⟩,[127,127,127],[⟨[0,1],[⟨258,0,[],[]⟩,⟨106,0,[0,1],[2]⟩],⟨4,0,[],[0]⟩⟩]⟩
def smallD':Fn:=⟨⟨[127,127],[127]⟩,[127,127,127],[⟨[0,1],[⟨258,0,[],[]⟩],⟨4,0,[],[0]⟩⟩]⟩
def envD:Env:=⟨[],0,[],[],false⟩
theorem smallD_defs:defsOf smallD=some [⟨true,0, -1⟩,⟨true,0, -1⟩,⟨true,0,1⟩]:=by decide
theorem smallD_succs:succs smallD.blocks=[[]]:=by decide
theorem smallD_rings:rings smallD.blocks [[]]=false:=by
 simp [rings,smallD,tickB,ringM,ringW,List.range_succ]
theorem smallD_shape:shapeOk smallD=true:=by
 have h1:Go.Vw.G.right [[]]=true:=by decide
 have h2:Go.Vw.G.ordI [[]]=[0]:=by decide
 have h3:Go.Vw.G.nats [[]]=[[]]:=rfl
 simp only [shapeOk,smallD_succs,h1,h2,h3,smallD_rings]
 decide
theorem smallD_check:check envD smallD=true:=by
 have h1:checkHead envD smallD=true:=by decide
 have hn:numSig 106=([127,127],127,true):=by decide
 have hf : ∀ n o,form envD 106 n o=⟨[127,127],[127],0,true⟩:=fun n o=>by
  have e0:form envD 106 n o=formNum envD 106:=by simp [form]
  rw [e0,formNum,hn]
 have hf2 : ∀ n o,form envD 258 n o=⟨[],[],0,true⟩:=fun n o=>by simp [form]
 simp only [check,h1,smallD_defs,smallD_shape,Bool.true_and]
 generalize Go.Vw.G.nearI (succs smallD.blocks)=near
 simp [smallD,checkBlocks,checkCode,insOk,hf,hf2,insOut,typesOf,asks,Go.Vw.eqF,termOk,termHead,termTail,branches,askOk]
theorem smallD_need:dNeed smallD=[true,true,false]:=by
 have hp:pure 106=true:=by decide
 have hp2:pure 258=false:=by decide
 have hr:roots smallD=[0,1,0]:=by simp [roots,rootsB,smallD,hp,hp2,branches]
 have ht:askTab smallD=[[],[],[0,1]]:=by simp [askTab,askBlock,askIns,smallD,hp,hp2]
 have hl:smallD.types.length=3:=rfl
 rw [dNeed,hr,ht,hl]
 simp [dfs,on,List.replicate]
theorem smallD_dce:dceF smallD=smallD':=by
 have hp:pure 106=true:=by decide
 have hp2:pure 258=false:=by decide
 rw [dceF,smallD_need]
 simp [smallD,smallD',dBlock,dKeep,hp,hp2,on]
theorem smallD_out:dceOut envD smallD=(smallD',0):=by rw [dceOut_t smallD_check,smallD_dce]
theorem smallD_fits:smallD.Fits:=by
 simp [smallD,Fn.Fits,Sig.Fits,Ints,Block.Fits,Ins.Fits,Term.Fits,I64]
theorem envD_fits:envD.Fits:=by
 simp [envD,Env.Fits,Ints,I64]
end Ss
namespace Go.Vw
open Go.Proofs Go.RowKit
set_option maxRecDepth 10000
set_option maxHeartbeats 8000000
theorem DNeeded_v (e:Ss.Env) (f:Ss.Fn) (he:e.Fits) (hf:f.Fits) (hc:Ss.check e f=true):VPure Tryz.prog 20 [encEnv e,encFn f] (.tuple [vl V.bool (Ss.dNeed f),vint 0]):=by
 intro S
 have cck:=Check_v e f he hf
 have cne:=Needed_v e f hf hc
 generalize Ss.check e f=ck at *
 generalize Ss.dNeed f=need at *
 obtain ⟨⟨fi,fo⟩,ts,bs⟩:=f
 obtain ⟨sg,im,gl,mu,me⟩:=e
 have cck':VPure Tryz.prog 24 [.agg [vl encSig sg,vint im,vl vint gl,vl V.bool mu, .bool me], .agg [vl vint fi,vl vint fo,vl vint ts,vl encBlock bs]] (.bool ck):=cck
 have cne':VPure Tryz.prog 25 [.agg [vl vint fi,vl vint fo,vl vint ts,vl encBlock bs]] (vl V.bool need):=cne
 refine vcalls_start (c:=bodyOf Tryz.f20) Tryz.func20 rfl rfl (by simp [Tryz.ntmps20]) ?_
 rw [Tryz.ntmps20]
 intro hwf
 repeat refine QS ?_
 refine QR (r:=by conv=>lhs;simp[-List.map_set,QV]) (k:=?_)
 refine QN ?_
 refine vw_ghost' 2 rfl ((refSt (k:=0) (by simp) (by rfl) (by rfl) (by simp))) (by conv=>lhs; simp [Fr.set]) ?_
 simp only [List.set_cons_succ,List.set_cons_zero]
 refine vw_ghost' 3 rfl ((refSt (k:=1) (by simp) (by rfl) (by rfl) (by simp))) (by conv=>lhs; simp [Fr.set]) ?_
 simp only [List.set_cons_succ,List.set_cons_zero]
 repeat refine QS ?_
 refine QR (r:=by conv=>lhs;simp[-List.map_set,QV]) (k:=?_)
 refine vcall_useH (cck') (by rfl) ?_
 refine QM (by conv=>lhs;simp[-List.map_set,QV,hc]) ?_
 refine QN ?_
 repeat (first|refine QG ?_|refine QX (r:=by conv=>lhs;simp[-List.map_set,QV,hc]) (k:=?_))
 repeat refine QS ?_
 refine QR (r:=by conv=>lhs;simp[-List.map_set,QV]) (k:=?_)
 refine vcall_useH (cne') (by rfl) ?_
 refine QM (by conv=>lhs;simp[-List.map_set,QV]) ?_
 refine QN ?_
 repeat (first|refine QG ?_|refine QX (r:=by conv=>lhs;simp[-List.map_set,QV]) (k:=?_))
 exact done_pure (X := .tuple [vl V.bool need,vint 0]) hwf (by simp) rfl
theorem envD_ghost (S:Store):Ghost (.agg [.nils, .int .i64 0, .nils, .nils, .bool false]) S (encEnv Ss.envD) S:=by
 refine Ghost.agg_nl rfl fun i x y hx hy => ?_
 match i,hx,hy with
 | 0,hx,hy=>cases hx; cases hy; exact .inr ⟨rfl,rfl⟩
 | 1,hx,hy=>cases hx; cases hy; exact .inl rfl
 | 2,hx,hy=>cases hx; cases hy; exact .inr ⟨rfl,rfl⟩
 | 3,hx,hy=>cases hx; cases hy; exact .inr ⟨rfl,rfl⟩
 | 4,hx,hy=>cases hx; cases hy; exact .inl rfl
theorem small15_v:VPure Tryz.prog 37 [.int .i64 0, .list [.int .i64 127], .list [.agg [.int .i64 106, .int .u64 0, .list [.int .i64 0, .int .i64 1], .list [.int .i64 2]]]] (encFn Ss.smallD):=by
 intro S
 have hcv : ∀ l,(vl encIns l).closed1=true:=fun _=>rfl
 have hk1 : ∀ k n,(V.int k n).closed1=true:=fun _ _=>rfl
 have hk2 : ∀ l,(V.list l).closed1=true:=fun _=>rfl
 have hr2:rep0 [V.int .i64 0] 2=[.int .i64 0, .int .i64 0]:=rfl
 have hr1:rep0 [V.int .i64 0] 1=[.int .i64 0]:=rfl
 have hr4:rep0 [V.int .i64 0, .int .u64 0, .nils, .nils] 1=[.int .i64 0, .int .u64 0, .nils, .nils]:=rfl
 have hr6:rep0 [V.nils, .nils, .int .i64 0, .int .i64 0, .nils, .nils] 1=[.nils, .nils, .int .i64 0, .int .i64 0, .nils, .nils]:=rfl
 refine vcalls_startC (c:=bodyOf Tryz.f37) Tryz.func37 rfl (by conv=>lhs; reduce) (by simp [Tryz.ntmps37]) ?_
 rw [Tryz.ntmps37]
 intro hwf
 repeat refine QS ?_
 refine QR (r:=by conv=>lhs;simp[-List.map_set,QV]) (k:=?_)
 refine QN ?_
 repeat refine QS ?_
 refine QR (r:=by conv=>lhs;simp[-List.map_set,QV,hr2,hr1,hr4,hr6,opAppend,srcCells]) (k:=?_)
 refine QN ?_
 apply vw_reach
 ·exact Reach.nilCell (k:=3) (i:=2) (by simp) (by rfl) (by rfl)
 simp only [List.set_cons_succ,List.set_cons_zero]
 apply vw_reach
 ·exact Reach.nilCell (k:=3) (i:=3) (by simp) (by rfl) (by rfl)
 simp only [List.set_cons_succ,List.set_cons_zero]
 apply vw_reach
 ·exact Reach.frzCellS (enc:=encIns) (s:=4) (fun _=>rfl) encIns_closed (k:=5) (j:=3) (i:=1) [⟨258,0,[],[]⟩,⟨106,0,[0,1],[2]⟩] (by decide) (by simp) (by simp) (by rfl) (by rfl) (by rfl)
 simp only [List.set_cons_succ,List.set_cons_zero]
 apply vw_reach
 ·exact Reach.frzCell (k:=5) (j:=1) (i:=0) (by decide) (by simp) (by simp) (by rfl) (by rfl) (by rfl) (by rfl) (by rfl)
 simp only [List.set_cons_succ,List.set_cons_zero]
 apply vw_reach
 ·exact Reach.nilCell (k:=5) (i:=4) (by simp) (by rfl) (by rfl)
 simp only [List.set_cons_succ,List.set_cons_zero]
 apply vw_reach
 ·exact Reach.frzCell (k:=5) (j:=4) (i:=5) (by decide) (by simp) (by simp) (by rfl) (by rfl) (by rfl) (by rfl) (by rfl)
 simp only [List.set_cons_succ,List.set_cons_zero]
 repeat refine QS ?_
 refine vw_drawFrz (ZZ.mk _ (St S [] [none,none,none,none,none,some (6,[.list [.int .i64 0, .int .i64 1],vl encIns [⟨258,0,[],[]⟩,⟨106,0,[0,1],[2]⟩], .int .i64 4, .int .i64 0, .list [], .list [.int .i64 0]])]) (St S [] [none,none,none,none,none,some (6,[.list [.int .i64 0, .int .i64 1],vl encIns [⟨258,0,[],[]⟩,⟨106,0,[0,1],[2]⟩], .int .i64 4, .int .i64 0, .list [], .list [.int .i64 0]])]) []) [17,18,24] rfl (by kernel_rfl) (by conv=>lhs; reduce) (by conv=>lhs; reduce) (by conv=>lhs; reduce) (by kernel_rfl) (by kernel_rfl) (ok_St (by simp [subU,shpU,subL,shpL])) (Store.sub_refl _) (by conv=>lhs; simp [-List.map_set,QV,hr2,hr1,hr6,hk1,hk2]) ?_
 refine vseg_write rfl (by conv=>lhs;simp[-List.map_set,QV,hr2]) (ok_St (by simp [subU,shpU,subL,shpL])) ?_
 refine QM (by conv=>lhs;simp[-List.map_set,QV]) ?_
 refine vseg_write rfl (by conv=>lhs;simp[-List.map_set,QV,opAppend,srcCells]) (ok_St (by simp [subU,shpU,subL,shpL])) ?_
 refine QM (by conv=>lhs;simp[-List.map_set,QV,hr6,hk1,hk2,hcv]) ?_
 refine vseg_write rfl (by conv=>lhs;simp[-List.map_set,QV]) (ok_St (by simp [subU,shpU,subL,shpL])) ?_
 refine QN ?_
 apply vw_reach
 ·exact Reach.frzCell (k:=0) (j:=7) (i:=2) (by decide) (by simp) (by simp) (by rfl) (by rfl) (by rfl) (by rfl) (by rfl)
 simp only [List.set_cons_succ,List.set_cons_zero]
 repeat (first|refine QG ?_|refine QX (r:=by conv=>lhs;simp[-List.map_set,QV]) (k:=?_))
 exact doneC (by simp; rfl) (done_pure hwf (by simp [Ss.smallD,vl]) rfl)
theorem code15_ghost {S:Store} {oc a b:Nat} (hc:S.get oc=some (4,[.int .i64 106, .int .u64 0, .slice a 0 2, .slice b 0 1])) (ha:S.get a=some (1,[.int .i64 0, .int .i64 1])) (hb:S.get b=some (1,[.int .i64 2])) (hd:[oc,a,b].Nodup) :
  Ghost (.slice oc 0 1) S (.list [.agg [.int .i64 106, .int .u64 0, .list [.int .i64 0, .int .i64 1], .list [.int .i64 2]]]) (S.dels [oc,a,b]):=by
 have hw:OwL S (reps 1 [.c, .c, .s (List.replicate 1 .c), .s (List.replicate 1 .c)]) [.int .i64 106, .int .u64 0, .slice a 0 2, .slice b 0 1] [.int .i64 106, .int .u64 0,vl vint [0,1],vl vint [2]] [a,b]:=by
  refine .c rfl (.c rfl (OwL.slice (enc:=vint) (fun _=>rfl) (fun _=>rfl) [0,1] (by rw [flatC_vint]; exact ha) ?_))
  exact OwL.slice (enc:=vint) (fun _=>rfl) (fun _=>rfl) [2] (by rw [flatC_vint]; exact hb) .nil
 have:=OwL.s (S:=S) (o:=oc) (tys:=[.c, .c, .s (List.replicate 1 .c), .s (List.replicate 1 .c)]) (ys:=[.agg [.int .i64 106, .int .u64 0, .list [.int .i64 0, .int .i64 1], .list [.int .i64 2]]]) (i:=[a,b]) (j:=[]) hc (fun y hy=>by
  simp only [List.mem_cons,List.not_mem_nil,or_false] at hy
  subst hy; exact ⟨rfl,rfl⟩) hw .nil
 exact ghost_single (this.freeze hd S fun _ _=>rfl)
theorem Alive15_v:VPure Tryz.prog 13 [] (.bool true):=by
 intro S
 have hr1:rep0 [V.int .i64 0] 1=[.int .i64 0]:=rfl
 have hr2:rep0 [V.int .i64 0] 2=[.int .i64 0, .int .i64 0]:=rfl
 have hr4:rep0 [V.int .i64 0, .int .u64 0, .nils, .nils] 1=[.int .i64 0, .int .u64 0, .nils, .nils]:=rfl
 have cs:=small15_v
 have cb:=DceP_v Ss.envD Ss.smallD Ss.envD_fits Ss.smallD_fits
 have cn:=DNeeded_v Ss.envD Ss.smallD Ss.envD_fits Ss.smallD_fits Ss.smallD_check
 rw [Ss.smallD_out] at cb
 rw [Ss.smallD_need] at cn
 have hF':encFn Ss.smallD' = .agg [vl vint [127,127],vl vint [127],vl vint [127,127,127],vl encBlock [⟨[0,1],[⟨258,0,[],[]⟩],⟨4,0,[],[0]⟩⟩]]:=rfl
 obtain ⟨f1,f2,f3,f4,hF,o1,o2,o3,o4,c1,c2,c3,c4⟩ : ∃ f1 f2 f3 f4,encFn Ss.smallD = .agg [f1,f2,f3,f4]∧f1.one=true∧f2.one=true∧f3.one=true∧f4.one=true∧f1.closed1=true∧f2.closed1=true∧f3.closed1=true∧f4.closed1=true:=⟨_,_,_,_,rfl,rfl,rfl,rfl,rfl,rfl,rfl,rfl,rfl⟩
 rw [hF] at cs cb cn
 rw [hF'] at cb
 refine vcalls_start (c:=bodyOf Tryz.f13) Tryz.func13 rfl rfl (by simp [Tryz.ntmps13]) ?_
 rw [Tryz.ntmps13]
 intro hwf
 repeat refine QS ?_
 refine QR (r:=by conv=>lhs;simp[-List.map_set,QV]) (k:=?_)
 refine QN ?_
 repeat refine QS ?_
 refine QR (r:=by conv=>lhs;simp[-List.map_set,QV,hr1,hr2,hr4]) (k:=?_)
 have hg1:GhostArgs [.int .i64 0, .slice (lid S.nx 0) 0 1, .slice (lid S.nx 3) 0 1] (St S [] [some (1,[.int .i64 127]),some (1,[.int .i64 0, .int .i64 1]),some (1,[.int .i64 2]),some (4,[.int .i64 106, .int .u64 0, .slice (lid S.nx 1) 0 2, .slice (lid S.nx 2) 0 1])]) [.int .i64 0, .list [.int .i64 127], .slice (lid S.nx 3) 0 1] (St S [] [none,some (1,[.int .i64 0, .int .i64 1]),some (1,[.int .i64 2]),some (4,[.int .i64 106, .int .u64 0, .slice (lid S.nx 1) 0 2, .slice (lid S.nx 2) 0 1])]):=GhostArgs.one [.int .i64 0] [_] (frz1 (k:=0) (len:=1) (by simp) rfl rfl rfl)
 have hg2 := @code15_ghost (St S [] [none,some (1,[.int .i64 0, .int .i64 1]),some (1,[.int .i64 2]),some (4,[.int .i64 106, .int .u64 0, .slice (lid S.nx 1) 0 2, .slice (lid S.nx 2) 0 1])]) (lid S.nx 3) (lid S.nx 1) (lid S.nx 2) (by rw [St_get]; rfl) (by rw [St_get]; rfl) (by rw [St_get]; rfl) (by simp [lid])
 have hdl:(St S [] [none,some (1,[.int .i64 0, .int .i64 1]),some (1,[.int .i64 2]),some (4,[.int .i64 106, .int .u64 0, .slice (lid S.nx 1) 0 2, .slice (lid S.nx 2) 0 1])]).dels [lid S.nx 3,lid S.nx 1,lid S.nx 2]=St S [] [none,none,none,none]:=by
  simp [Store.dels,St_del]
 rw [hdl] at hg2
 refine vcall_useG rfl (hg1.trans (GhostArgs.one [_,_] [] hg2)) cs ?_
 refine QM (by conv=>lhs;simp[-List.map_set,QV,o1,o2,o3,o4]) ?_
 refine QN ?_
 refine vw_ghost' 1 rfl ((refSt (k:=4) (by simp) (by rfl) (by simp [c1,c2,c3,c4]) (by simp))) (by conv=>lhs; simp [Fr.set]) ?_
 simp only [List.set_cons_succ,List.set_cons_zero]
 repeat refine QS ?_
 refine QR (r:=by conv=>lhs;simp[-List.map_set,QV,o1,o2,o3,o4]) (k:=?_)
 refine vcall_useG rfl (GhostArgs.one [] [_] (envD_ghost _)) cb ?_
 refine QM (by conv=>lhs;simp[-List.map_set,QV]) ?_
 refine QN ?_
 have hix0 : ∀ S,opIndex 1 S (vl V.bool [true,true,false]) (.int .i64 0)=some (.ref (.bool true)):=fun _=>rfl
 have hix2 : ∀ S,opIndex 1 S (vl V.bool [true,true,false]) (.int .i64 2)=some (.ref (.bool false)):=fun _=>rfl
 repeat refine QS ?_
 refine QR (r:=by conv=>lhs;simp[-List.map_set,QV,o1,o2,o3,o4]) (k:=?_)
 refine vcall_useG rfl (GhostArgs.one [] [_] (envD_ghost _)) cn ?_
 refine QM (by conv=>lhs;simp[-List.map_set,QV]) ?_
 refine QN ?_
 repeat (first|refine QG ?_|refine QX (r:=by conv=>lhs;simp[-List.map_set,QV,hix0,hix2]) (k:=?_))
 exact done_pure (X := .bool true) hwf (by simp) rfl
end Go.Vw

namespace Ss
def rin (op a b:Int):Bool:=decide (a≤op)&&decide (op≤b)
def rof (op:Int):Int :=
 if rin op 69 79∨rin op 103 120∨op=172∨op=173∨op=192∨op=193 then 127
 else if rin op 80 90∨rin op 121 138∨op=167∨rin op 194 196 then 126 else 0
def runary (op:Int):Bool:=decide (op=69)||(decide (op=80)||(rin op 103 105||(rin op 121 123||decide (167≤op))))
def rsigT (op:Int):Int:=if op=172∨op=173 then 126 else if rin op 69 90∨op=167 then 127 else rof op
def rsig (op:Int):List Int × Int × Bool :=
 if rof op=0 then ([],0,false) else (if runary op then [rof op] else [rof op,rof op],rsigT op,true)
theorem rsig_small : ∀ n:Nat,n<256→rsig (n:Int)=numSig (n:Int):=by decide +kernel
theorem rsig_eq (op:Int):rsig op=numSig op:=by
 by_cases h:0≤op∧op<256
 ·obtain ⟨n,rfl⟩:=Int.eq_ofNat_of_zero_le h.1
  exact rsig_small n (by have:=h.2; omega)
 ·have h1:rof op=0:=by
   unfold rof
   rw [if_neg (by simp only [rin,Bool.and_eq_true,decide_eq_true_eq]; omega),if_neg (by simp only [rin,Bool.and_eq_true,decide_eq_true_eq]; omega)]
  have h2:find op=none:=by
   cases hf:find op with
   | none=>rfl
   | some g =>
    exfalso
    obtain ⟨hm,hh⟩:=findIn_mem hf
    have ha : ∀ g∈groups,0≤g.first∧g.first+g.many≤256:=by decide +kernel
    have:=ha g hm
    simp only [Grp.has,Bool.and_eq_true,decide_eq_true_eq] at hh
    omega
  simp [rsig,h1,numSig,h2]
end Ss
namespace Go.Vw
open Go.Proofs Go.RowKit
set_option maxRecDepth 10000
set_option maxHeartbeats 2000000
theorem in_v (op a b:Int):VPure Tryz.prog 90 [vint op,vint a,vint b] (.bool (Ss.rin op a b)):=by
 intro S
 by_cases h:a≤op
 ·have hX:Ss.rin op a b=decide (op≤b):=by simp [Ss.rin,h]
  rw [hX]
  refine vcalls_start (c:=bodyOf Tryz.f90) Tryz.func90 rfl rfl (by simp [Tryz.ntmps90]) ?_
  rw [Tryz.ntmps90]
  intro hwf
  repeat (first|refine QG ?_|refine QX (r:=by conv=>lhs;simp[-List.map_set,QV,h]) (k:=?_))
  exact done_pure hwf (by simp) rfl
 ·have hX:Ss.rin op a b=false:=by simp [Ss.rin,h]
  rw [hX]
  refine vcalls_start (c:=bodyOf Tryz.f90) Tryz.func90 rfl rfl (by simp [Tryz.ntmps90]) ?_
  rw [Tryz.ntmps90]
  intro hwf
  repeat (first|refine QG ?_|refine QX (r:=by conv=>lhs;simp[-List.map_set,QV,h]) (k:=?_))
  exact done_pure hwf (by simp) rfl
theorem Fits_v (t n:Int):VPure Tryz.prog 84 [vint t,vu n] (.bool (decide (t=126)||(decide (t=127)&&decide (n<4294967296)))):=by
 intro S
 refine vcalls_start (c:=bodyOf Tryz.f84) Tryz.func84 rfl rfl (by simp [Tryz.ntmps84]) ?_
 rw [Tryz.ntmps84]
 intro hwf
 by_cases h:t=126
 ·repeat (first|refine QG ?_|refine QX (r:=by conv=>lhs;simp[-List.map_set,QV,h]) (k:=?_))
  exact done_pure hwf (by simp [h]) rfl
 by_cases h2:t=127
 ·repeat (first|refine QG ?_|refine QX (r:=by conv=>lhs;simp[-List.map_set,QV,h,h2]) (k:=?_))
  exact done_pure hwf (by simp [h,h2]) rfl
 ·repeat (first|refine QG ?_|refine QX (r:=by conv=>lhs;simp[-List.map_set,QV,h,h2]) (k:=?_))
  exact done_pure hwf (by simp [h,h2]) rfl
theorem Of_v (op:Int):VPure Tryz.prog 89 [vint op] (vint (Ss.rof op)):=by
 intro S
 have c1:VPure Tryz.prog 90 [vint op, .int .i64 69, .int .i64 79] (.bool (Ss.rin op 69 79)):=in_v op 69 79
 have c2:VPure Tryz.prog 90 [vint op, .int .i64 103, .int .i64 120] (.bool (Ss.rin op 103 120)):=in_v op 103 120
 have c3:VPure Tryz.prog 90 [vint op, .int .i64 80, .int .i64 90] (.bool (Ss.rin op 80 90)):=in_v op 80 90
 have c4:VPure Tryz.prog 90 [vint op, .int .i64 121, .int .i64 138] (.bool (Ss.rin op 121 138)):=in_v op 121 138
 have c5:VPure Tryz.prog 90 [vint op, .int .i64 194, .int .i64 196] (.bool (Ss.rin op 194 196)):=in_v op 194 196
 have hX:Ss.rof op=if Ss.rin op 69 79∨Ss.rin op 103 120∨op=172∨op=173∨op=192∨op=193 then 127
  else if Ss.rin op 80 90∨Ss.rin op 121 138∨op=167∨Ss.rin op 194 196 then 126 else 0:=rfl
 rw [hX]
 generalize Ss.rin op 69 79=x1 at *
 generalize Ss.rin op 103 120=x2 at *
 generalize Ss.rin op 80 90=x3 at *
 generalize Ss.rin op 121 138=x4 at *
 generalize Ss.rin op 194 196=x5 at *
 clear hX
 refine vcalls_start (c:=bodyOf Tryz.f89) Tryz.func89 rfl rfl (by simp [Tryz.ntmps89]) ?_
 rw [Tryz.ntmps89]
 intro hwf
 repeat (first|refine QG ?_|refine QX (r:=by conv=>lhs;simp[-List.map_set,QV]) (k:=?_))
 repeat refine QS ?_
 refine QR (r:=by conv=>lhs;simp[-List.map_set,QV]) (k:=?_)
 refine vcall_useH (c1) (by rfl) ?_
 by_cases h1:x1=true
 ·refine QM (by conv=>lhs;simp[-List.map_set,QV,h1]) ?_
  refine QN ?_
  repeat (first|refine QG ?_|refine QX (r:=by conv=>lhs;simp[-List.map_set,QV]) (k:=?_))
  exact done_pure hwf (by simp [h1]) rfl
 have g1:x1=false:=by simpa using h1
 refine QM (by conv=>lhs;simp[-List.map_set,QV,g1]) ?_
 refine vcall_useH (c2) (by rfl) ?_
 by_cases h2:x2=true
 ·refine QM (by conv=>lhs;simp[-List.map_set,QV,h2]) ?_
  refine QN ?_
  repeat (first|refine QG ?_|refine QX (r:=by conv=>lhs;simp[-List.map_set,QV]) (k:=?_))
  exact done_pure hwf (by simp [h2]) rfl
 have g2:x2=false:=by simpa using h2
 by_cases k1:op=172
 ·refine QM (by conv=>lhs;simp[-List.map_set,QV,g2,k1]) ?_
  refine QN ?_
  repeat (first|refine QG ?_|refine QX (r:=by conv=>lhs;simp[-List.map_set,QV]) (k:=?_))
  exact done_pure hwf (by simp [k1]) rfl
 by_cases k2:op=173
 ·refine QM (by conv=>lhs;simp[-List.map_set,QV,g2,k1,k2]) ?_
  refine QN ?_
  repeat (first|refine QG ?_|refine QX (r:=by conv=>lhs;simp[-List.map_set,QV]) (k:=?_))
  exact done_pure hwf (by simp [k2]) rfl
 by_cases k3:op=192
 ·refine QM (by conv=>lhs;simp[-List.map_set,QV,g2,k1,k2,k3]) ?_
  refine QN ?_
  repeat (first|refine QG ?_|refine QX (r:=by conv=>lhs;simp[-List.map_set,QV]) (k:=?_))
  exact done_pure hwf (by simp [k3]) rfl
 by_cases k4:op=193
 ·refine QM (by conv=>lhs;simp[-List.map_set,QV,g2,k1,k2,k3,k4]) ?_
  refine QN ?_
  repeat (first|refine QG ?_|refine QX (r:=by conv=>lhs;simp[-List.map_set,QV]) (k:=?_))
  exact done_pure hwf (by simp [k4]) rfl
 rw [if_neg (by simp [g1,g2,k1,k2,k3,k4])]
 refine QM (by conv=>lhs;simp[-List.map_set,QV,g2,k1,k2,k3,k4]) ?_
 refine QN ?_
 repeat (first|refine QG ?_|refine QX (r:=by conv=>lhs;simp[-List.map_set,QV]) (k:=?_))
 repeat refine QS ?_
 refine QR (r:=by conv=>lhs;simp[-List.map_set,QV]) (k:=?_)
 refine vcall_useH (c3) (by rfl) ?_
 by_cases h3:x3=true
 ·refine QM (by conv=>lhs;simp[-List.map_set,QV,h3]) ?_
  refine QN ?_
  repeat (first|refine QG ?_|refine QX (r:=by conv=>lhs;simp[-List.map_set,QV]) (k:=?_))
  exact done_pure hwf (by simp [h3]) rfl
 have g3:x3=false:=by simpa using h3
 refine QM (by conv=>lhs;simp[-List.map_set,QV,g3]) ?_
 refine vcall_useH (c4) (by rfl) ?_
 by_cases h4:x4=true
 ·refine QM (by conv=>lhs;simp[-List.map_set,QV,h4]) ?_
  refine QN ?_
  repeat (first|refine QG ?_|refine QX (r:=by conv=>lhs;simp[-List.map_set,QV]) (k:=?_))
  exact done_pure hwf (by simp [h4]) rfl
 have g4:x4=false:=by simpa using h4
 by_cases k5:op=167
 ·refine QM (by conv=>lhs;simp[-List.map_set,QV,g4,k5]) ?_
  refine QN ?_
  repeat (first|refine QG ?_|refine QX (r:=by conv=>lhs;simp[-List.map_set,QV]) (k:=?_))
  exact done_pure hwf (by simp [k5]) rfl
 refine QM (by conv=>lhs;simp[-List.map_set,QV,g4,k5]) ?_
 refine vcall_useH (c5) (by rfl) ?_
 by_cases h5:x5=true
 ·refine QM (by conv=>lhs;simp[-List.map_set,QV,h5]) ?_
  refine QN ?_
  repeat (first|refine QG ?_|refine QX (r:=by conv=>lhs;simp[-List.map_set,QV]) (k:=?_))
  exact done_pure hwf (by simp [h5]) rfl
 have g5:x5=false:=by simpa using h5
 refine QM (by conv=>lhs;simp[-List.map_set,QV,g5]) ?_
 refine QN ?_
 repeat (first|refine QG ?_|refine QX (r:=by conv=>lhs;simp[-List.map_set,QV]) (k:=?_))
 exact done_pure hwf (by simp [g3,g4,k5,g5]) rfl
theorem Unary_v (op:Int):VPure Tryz.prog 132 [vint op] (.bool (Ss.runary op)):=by
 intro S
 have c1:VPure Tryz.prog 90 [vint op, .int .i64 103, .int .i64 105] (.bool (Ss.rin op 103 105)):=in_v op 103 105
 have c2:VPure Tryz.prog 90 [vint op, .int .i64 121, .int .i64 123] (.bool (Ss.rin op 121 123)):=in_v op 121 123
 have hX:Ss.runary op=(decide (op=69)||(decide (op=80)||(Ss.rin op 103 105||(Ss.rin op 121 123||decide (167≤op))))):=rfl
 rw [hX]
 generalize Ss.rin op 103 105=x1 at *
 generalize Ss.rin op 121 123=x2 at *
 refine vcalls_start (c:=bodyOf Tryz.f132) Tryz.func132 rfl rfl (by simp [Tryz.ntmps132]) ?_
 rw [Tryz.ntmps132]
 intro hwf
 by_cases k1:op=69
 ·repeat (first|refine QG ?_|refine QX (r:=by conv=>lhs;simp[-List.map_set,QV,k1]) (k:=?_))
  exact done_pure hwf (by simp [k1]) rfl
 by_cases k2:op=80
 ·repeat (first|refine QG ?_|refine QX (r:=by conv=>lhs;simp[-List.map_set,QV,k1,k2]) (k:=?_))
  exact done_pure hwf (by simp [k2]) rfl
 repeat (first|refine QG ?_|refine QX (r:=by conv=>lhs;simp[-List.map_set,QV]) (k:=?_))
 repeat refine QS ?_
 refine QR (r:=by conv=>lhs;simp[-List.map_set,QV,k1,k2]) (k:=?_)
 refine vcall_useH (c1) (by rfl) ?_
 by_cases h1:x1=true
 ·refine QM (by conv=>lhs;simp[-List.map_set,QV,h1]) ?_
  refine QN ?_
  repeat (first|refine QG ?_|refine QX (r:=by conv=>lhs;simp[-List.map_set,QV]) (k:=?_))
  exact done_pure hwf (by simp [h1]) rfl
 have g1:x1=false:=by simpa using h1
 refine QM (by conv=>lhs;simp[-List.map_set,QV,g1]) ?_
 refine vcall_useH (c2) (by rfl) ?_
 by_cases h2:x2=true
 ·refine QM (by conv=>lhs;simp[-List.map_set,QV,h2]) ?_
  refine QN ?_
  repeat (first|refine QG ?_|refine QX (r:=by conv=>lhs;simp[-List.map_set,QV]) (k:=?_))
  exact done_pure hwf (by simp [h2]) rfl
 have g2:x2=false:=by simpa using h2
 refine QM (by conv=>lhs;simp[-List.map_set,QV,g2]) ?_
 refine QN ?_
 repeat (first|refine QG ?_|refine QX (r:=by conv=>lhs;simp[-List.map_set,QV]) (k:=?_))
 exact done_pure hwf (by simp [k1,k2,g1,g2]) rfl
theorem RNumSig_v (op:Int):VPure Tryz.prog 109 [vint op] (.tuple [vl vint (Ss.numSig op).1,vint (Ss.numSig op).2.1, .bool (Ss.numSig op).2.2]):=by
 intro S
 rw [←Ss.rsig_eq op]
 have c1:=Of_v op
 have c2:=Unary_v op
 have c3:VPure Tryz.prog 90 [vint op, .int .i64 69, .int .i64 90] (.bool (Ss.rin op 69 90)):=in_v op 69 90
 have hX:Ss.rsig op=if Ss.rof op=0 then ([],0,false) else (if Ss.runary op then [Ss.rof op] else [Ss.rof op,Ss.rof op],if op=172∨op=173 then 126 else if Ss.rin op 69 90∨op=167 then 127 else Ss.rof op,true):=rfl
 rw [hX]
 generalize Ss.rof op=t at *
 generalize Ss.runary op=un at *
 generalize Ss.rin op 69 90=x at *
 clear hX
 refine vcalls_start (c:=bodyOf Tryz.f109) Tryz.func109 rfl rfl (by simp [Tryz.ntmps109]) ?_
 rw [Tryz.ntmps109]
 intro hwf
 repeat (first|refine QG ?_|refine QX (r:=by conv=>lhs;simp[-List.map_set,QV]) (k:=?_))
 repeat refine QS ?_
 refine QR (r:=by conv=>lhs;simp[-List.map_set,QV]) (k:=?_)
 refine vcall_useH (c1) (by rfl) ?_
 by_cases ht:t=0
 ·refine QM (by conv=>lhs;simp[-List.map_set,QV]) ?_
  refine QN ?_
  repeat (first|refine QG ?_|refine QX (r:=by conv=>lhs;simp[-List.map_set,QV,ht]) (k:=?_))
  rw [if_pos ht]
  exact done_via (l:=[]) hwf (Ghost.toB (Ghost.tuple [] [_,_] (Ghost.nils_list _)) _) rfl
 rw [if_neg ht]
 refine QM (by conv=>lhs;simp[-List.map_set,QV]) ?_
 refine QN ?_
 repeat (first|refine QG ?_|refine QX (r:=by conv=>lhs;simp[-List.map_set,QV,ht]) (k:=?_))
 repeat refine QS ?_
 refine QR (r:=by conv=>lhs;simp[-List.map_set,QV]) (k:=?_)
 refine vcall_useH (c2) (by rfl) ?_
 obtain ⟨r,hr⟩ : ∃ r,(if op=172∨op=173 then 126 else if x∨op=167 then 127 else t)=r:=⟨_,rfl⟩
 simp only [hr]
 by_cases hu:un=true
 ·rw [if_pos hu]
  refine QM (by conv=>lhs;simp[-List.map_set,QV,hu]) ?_
  refine QN ?_
  repeat (first|refine QG ?_|refine QX (r:=by conv=>lhs;simp[-List.map_set,QV,hu]) (k:=?_))
  refine vw_trim 6 1 rfl (by simp) rfl (by conv=>lhs; simp [List.set_cons_zero,List.set_cons_succ]) ?_
  repeat refine QS ?_
  refine QR (r:=by conv=>lhs;simp[-List.map_set,QV]) (k:=?_)
  refine vcall_useH (c3) (by rfl) ?_
  by_cases hx:x=true
  ·skip
   refine QM (by conv=>lhs;simp[-List.map_set,QV,hx]) ?_
   refine QN ?_
   by_cases k1:op=172
   ·obtain rfl:r=126:=by rw [←hr]; simp [k1]
    repeat (first|refine QG ?_|refine QX (r:=by conv=>lhs;simp[-List.map_set,QV,hx,k1]) (k:=?_))
    exact done_via hwf ((Ghost.tuple [] [_,_] (frz1 (k:=0) (by simp) (by rfl) (by rfl) (by rfl))).toB _) rfl
   by_cases k2:op=173
   ·obtain rfl:r=126:=by rw [←hr]; simp [k2]
    repeat (first|refine QG ?_|refine QX (r:=by conv=>lhs;simp[-List.map_set,QV,hx,k1,k2]) (k:=?_))
    exact done_via hwf ((Ghost.tuple [] [_,_] (frz1 (k:=0) (by simp) (by rfl) (by rfl) (by rfl))).toB _) rfl
   obtain rfl:r=127:=by rw [←hr]; simp [k1,k2,hx]
   repeat (first|refine QG ?_|refine QX (r:=by conv=>lhs;simp[-List.map_set,QV,hx,k1,k2]) (k:=?_))
   exact done_via hwf ((Ghost.tuple [] [_,_] (frz1 (k:=0) (by simp) (by rfl) (by rfl) (by rfl))).toB _) rfl
  have hx':x=false:=by simpa using hx
  by_cases hq:op=167
  ·skip
   refine QM (by conv=>lhs;simp[-List.map_set,QV,hx',hq]) ?_
   refine QN ?_
   have k1 : ¬ op=172:=by omega
   have k2 : ¬ op=173:=by omega
   obtain rfl:r=127:=by rw [←hr]; simp [k1,k2,hq]
   repeat (first|refine QG ?_|refine QX (r:=by conv=>lhs;simp[-List.map_set,QV,hx',hq,k1,k2]) (k:=?_))
   exact done_via hwf ((Ghost.tuple [] [_,_] (frz1 (k:=0) (by simp) (by rfl) (by rfl) (by rfl))).toB _) rfl
  refine QM (by conv=>lhs;simp[-List.map_set,QV,hx',hq]) ?_
  refine QN ?_
  by_cases k1:op=172
  ·obtain rfl:r=126:=by rw [←hr]; simp [k1]
   repeat (first|refine QG ?_|refine QX (r:=by conv=>lhs;simp[-List.map_set,QV,hx',hq,k1]) (k:=?_))
   exact done_via hwf ((Ghost.tuple [] [_,_] (frz1 (k:=0) (by simp) (by rfl) (by rfl) (by rfl))).toB _) rfl
  by_cases k2:op=173
  ·obtain rfl:r=126:=by rw [←hr]; simp [k2]
   repeat (first|refine QG ?_|refine QX (r:=by conv=>lhs;simp[-List.map_set,QV,hx',hq,k1,k2]) (k:=?_))
   exact done_via hwf ((Ghost.tuple [] [_,_] (frz1 (k:=0) (by simp) (by rfl) (by rfl) (by rfl))).toB _) rfl
  obtain rfl:r=t:=by rw [←hr]; simp [k1,k2,hx',hq]
  repeat (first|refine QG ?_|refine QX (r:=by conv=>lhs;simp[-List.map_set,QV,hx',hq,k1,k2]) (k:=?_))
  exact done_via hwf ((Ghost.tuple [] [_,_] (frz1 (k:=0) (by simp) (by rfl) (by rfl) (by rfl))).toB _) rfl
 ·replace hu:un=false:=by simpa using hu
  rw [if_neg (by simp [hu])]
  refine QM (by conv=>lhs;simp[-List.map_set,QV,hu]) ?_
  refine QN ?_
  repeat (first|refine QG ?_|refine QX (r:=by conv=>lhs;simp[-List.map_set,QV,hu]) (k:=?_))
  repeat refine QS ?_
  refine QR (r:=by conv=>lhs;simp[-List.map_set,QV]) (k:=?_)
  refine vcall_useH (c3) (by rfl) ?_
  by_cases hx:x=true
  ·skip
   refine QM (by conv=>lhs;simp[-List.map_set,QV,hx]) ?_
   refine QN ?_
   by_cases k1:op=172
   ·obtain rfl:r=126:=by rw [←hr]; simp [k1]
    repeat (first|refine QG ?_|refine QX (r:=by conv=>lhs;simp[-List.map_set,QV,hx,k1]) (k:=?_))
    exact done_via hwf ((Ghost.tuple [] [_,_] (frz1 (k:=0) (by simp) (by rfl) (by rfl) (by rfl))).toB _) rfl
   by_cases k2:op=173
   ·obtain rfl:r=126:=by rw [←hr]; simp [k2]
    repeat (first|refine QG ?_|refine QX (r:=by conv=>lhs;simp[-List.map_set,QV,hx,k1,k2]) (k:=?_))
    exact done_via hwf ((Ghost.tuple [] [_,_] (frz1 (k:=0) (by simp) (by rfl) (by rfl) (by rfl))).toB _) rfl
   obtain rfl:r=127:=by rw [←hr]; simp [k1,k2,hx]
   repeat (first|refine QG ?_|refine QX (r:=by conv=>lhs;simp[-List.map_set,QV,hx,k1,k2]) (k:=?_))
   exact done_via hwf ((Ghost.tuple [] [_,_] (frz1 (k:=0) (by simp) (by rfl) (by rfl) (by rfl))).toB _) rfl
  have hx':x=false:=by simpa using hx
  by_cases hq:op=167
  ·skip
   refine QM (by conv=>lhs;simp[-List.map_set,QV,hx',hq]) ?_
   refine QN ?_
   have k1 : ¬ op=172:=by omega
   have k2 : ¬ op=173:=by omega
   obtain rfl:r=127:=by rw [←hr]; simp [k1,k2,hq]
   repeat (first|refine QG ?_|refine QX (r:=by conv=>lhs;simp[-List.map_set,QV,hx',hq,k1,k2]) (k:=?_))
   exact done_via hwf ((Ghost.tuple [] [_,_] (frz1 (k:=0) (by simp) (by rfl) (by rfl) (by rfl))).toB _) rfl
  refine QM (by conv=>lhs;simp[-List.map_set,QV,hx',hq]) ?_
  refine QN ?_
  by_cases k1:op=172
  ·obtain rfl:r=126:=by rw [←hr]; simp [k1]
   repeat (first|refine QG ?_|refine QX (r:=by conv=>lhs;simp[-List.map_set,QV,hx',hq,k1]) (k:=?_))
   exact done_via hwf ((Ghost.tuple [] [_,_] (frz1 (k:=0) (by simp) (by rfl) (by rfl) (by rfl))).toB _) rfl
  by_cases k2:op=173
  ·obtain rfl:r=126:=by rw [←hr]; simp [k2]
   repeat (first|refine QG ?_|refine QX (r:=by conv=>lhs;simp[-List.map_set,QV,hx',hq,k1,k2]) (k:=?_))
   exact done_via hwf ((Ghost.tuple [] [_,_] (frz1 (k:=0) (by simp) (by rfl) (by rfl) (by rfl))).toB _) rfl
  obtain rfl:r=t:=by rw [←hr]; simp [k1,k2,hx',hq]
  repeat (first|refine QG ?_|refine QX (r:=by conv=>lhs;simp[-List.map_set,QV,hx',hq,k1,k2]) (k:=?_))
  exact done_via hwf ((Ghost.tuple [] [_,_] (frz1 (k:=0) (by simp) (by rfl) (by rfl) (by rfl))).toB _) rfl
end Go.Vw

namespace Ss
def rtotal (op:Int):Bool := !decide (rof op=0) && !rin op 109 112 && !rin op 127 130
theorem rtotal_small : ∀ n:Nat,n<256→rtotal (n:Int)=total (n:Int):=by decide +kernel
theorem rtotal_eq (op:Int):rtotal op=total op:=by
 by_cases h:0≤op∧op<256
 ·obtain ⟨n,rfl⟩:=Int.eq_ofNat_of_zero_le h.1
  exact rtotal_small n (by have:=h.2; omega)
 ·have h1:rof op=0:=by
   unfold rof
   rw [if_neg (by simp only [rin,Bool.and_eq_true,decide_eq_true_eq]; omega),if_neg (by simp only [rin,Bool.and_eq_true,decide_eq_true_eq]; omega)]
  have h2:find op=none:=by
   cases hf:find op with
   | none=>rfl
   | some g =>
    exfalso
    obtain ⟨hm,hh⟩:=findIn_mem hf
    have ha : ∀ g∈groups,0≤g.first∧g.first+g.many≤256:=by decide +kernel
    have:=ha g hm
    simp only [Grp.has,Bool.and_eq_true,decide_eq_true_eq] at hh
    omega
  simp [rtotal,h1,total,h2]
end Ss
namespace Go.Vw
open Go.Proofs Go.RowKit
set_option maxRecDepth 10000
set_option maxHeartbeats 2000000
theorem RTotal_v (op:Int):VPure Tryz.prog 56 [vint op] (.bool (Ss.total op)):=by
 intro S
 rw [←Ss.rtotal_eq op]
 have c1:=Of_v op
 have c2:VPure Tryz.prog 90 [vint op, .int .i64 109, .int .i64 112] (.bool (Ss.rin op 109 112)):=in_v op 109 112
 have c3:VPure Tryz.prog 90 [vint op, .int .i64 127, .int .i64 130] (.bool (Ss.rin op 127 130)):=in_v op 127 130
 have hX:Ss.rtotal op=(!decide (Ss.rof op=0) && !Ss.rin op 109 112 && !Ss.rin op 127 130):=rfl
 rw [hX]
 generalize Ss.rof op=t at *
 generalize Ss.rin op 109 112=x at *
 generalize Ss.rin op 127 130=y at *
 refine vcalls_start (c:=bodyOf Tryz.f56) Tryz.func56 rfl rfl (by simp [Tryz.ntmps56]) ?_
 rw [Tryz.ntmps56]
 intro hwf
 repeat refine QS ?_
 refine QR (r:=by conv=>lhs;simp[-List.map_set,QV]) (k:=?_)
 refine QN ?_
 repeat refine QS ?_
 refine QR (r:=by conv=>lhs;simp[-List.map_set,QV]) (k:=?_)
 refine vcall_useH (c1) (by rfl) ?_
 by_cases ht:t=0
 ·refine QM (by conv=>lhs;simp[-List.map_set,QV,ht]) ?_
  refine QN ?_
  repeat (first|refine QG ?_|refine QX (r:=by conv=>lhs;simp[-List.map_set,QV,ht]) (k:=?_))
  exact done_pure hwf (by simp [ht]) rfl
 ·refine QM (by conv=>lhs;simp[-List.map_set,QV,ht]) ?_
  refine vcall_useH (c2) (by rfl) ?_
  cases x with
  | true =>
   refine QM (by conv=>lhs;simp[-List.map_set,QV,ht]) ?_
   refine QN ?_
   repeat (first|refine QG ?_|refine QX (r:=by conv=>lhs;simp[-List.map_set,QV]) (k:=?_))
   exact done_pure hwf (by simp [ht]) rfl
  | false =>
   refine QM (by conv=>lhs;simp[-List.map_set,QV,ht]) ?_
   refine vcall_useH (c3) (by rfl) ?_
   refine QM (by conv=>lhs;simp[-List.map_set,QV]) ?_
   refine QN ?_
   repeat (first|refine QG ?_|refine QX (r:=by conv=>lhs;simp[-List.map_set,QV]) (k:=?_))
   exact done_pure hwf (by simp [ht]) rfl
theorem RPure_v (op:Int):VPure Tryz.prog 22 [vint op] (.bool (Ss.pure op)):=by
 intro S
 have c1:=RTotal_v op
 have hX:Ss.pure op=(decide (op=256)||decide (op=27)||Ss.total op):=rfl
 rw [hX]
 generalize Ss.total op=t at *
 refine vcalls_start (c:=bodyOf Tryz.f22) Tryz.func22 rfl rfl (by simp [Tryz.ntmps22]) ?_
 rw [Tryz.ntmps22]
 intro hwf
 repeat refine QS ?_
 refine QR (r:=by conv=>lhs;simp[-List.map_set,QV]) (k:=?_)
 refine QN ?_
 by_cases h1:op=256
 ·repeat (first|refine QG ?_|refine QX (r:=by conv=>lhs;simp[-List.map_set,QV,h1]) (k:=?_))
  exact done_pure hwf (by simp [h1]) rfl
 by_cases h2:op=27
 ·repeat (first|refine QG ?_|refine QX (r:=by conv=>lhs;simp[-List.map_set,QV,h1,h2]) (k:=?_))
  exact done_pure hwf (by simp [h2]) rfl
 repeat refine QS ?_
 refine QR (r:=by conv=>lhs;simp[-List.map_set,QV,h1,h2]) (k:=?_)
 refine vcall_useH (c1) (by rfl) ?_
 refine QM (by conv=>lhs;simp[-List.map_set,QV]) ?_
 refine QN ?_
 repeat (first|refine QG ?_|refine QX (r:=by conv=>lhs;simp[-List.map_set,QV]) (k:=?_))
 exact done_pure hwf (by simp [h1,h2]) rfl
end Go.Vw

namespace Go.Vw
open Go.Proofs Go.RowKit
set_option maxRecDepth 10000
set_option maxHeartbeats 2000000
end Go.Vw
