import Derived.Test.YtenhhokhkkfgbaaGreatC41
import Derived.Test.YtenhhokhkkfgbaaGreatC42
import Derived.Test.YtenhhokhkkfgbaaGreatC28
/-
  Part of the proof (texts DAlive, BShp).
-/
set_option linter.unusedVariables false
set_option linter.unusedSimpArgs false
namespace Ss
def smallD:Fn:=⟨⟨[127,127],[127]⟩,[127,127,127],[⟨[0,1],[⟨258,0,[],[]⟩,⟨106,0,[0,1],[2]⟩],⟨4,0,[],[0]⟩⟩]⟩
def smallD':Fn:=⟨⟨[127,127],[127]⟩,[127,127,127],[⟨[0,1],[⟨258,0,[],[]⟩],⟨4,0,[],[0]⟩⟩]⟩
def envD:Env:=⟨[],0,[],[],false⟩
theorem smallD_defs:defsOf smallD=some [⟨true,0, -1⟩,⟨true,0, -1⟩,⟨true,0,1⟩]:=by decide
theorem smallD_succs:succs smallD.blocks=[[]]:=by decide
theorem smallD_rings:rings smallD.blocks [[]]=false:=by
 simp [rings,smallD,tickB,ringM,ringW,List.range_succ]
theorem smallD_shape:shapeOk smallD=true:=by
 have h1:Go.Vw.G.right [[]]=true:=by decide
 have h2:Go.Vw.G.ordI [[]]=[0]:=by decide
 have h3:Go.Vw.G.nats [[]]=[[]]:=rfl
 simp only [shapeOk,smallD_succs,h1,h2,h3,smallD_rings]
 decide
theorem smallD_check:check envD smallD=true:=by
 have h1:checkHead envD smallD=true:=by decide
 have hn:numSig 106=([127,127],127,true):=by decide
 have hf : ∀ n o,form envD 106 n o=⟨[127,127],[127],0,true⟩:=fun n o=>by
  have e0:form envD 106 n o=formNum envD 106:=by simp [form]
  rw [e0,formNum,hn]
 have hf2 : ∀ n o,form envD 258 n o=⟨[],[],0,true⟩:=fun n o=>by simp [form]
 simp only [check,h1,smallD_defs,smallD_shape,Bool.true_and]
 generalize Go.Vw.G.nearI (succs smallD.blocks)=near
 simp [smallD,checkBlocks,checkCode,insOk,hf,hf2,insOut,typesOf,asks,Go.Vw.eqF,termOk,termHead,termTail,branches,askOk]
theorem smallD_need:dNeed smallD=[true,true,false]:=by
 have hp:pure 106=true:=by decide
 have hp2:pure 258=false:=by decide
 have hr:roots smallD=[0,1,0]:=by simp [roots,rootsB,smallD,hp,hp2,branches]
 have ht:askTab smallD=[[],[],[0,1]]:=by simp [askTab,askBlock,askIns,smallD,hp,hp2]
 have hl:smallD.types.length=3:=rfl
 rw [dNeed,hr,ht,hl]
 simp [dfs,on,List.replicate]
theorem smallD_dce:dceF smallD=smallD':=by
 have hp:pure 106=true:=by decide
 have hp2:pure 258=false:=by decide
 rw [dceF,smallD_need]
 simp [smallD,smallD',dBlock,dKeep,hp,hp2,on]
theorem smallD_out:dceOut envD smallD=(smallD',0):=by rw [dceOut_t smallD_check,smallD_dce]
theorem smallD_fits:smallD.Fits:=by
 simp [smallD,Fn.Fits,Sig.Fits,Ints,Block.Fits,Ins.Fits,Term.Fits,I64]
theorem envD_fits:envD.Fits:=by
 simp [envD,Env.Fits,Ints,I64]
end Ss
namespace Go.Vw
open Go.Proofs Go.RowKit
set_option maxRecDepth 10000
set_option maxHeartbeats 8000000
theorem DNeeded_v (e:Ss.Env) (f:Ss.Fn) (he:e.Fits) (hf:f.Fits) (hc:Ss.check e f=true):VPure Tryz.prog 20 [zh e,qx f] (.tuple [vl V.bool (Ss.dNeed f),vint 0]):=by
 intro S
 have cck:=Check_v e f he hf
 have cne:=Needed_v e f hf hc
 generalize Ss.check e f=ck at *
 generalize Ss.dNeed f=need at *
 obtain ⟨⟨fi,fo⟩,ts,bs⟩:=f
 obtain ⟨sg,im,gl,mu,me⟩:=e
 have cck':VPure Tryz.prog 24 [.agg [vl jC sg,vint im,vl vint gl,vl V.bool mu, .bool me], .agg [vl vint fi,vl vint fo,vl vint ts,vl jc bs]] (.bool ck):=cck
 have cne':VPure Tryz.prog 25 [.agg [vl vint fi,vl vint fo,vl vint ts,vl jc bs]] (vl V.bool need):=cne
 refine jb (c:=jg Tryz.f20) Tryz.func20 rfl rfl (by simp [Tryz.ntmps20]) ?_
 rw [Tryz.ntmps20]
 intro hwf
 repeat refine QS ?_
 refine QP ?_
 refine QN ?_
 refine ji 2 rfl ((qS (k:=0) (by simp) (by rfl) (by rfl) (by simp))) (by conv=>lhs; simp [Fr.set]) ?_
 simp only [List.set_cons_succ,List.set_cons_zero]
 refine ji 3 rfl ((qS (k:=1) (by simp) (by rfl) (by rfl) (by simp))) (by conv=>lhs; simp [Fr.set]) ?_
 simp only [List.set_cons_succ,List.set_cons_zero]
 repeat refine QS ?_
 refine QP ?_
 refine jd (cck') (by rfl) ?_
 refine QM (by conv=>lhs;simp[-List.map_set,QV,hc]) ?_
 refine QN ?_
 repeat (first|refine QG ?_|refine QY ?_ (r:=by conv=>lhs;simp[-List.map_set,QV,hc]))
 repeat refine QS ?_
 refine QP ?_
 refine jd (cne') (by rfl) ?_
 refine QM (by conv=>lhs;simp[-List.map_set,QV]) ?_
 refine QN ?_
 repeat (first|refine QG ?_|refine QY ?_)
 exact ja (X := .tuple [vl V.bool need,vint 0]) hwf (by simp) rfl
theorem jaQ (S:Store):Ghost (.agg [.nils, .int .i64 0, .nils, .nils, .bool false]) S (zh Ss.envD) S:=by
 refine Ghost.agg_nl rfl fun i x y hx hy => ?_
 match i,hx,hy with
 | 0,hx,hy=>cases hx; cases hy; exact .inr ⟨rfl,rfl⟩
 | 1,hx,hy=>cases hx; cases hy; exact .inl rfl
 | 2,hx,hy=>cases hx; cases hy; exact .inr ⟨rfl,rfl⟩
 | 3,hx,hy=>cases hx; cases hy; exact .inr ⟨rfl,rfl⟩
 | 4,hx,hy=>cases hx; cases hy; exact .inl rfl
theorem small15_v:VPure Tryz.prog 37 [.int .i64 0, .list [.int .i64 127], .list [.agg [.int .i64 106, .int .u64 0, .list [.int .i64 0, .int .i64 1], .list [.int .i64 2]]]] (qx Ss.smallD):=by
 intro S
 have hcv : ∀ l,(vl jl l).closed1=true:=fun _=>rfl
 have hk1 : ∀ k n,(V.int k n).closed1=true:=fun _ _=>rfl
 have hk2 : ∀ l,(V.list l).closed1=true:=fun _=>rfl
 have hr2:rep0 [V.int .i64 0] 2=[.int .i64 0, .int .i64 0]:=rfl
 have hr1:rep0 [V.int .i64 0] 1=[.int .i64 0]:=rfl
 have hr4:rep0 [V.int .i64 0, .int .u64 0, .nils, .nils] 1=[.int .i64 0, .int .u64 0, .nils, .nils]:=rfl
 have hr6:rep0 [V.nils, .nils, .int .i64 0, .int .i64 0, .nils, .nils] 1=[.nils, .nils, .int .i64 0, .int .i64 0, .nils, .nils]:=rfl
 refine qe (c:=jg Tryz.f37) Tryz.func37 rfl (by conv=>lhs; reduce) (by simp [Tryz.ntmps37]) ?_
 rw [Tryz.ntmps37]
 intro hwf
 repeat refine QS ?_
 refine QP ?_
 refine QN ?_
 repeat refine QS ?_
 refine QP ?_ (r:=by conv=>lhs;simp[-List.map_set,QV,hr2,hr1,hr4,hr6,qU,qn])
 refine QN ?_
 apply jE
 ·exact Reach.nilCell (k:=3) (i:=2) (by simp) (by rfl) (by rfl)
 simp only [List.set_cons_succ,List.set_cons_zero]
 apply jE
 ·exact Reach.nilCell (k:=3) (i:=3) (by simp) (by rfl) (by rfl)
 simp only [List.set_cons_succ,List.set_cons_zero]
 apply jE
 ·exact Reach.frzCellS (enc:=jl) (s:=4) (fun _=>rfl) qh (k:=5) (j:=3) (i:=1) [⟨258,0,[],[]⟩,⟨106,0,[0,1],[2]⟩] (by decide) (by simp) (by simp) (by rfl) (by rfl) (by rfl)
 simp only [List.set_cons_succ,List.set_cons_zero]
 apply jE
 ·exact Reach.frzCell (k:=5) (j:=1) (i:=0) (by decide) (by simp) (by simp) (by rfl) (by rfl) (by rfl) (by rfl) (by rfl)
 simp only [List.set_cons_succ,List.set_cons_zero]
 apply jE
 ·exact Reach.nilCell (k:=5) (i:=4) (by simp) (by rfl) (by rfl)
 simp only [List.set_cons_succ,List.set_cons_zero]
 apply jE
 ·exact Reach.frzCell (k:=5) (j:=4) (i:=5) (by decide) (by simp) (by simp) (by rfl) (by rfl) (by rfl) (by rfl) (by rfl)
 simp only [List.set_cons_succ,List.set_cons_zero]
 repeat refine QS ?_
 refine vw_drawFrz (ZZ.mk _ (St S [] [none,none,none,none,none,some (6,[.list [.int .i64 0, .int .i64 1],vl jl [⟨258,0,[],[]⟩,⟨106,0,[0,1],[2]⟩], .int .i64 4, .int .i64 0, .list [], .list [.int .i64 0]])]) (St S [] [none,none,none,none,none,some (6,[.list [.int .i64 0, .int .i64 1],vl jl [⟨258,0,[],[]⟩,⟨106,0,[0,1],[2]⟩], .int .i64 4, .int .i64 0, .list [], .list [.int .i64 0]])]) []) [17,18,24] rfl (by kernel_rfl) (by conv=>lhs; reduce) (by conv=>lhs; reduce) (by conv=>lhs; reduce) (by kernel_rfl) (by kernel_rfl) (jq (by simp [subU,shpU,subL,shpL])) (Store.sub_refl _) (by conv=>lhs; simp [-List.map_set,QV,hr2,hr1,hr6,hk1,hk2]) ?_
 refine jf rfl (by conv=>lhs;simp[-List.map_set,QV,hr2]) (jq (by simp [subU,shpU,subL,shpL])) ?_
 refine QM (by conv=>lhs;simp[-List.map_set,QV]) ?_
 refine jf rfl (by conv=>lhs;simp[-List.map_set,QV,qU,qn]) (jq (by simp [subU,shpU,subL,shpL])) ?_
 refine QM (by conv=>lhs;simp[-List.map_set,QV,hr6,hk1,hk2,hcv]) ?_
 refine jf rfl (by conv=>lhs;simp[-List.map_set,QV]) (jq (by simp [subU,shpU,subL,shpL])) ?_
 refine QN ?_
 apply jE
 ·exact Reach.frzCell (k:=0) (j:=7) (i:=2) (by decide) (by simp) (by simp) (by rfl) (by rfl) (by rfl) (by rfl) (by rfl)
 simp only [List.set_cons_succ,List.set_cons_zero]
 repeat (first|refine QG ?_|refine QY ?_)
 exact YI (by simp; rfl) (ja hwf (by simp [Ss.smallD,vl]) rfl)
theorem code15_ghost {S:Store} {oc a b:Nat} (hc:S.get oc=some (4,[.int .i64 106, .int .u64 0, .slice a 0 2, .slice b 0 1])) (ha:S.get a=some (1,[.int .i64 0, .int .i64 1])) (hb:S.get b=some (1,[.int .i64 2])) (hd:[oc,a,b].Nodup) :
  Ghost (.slice oc 0 1) S (.list [.agg [.int .i64 106, .int .u64 0, .list [.int .i64 0, .int .i64 1], .list [.int .i64 2]]]) (S.dels [oc,a,b]):=by
 have hw:OwL S (reps 1 [.c, .c, .s (List.replicate 1 .c), .s (List.replicate 1 .c)]) [.int .i64 106, .int .u64 0, .slice a 0 2, .slice b 0 1] [.int .i64 106, .int .u64 0,vl vint [0,1],vl vint [2]] [a,b]:=by
  refine .c rfl (.c rfl (OwL.slice (enc:=vint) (fun _=>rfl) (fun _=>rfl) [0,1] (by rw [qq]; exact ha) ?_))
  exact OwL.slice (enc:=vint) (fun _=>rfl) (fun _=>rfl) [2] (by rw [qq]; exact hb) .nil
 have:=OwL.s (S:=S) (o:=oc) (tys:=[.c, .c, .s (List.replicate 1 .c), .s (List.replicate 1 .c)]) (ys:=[.agg [.int .i64 106, .int .u64 0, .list [.int .i64 0, .int .i64 1], .list [.int .i64 2]]]) (i:=[a,b]) (j:=[]) hc (fun y hy=>by
  simp only [List.mem_cons,List.not_mem_nil,or_false] at hy
  subst hy; exact ⟨rfl,rfl⟩) hw .nil
 exact ghost_single (this.freeze hd S fun _ _=>rfl)
theorem Alive15_v:VPure Tryz.prog 13 [] (.bool true):=by
 intro S
 have hr1:rep0 [V.int .i64 0] 1=[.int .i64 0]:=rfl
 have hr2:rep0 [V.int .i64 0] 2=[.int .i64 0, .int .i64 0]:=rfl
 have hr4:rep0 [V.int .i64 0, .int .u64 0, .nils, .nils] 1=[.int .i64 0, .int .u64 0, .nils, .nils]:=rfl
 have cs:=small15_v
 have cb:=DceP_v Ss.envD Ss.smallD Ss.envD_fits Ss.smallD_fits
 have cn:=DNeeded_v Ss.envD Ss.smallD Ss.envD_fits Ss.smallD_fits Ss.smallD_check
 rw [Ss.smallD_out] at cb
 rw [Ss.smallD_need] at cn
 have hF':qx Ss.smallD' = .agg [vl vint [127,127],vl vint [127],vl vint [127,127,127],vl jc [⟨[0,1],[⟨258,0,[],[]⟩],⟨4,0,[],[0]⟩⟩]]:=rfl
 obtain ⟨f1,f2,f3,f4,hF,o1,o2,o3,o4,c1,c2,c3,c4⟩ : ∃ f1 f2 f3 f4,qx Ss.smallD = .agg [f1,f2,f3,f4]∧f1.one=true∧f2.one=true∧f3.one=true∧f4.one=true∧f1.closed1=true∧f2.closed1=true∧f3.closed1=true∧f4.closed1=true:=⟨_,_,_,_,rfl,rfl,rfl,rfl,rfl,rfl,rfl,rfl,rfl⟩
 rw [hF] at cs cb cn
 rw [hF'] at cb
 refine jb (c:=jg Tryz.f13) Tryz.func13 rfl rfl (by simp [Tryz.ntmps13]) ?_
 rw [Tryz.ntmps13]
 intro hwf
 repeat refine QS ?_
 refine QP ?_
 refine QN ?_
 repeat refine QS ?_
 refine QP ?_ (r:=by conv=>lhs;simp[-List.map_set,QV,hr1,hr2,hr4])
 have hg1:GhostArgs [.int .i64 0, .slice (lid S.nx 0) 0 1, .slice (lid S.nx 3) 0 1] (St S [] [some (1,[.int .i64 127]),some (1,[.int .i64 0, .int .i64 1]),some (1,[.int .i64 2]),some (4,[.int .i64 106, .int .u64 0, .slice (lid S.nx 1) 0 2, .slice (lid S.nx 2) 0 1])]) [.int .i64 0, .list [.int .i64 127], .slice (lid S.nx 3) 0 1] (St S [] [none,some (1,[.int .i64 0, .int .i64 1]),some (1,[.int .i64 2]),some (4,[.int .i64 106, .int .u64 0, .slice (lid S.nx 1) 0 2, .slice (lid S.nx 2) 0 1])]):=GhostArgs.one [.int .i64 0] [_] (frz1 (k:=0) (len:=1) (by simp) rfl rfl rfl)
 have hg2 := @code15_ghost (St S [] [none,some (1,[.int .i64 0, .int .i64 1]),some (1,[.int .i64 2]),some (4,[.int .i64 106, .int .u64 0, .slice (lid S.nx 1) 0 2, .slice (lid S.nx 2) 0 1])]) (lid S.nx 3) (lid S.nx 1) (lid S.nx 2) (by rw [jv]; rfl) (by rw [jv]; rfl) (by rw [jv]; rfl) (by simp [lid])
 have hdl:(St S [] [none,some (1,[.int .i64 0, .int .i64 1]),some (1,[.int .i64 2]),some (4,[.int .i64 106, .int .u64 0, .slice (lid S.nx 1) 0 2, .slice (lid S.nx 2) 0 1])]).dels [lid S.nx 3,lid S.nx 1,lid S.nx 2]=St S [] [none,none,none,none]:=by
  simp [Store.dels,jba]
 rw [hdl] at hg2
 refine zk rfl (hg1.trans (GhostArgs.one [_,_] [] hg2)) cs ?_
 refine QM (by conv=>lhs;simp[-List.map_set,QV,o1,o2,o3,o4]) ?_
 refine QN ?_
 refine ji 1 rfl ((qS (k:=4) (by simp) (by rfl) (by simp [c1,c2,c3,c4]) (by simp))) (by conv=>lhs; simp [Fr.set]) ?_
 simp only [List.set_cons_succ,List.set_cons_zero]
 repeat refine QS ?_
 refine QP ?_ (r:=by conv=>lhs;simp[-List.map_set,QV,o1,o2,o3,o4])
 refine zk rfl (GhostArgs.one [] [_] (jaQ _)) cb ?_
 refine QM (by conv=>lhs;simp[-List.map_set,QV]) ?_
 refine QN ?_
 have hix0 : ∀ S,qy 1 S (vl V.bool [true,true,false]) (.int .i64 0)=some (.ref (.bool true)):=fun _=>rfl
 have hix2 : ∀ S,qy 1 S (vl V.bool [true,true,false]) (.int .i64 2)=some (.ref (.bool false)):=fun _=>rfl
 repeat refine QS ?_
 refine QP ?_ (r:=by conv=>lhs;simp[-List.map_set,QV,o1,o2,o3,o4])
 refine zk rfl (GhostArgs.one [] [_] (jaQ _)) cn ?_
 refine QM (by conv=>lhs;simp[-List.map_set,QV]) ?_
 refine QN ?_
 repeat (first|refine QG ?_|refine QY ?_ (r:=by conv=>lhs;simp[-List.map_set,QV,hix0,hix2]))
 exact ja (X := .bool true) hwf (by simp) rfl
end Go.Vw

namespace Go.Vw
open Go.Proofs Go.RowKit
def Own1 (T:Store) (ids:List Nat) (o n:Nat):Prop:=o∈ids∧n≤140737488355328 ∧ ∃ c,T.get o=some (1,c)∧c.length=n ∧ ∀ x∈c,x.closed1=true
theorem jbp {T:Store} {o n:Nat} {cells ys:List V} {ids i:List Nat} (hl:LimO T ids) (ho:T.get o=some (1,cells)) (d:OwL T (reps n [.c]) cells (ys.flatMap V.cells) i) (hn:ys.length=n) (hm:o∈ids):Own1 T ids o n:=by
 have hlen:cells.length=n:=by rw [d.len.1,qR]; simp
 have e:=zm (n:=n*1) (by rw [←KT]; exact d)
 refine ⟨hm, ?_,cells,ho,hlen,by rw [e.1]; exact d.closed⟩
 have:=hl o hm _ _ ho
 omega
theorem insD_inv2 {T:Store} {r x:List V} {ii ids:List Nat} (hl:LimO T ids) (hi : ∀ o∈ii,o∈ids) (h:OwL T insD r x ii) : ∃ (u v:V) (oa na ou nu:Nat),r=[u,v, .slice oa 0 na, .slice ou 0 nu]∧Own1 T ids oa na∧Own1 T ids ou nu:=by
 cases h with
 | c h1 h=>cases h with
  | c h2 h=>cases h with
   | s ho hs d h=>cases h with
    | s ho2 hs2 d2 h=>cases h with
     | nil=>exact ⟨_,_,_,_,_,_,rfl,jbp hl ho d rfl (hi _ (by simp)),jbp hl ho2 d2 rfl (hi _ (by simp))⟩
theorem edgeD_inv2 {T:Store} {r x:List V} {ii ids:List Nat} (hl:LimO T ids) (hi : ∀ o∈ii,o∈ids) (h:OwL T Km r x ii) : ∃ (u:V) (oa na:Nat),r=[u, .slice oa 0 na]∧u.closed1=true∧Own1 T ids oa na:=by
 cases h with
 | c h1 h=>cases h with
  | s ho hs d h=>cases h with
   | nil=>exact ⟨_,_,_,rfl,h1,jbp hl ho d rfl (hi _ (by simp))⟩
theorem blkD_inv2 {T:Store} {r x:List V} {ii ids:List Nat} (hl:LimO T ids) (hi : ∀ o∈ii,o∈ids) (h:OwL T blkD r x ii) : ∃ (op np oc nc oe ne:Nat) (u a z:V) (cc ce xi xe:List V) (ci ei:List Nat),r=[.slice op 0 np, .slice oc 0 nc,u,a, .slice oe 0 ne,z]∧Own1 T ids op np∧u.closed1=true∧oc∈ids∧T.get oc=some (4,cc)∧OwL T (reps nc insD) cc xi ci∧(∀ o∈ci,o∈ids) ∧
  oe∈ids∧T.get oe=some (2,ce)∧OwL T (reps ne Km) ce xe ei∧(∀ o∈ei,o∈ids):=by
 cases h with
 | s ho hs d h=>cases h with
  | s ho2 hs2 d2 h=>cases h with
   | c h1 h=>cases h with
    | c h2 h=>cases h with
     | s ho3 hs3 d3 h=>cases h with
      | c h3 h=>cases h with
       | nil=>exact ⟨_,_,_,_,_,_,_,_,_,_,_,_,_,_,_,rfl,jbp hl ho d rfl (hi _ (by simp)),h1,hi _ (by simp),ho2,d2,fun o ho=>hi _ (by simp [ho]),hi _ (by simp),ho3,d3,fun o ho=>hi _ (by simp [ho])⟩
theorem Shp.full {S T0 T1:Store} {ob n k:Nat} {ids:List Nat} (h:Shp S T0 ob n ids T1) (hk:k<n) : ∃ (cells:List V) (op np oc nc oe ne:Nat) (u:V) (cc ce:List V),T1.get ob=some (6,cells)∧cells[k*6]? = some (.slice op 0 np)∧cells[k*6+1]? = some (.slice oc 0 nc)∧cells[k*6+2]? = some u∧u.closed1=true∧cells[k*6+4]? = some (.slice oe 0 ne) ∧
  Own1 T1 ids op np∧oc∈ids∧T1.get oc=some (4,cc)∧oe∈ids∧T1.get oe=some (2,ce)∧nc≤140737488355328∧ne≤140737488355328∧(∀ j<nc, ∃ (oa na ou nu:Nat),cc[j*4+2]? = some (.slice oa 0 na)∧Own1 T1 ids oa na∧cc[j*4+3]? = some (.slice ou 0 nu)∧Own1 T1 ids ou nu) ∧
  ∀ q<ne, ∃ (u:V) (oa na:Nat),ce[q*2]? = some u∧u.closed1=true∧ce[q*2+1]? = some (.slice oa 0 na)∧Own1 T1 ids oa na:=by
 obtain ⟨cells,xs,h4,h5⟩:=h.own
 obtain ⟨c1,r,c2,x1,x,x2,i1,ii,i2,rfl,hl,rfl,rfl,k1,k2,k3⟩:=h5.elem hk
 obtain ⟨op,np,oc,nc,oe,ne,u,a,z,cc,ce,xi,xe,ci,ei,rfl,hop,hu,hoc,hcc,hci,hcs,hoe,hce,hei,hes⟩:=blkD_inv2 h.lim (fun o ho=>by simp [ho]) k2
 refine ⟨_,op,np,oc,nc,oe,ne,u,cc,ce,h4,by have:=zF (m:=6) (p:=0) (c2:=c2) hl (r:=[.slice op 0 np, .slice oc 0 nc,u,a, .slice oe 0 ne,z]) rfl; simpa using this,zF (m:=6) (p:=1) hl rfl,zF (m:=6) (p:=2) hl rfl,hu,zF (m:=6) (p:=4) hl rfl,hop,hoc,hcc,hoe,hce, ?_, ?_,fun j hj => ?_,fun q hq => ?_⟩
 ·have h8:=h.lim oc hoc _ _ hcc
  have h9:cc.length=nc*4:=by rw [hci.len.1,qR]; rfl
  omega
 ·have h8:=h.lim oe hoe _ _ hce
  have h9:ce.length=ne*2:=by rw [hei.len.1,qR]; rfl
  omega
 ·obtain ⟨d1,s,d2,y1,y,y2,j1,jj,j2,rfl,hl2,rfl,rfl,m1,m2,m3⟩:=hci.elem hj
  obtain ⟨u',v',oa,na,ou,nu,rfl,ha,hu2⟩:=insD_inv2 h.lim (fun o ho=>hcs o (by simp [ho])) m2
  exact ⟨oa,na,ou,nu,zF (m:=4) (p:=2) hl2 rfl,ha,zF (m:=4) (p:=3) hl2 rfl,hu2⟩
 ·obtain ⟨d1,s,d2,y1,y,y2,j1,jj,j2,rfl,hl2,rfl,rfl,m1,m2,m3⟩:=hei.elem hq
  obtain ⟨u',oa,na,rfl,hu',ha⟩:=edgeD_inv2 h.lim (fun o ho=>hes o (by simp [ho])) m2
  exact ⟨u',oa,na,by have:=zF (m:=2) (p:=0) (c2:=d2) hl2 (r:=[u', .slice oa 0 na]) rfl; simpa using this,hu',zF (m:=2) (p:=1) hl2 rfl,ha⟩
def Shq (S T0:Store) (ob n:Nat) (ids:List Nat) (ot:Nat) (T1:Store):Prop:=Shp S T0 ob n ids T1∧T1.get ot=T0.get ot
theorem Shq.write {S T0 T1:Store} {ob n o s q ot:Nat} {ids:List Nat} {cs:List V} {u v:V} (h:Shq S T0 ob n ids ot T1) (hnd:(ot::ob::ids).Nodup) (hid : ∀ o∈ob::ids,S.nx≤o∧o<T0.nx) (ho:o∈ob::ids) (hg:T1.get o=some (s,cs)) (hq:cs[q]? = some u) (hu:u.closed1=true) (hv:v.closed1=true) :
  Shq S T0 ob n ids ot (T1.upd o (s,cs.set q v)):=by
 have hn:=List.nodup_cons.1 hnd
 exact ⟨h.1.write hn.2 hid ho hg hq hu hv,by rw [jI (fun e=>hn.1 (by rw [e]; exact ho))]; exact h.2⟩
structure Tyq (S T0:Store) (ot n:Nat) (T1:Store):Prop where
 nx:T1.nx=T0.nx
 wf:T1.Wf
 old : ∀ o,o<S.nx→T1.get o=S.get o
 own : ∃ c,T1.get ot=some (1,c)∧c.length=n
theorem Tyq.write {S T0 T1:Store} {ot n q:Nat} {c:List V} {v:V} (h:Tyq S T0 ot n T1) (h1:S.nx≤ot) (h2:ot<T0.nx) (hg:T1.get ot=some (1,c)) (hv:v.closed1=true):Tyq S T0 ot n (T1.upd ot (1,c.set q v)):=by
 obtain ⟨k1,k2,k3,c',k4,k5⟩:=h
 rw [hg] at k4
 cases k4
 have hcw:V.idsL (fun o=>decide (o<T1.nx)) (c.set q v)=true:=by
  have:=k2.ids ot _ hg
  simp only [qM,List.all_eq_true] at this ⊢
  intro x hx
  rcases List.mem_or_eq_of_mem_set hx with hx | rfl
  ·exact this x hx
  ·exact Wn hv _
 exact ⟨k1,Zf k2 (by omega) hcw,fun o' ho'=>by rw [jI (by omega)]; exact k3 o' ho',_,zp,by rw [List.length_set]; exact k5⟩
end Go.Vw
