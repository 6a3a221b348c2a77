import Derived.Test.YtenhhokhkkfgbaaGreatC14
import Derived.Test.YtenhhokhkkfgbaaGreatC12
import Derived.Test.YtenhhokhkkfgbaaGreatC15
import Derived.Test.YtenhhokhkkfgbaaGreatC18
import Derived.Test.YtenhhokhkkfgbaaGreatC23
/-
  Part of the proof (texts SCopy).
-/
set_option linter.unusedVariables false
set_option linter.unusedSimpArgs false
namespace Ss
def putv (to:List Int) (v:Int):Int:=if 0≤v∧v<to.length then to.getD v.toNat 0 else v
def repIns (to:List Int) (x:Ins):Ins:=⟨x.op,x.n,x.args.map (putv to),x.outs⟩
def repEdge (to:List Int) (x:Edge):Edge:=⟨x.to,x.args.map (putv to)⟩
def repTerm (to:List Int) (t:Term):Term:=⟨t.kind,if t.kind=2∨t.kind=3 then putv to t.arg else t.arg,t.to.map (repEdge to),t.args.map (putv to)⟩
def repBlock (to:List Int) (b:Block):Block:=⟨b.params,b.code.map (repIns to),repTerm to b.term⟩
def replace (f:Fn) (to:List Int):Fn:=⟨f.sig,f.types,f.blocks.map (repBlock to)⟩
theorem putv_nil:putv []=fun v=>v:=by funext v; simp [putv]; omega
theorem repIns_nil (x:Ins):repIns [] x=x:=by simp [repIns,putv_nil]
theorem repEdge_nil (x:Edge):repEdge [] x=x:=by simp [repEdge,putv_nil]
theorem repTerm_nil (t:Term):repTerm [] t=t:=by
 have:repEdge []=id:=by funext x; exact repEdge_nil x
 simp [repTerm,putv_nil,this]
theorem repBlock_nil (b:Block):repBlock [] b=b:=by
 have:repIns []=id:=by funext x; exact repIns_nil x
 simp [repBlock,repTerm_nil,this]
theorem replace_nil (f:Fn):replace f []=f:=by
 have:repBlock []=id:=by funext x; exact repBlock_nil x
 simp [replace,this]
end Ss
namespace Go.Vw
open Go.Proofs Go.RowKit
set_option maxRecDepth 10000
set_option maxHeartbeats 1000000
theorem put_v (v:Int) (to:List Int) (ht:to.length<2^63):VPure Tryz.prog 88 [vint v,vl vint to] (vint (Ss.putv to v)):=by
 intro S
 refine jb (c:=jg Tryz.f88) Tryz.func88 rfl rfl (by simp [Tryz.ntmps88]) ?_
 rw [Tryz.ntmps88]
 intro hwf
 by_cases h1:0≤v
 ·obtain ⟨n,rfl⟩ : ∃ n:Nat,v=n:=⟨v.toNat,by omega⟩
  by_cases h2:n<to.length
  ·repeat (first|refine QG ?_|refine QY ?_ (r:=by conv=>lhs;simp[-List.map_set,QV,h2]))
   exact ja hwf (by simp [Ss.putv,h2]) rfl
  ·repeat (first|refine QG ?_|refine QY ?_ (r:=by conv=>lhs;simp[-List.map_set,QV,h2]))
   exact ja hwf (by simp [Ss.putv,h2]) rfl
 ·repeat (first|refine QG ?_|refine QY ?_ (r:=by conv=>lhs;simp[-List.map_set,QV,h1]))
  exact ja hwf (by simp [Ss.putv,h1]) rfl
theorem swapO_v (S:Store) (l to:List Int) (hl:l.length≤1048576) (ht:to.length<2^63):VCalls Tryz.prog 87 [vl vint l,vl vint to] S (fun r T=>r = .slice (lid S.nx 0) 0 l.length∧T=St S [] [some (1,(l.map (Ss.putv to)).map vint)]):=by
 have cp:=fun v=>put_v v to ht
 generalize Ss.putv to=g at *
 refine jb (c:=jg Tryz.f87) Tryz.func87 rfl rfl (by simp [Tryz.ntmps87]) ?_
 rw [Tryz.ntmps87]
 intro hwf
 repeat (first|refine QG ?_|refine QY ?_)
 refine zA 5 1 rfl (by conv=>lhs; simp [Fr.set]) ?_
 repeat refine QS ?_
 refine je [0,1,5,6] rfl (fun c σ S' => ∃ (k:Nat) (out:List Int),k≤l.length∧c=l.length-k∧out=(l.take k).map g∧out.length=k∧σ=[(0,vl vint l),(1,vl vint to),(5, .slice (lid S.nx 0) 0 k),(6,vnat k)]∧S'=St S [] [some (1,out.map vint)]) l.length ?_ ?_
 ·exact ⟨0,[],by omega,rfl,by simp,rfl,by simp [Fr.only],by simp⟩
 ·rintro c σ T ⟨k,out,hk,rfl,ho,hlen,rfl,rfl⟩
  by_cases hkt:k<l.length
  ·have hw:=jm hkt (by omega)
   have cpk:=cp l[k]
   have htk:(l.take (k+1)).map g=(l.take k).map g++[g l[k]]:=by rw [List.take_add_one,List.getElem?_eq_getElem hkt,List.map_append]; rfl
   generalize g l[k]=gv at *
   have hb:(k+1)*8≤140737488355328:=by omega
   have hb':k+1≤140737488355328:=by omega
   repeat (first|refine QG ?_|refine QY ?_ (r:=by conv=>lhs;simp[-List.map_set,QV,hkt]))
   repeat refine QS ?_
   refine QP ?_ (r:=by conv=>lhs;simp[-List.map_set,QV,hkt])
   refine jd (cpk) (by rfl) ?_
   refine QM (by conv=>lhs;simp[-List.map_set,QV,hb,hb',hlen]) ?_
   refine QN ?_
   repeat (first|refine QG ?_|refine QY ?_ (r:=by conv=>lhs;simp[-List.map_set,QV,hb,hb',hlen]))
   refine QA [2] (h:=⟨?_,k+1,out++[gv],hkt,rfl,by rw [htk,ho],by simp [hlen],by simp [hw],by simp⟩)
   omega
  ·have hke:k=l.length:=by omega
   subst hke
   rw [List.take_length] at ho
   repeat (first|refine QG ?_|refine QY ?_ (r:=by conv=>lhs;simp[-List.map_set,QV,hkt]))
   rw [←ho]
   exact qE ⟨by simp,rfl⟩
theorem swap_v (l to:List Int) (hl:l.length≤1048576) (ht:to.length<2^63):VPure Tryz.prog 87 [vl vint l,vl vint to] (vl vint (l.map (Ss.putv to))):=by
 intro S
 refine zZ fun hwf=>qQ ((swapO_v S l to hl ht).mono ?_)
 rintro r T ⟨rfl,rfl⟩
 exact jn hwf ((frz1 (k:=0) (by simp) (by rfl) (jJ vint (fun _=>rfl) _) (by simp)).toB _) rfl
theorem swapNO_v (S:Store) (l:List Int) (hl:l.length≤1048576):VCalls Tryz.prog 87 [vl vint l, .nils] S (fun r T=>r = .slice (lid S.nx 0) 0 l.length∧T=St S [] [some (1,l.map vint)]):=by
 have h:=swapO_v S l [] hl (by simp)
 rw [Ss.putv_nil,List.map_id'] at h
 exact jV (GhostArgs.one [vl vint l] [] (Ghost.nils_list S)) h
theorem Ks (l:List Int) (hl:l.length≤1048576):VPure Tryz.prog 87 [vl vint l, .nils] (vl vint l):=by
 intro S
 have h:=swap_v l [] hl (by simp) S
 rw [Ss.putv_nil,List.map_id'] at h
 exact jV (GhostArgs.one [vl vint l] [] (Ghost.nils_list S)) h
abbrev blkT:List Ty:=[.c, .s (List.replicate 4 .c), .c, .c, .c, .c]
abbrev fnT:List Ty:=[.c, .c, .c, .s blkT]
def jbM (S:Store) (g:Ss.Fn) (r:V) (T:Store):Prop:=Agree S T∧T.Wf ∧ ∃ (ot ob:Nat) (cells:List V) (ids:List Nat),r = .agg [vl vint g.sig.inn,vl vint g.sig.out, .slice ot 0 g.types.length, .slice ob 0 g.blocks.length]∧T.get ot=some (1,g.types.map vint)∧T.get ob=some (6,cells)∧OwL T (reps g.blocks.length blkT) cells (jo jc g.blocks) ids∧(ot::ob::ids).Nodup ∧ ∀ o∈ot::ob::ids,S.nx≤o∧o<T.nx
def Copied (S:Store) (g:Ss.Fn) (r:V) (T:Store):Prop:=Agree S T∧T.Wf ∧ ∃ (ob:Nat) (cells:List V) (ids:List Nat),r = .agg [vl vint g.sig.inn,vl vint g.sig.out,vl vint g.types, .slice ob 0 g.blocks.length]∧T.get ob=some (6,cells)∧OwL T (reps g.blocks.length blkT) cells (jo jc g.blocks) ids∧(ob::ids).Nodup ∧ ∀ o∈ob::ids,S.nx≤o∧o<T.nx
theorem jy (f:Nat→Nat) (l:List Ss.Ins):V.renL f (jo jl l)=jo jl l:=JQ qh f l
theorem ju (p:Nat→Bool) (l:List Ss.Ins):V.idsL p (jo jl l)=true:=JR qh p l
theorem qP (f:Nat→Nat) (l:List Ss.Edge):V.renL f (jo jh l)=jo jh l:=JQ qX f l
theorem qH (p:Nat→Bool) (l:List Ss.Edge):V.idsL p (jo jh l)=true:=JR qX p l
theorem Agree.St {S B:Store} {l:List (Option (Nat × List V))} (h:Agree S B):Agree S (St B [] l):=by
 refine ⟨by rw [jx,lid]; have:=h.1; omega,fun o ho => ?_⟩
 rw [jk (Nat.lt_of_lt_of_le ho h.1)]
 exact h.2 o ho
theorem RReplace_v (S:Store) (f:Ss.Fn) (to:List Int) (hf:f.Fits) (hs:f.small=true) (hto:to.length<2^63):VCalls Tryz.prog 55 [qx f,vl vint to] S (jbM S (Ss.replace f to)):=by
 have csm:=KO f hf
 rw [hs] at csm
 obtain ⟨hh,hbk,hcnt⟩:=(Ss.small_iff f).1 hs
 simp only [Ss.Fn.heads,Bool.and_eq_true,decide_eq_true_eq] at hh
 obtain ⟨sm,hsm⟩ : ∃ sm,sm=true:=⟨_,rfl⟩
 rw [←hsm] at csm
 have cfi:=Ks f.sig.inn (by omega)
 have cfo:=Ks f.sig.out (by omega)
 have cft:=fun S=>swapNO_v S f.types (by omega)
 have csw:=fun l hl=>swap_v l to hl hto
 have cpu:=fun v=>put_v v to hto
 have hX:Ss.replace f to=⟨f.sig,f.types,f.blocks.map (Ss.repBlock to)⟩:=rfl
 rw [hX]
 clear hX
 have hbF:=hf.2.2.2
 obtain ⟨⟨fi,fo⟩,ts,bs⟩:=f
 simp only at hh hbk hbF hcnt cfi cfo cft ⊢
 have csm':VPure Tryz.prog 33 [.agg [vl vint fi,vl vint fo,vl vint ts,vl jc bs]] (.bool sm):=csm
 refine qe (c:=jg Tryz.f55) Tryz.func55 rfl (by conv=>lhs; reduce) (by simp [Tryz.ntmps55]) ?_
 rw [Tryz.ntmps55]
 intro hwf
 repeat (first|refine QG ?_|refine QY ?_)
 refine ji 2 rfl ((qS (k:=0) (by simp) (by rfl) (by rfl) (by simp))) (by conv=>lhs; simp [Fr.set]) ?_
 simp only [List.set_cons_succ,List.set_cons_zero]
 repeat refine QS ?_
 refine QP ?_
 refine jd (csm') (by rfl) ?_
 refine QM (by conv=>lhs;simp[-List.map_set,QV,hsm]) ?_
 refine QN ?_
 repeat (first|refine QG ?_|refine QY ?_ (r:=by conv=>lhs;simp[-List.map_set,QV,hsm]))
 refine js [1,2,4] (by conv=>lhs; simp [Fr.only,Fr.look]) ?_
 refine zL [1] hwf (by decide) (by simp [-List.map_set]) (by conv=>lhs; simp [-List.map_set]) (by conv=>lhs; simp [-List.map_set]) (by conv=>lhs; simp [-List.map_set]) ?_
 have cft':=cft (St S [] [some (4,[.nils, .nils, .nils, .nils])])
 have cft2:=cft (St S [] [some (4,[.nils, .nils, .nils, .nils]),some (4,[.nils, .nils, .nils, .nils])])
 rw [jx,qd, ←Jd] at cft' cft2
 simp only [List.cons_append,List.nil_append,List.length_cons,List.length_nil,Nat.zero_add,Nat.add_zero] at cft' cft2
 repeat refine QS ?_
 refine Jf (St S [] []) (St S [] []) [10028] 11 11 13 [11,12,13,14] [13,11,12,14] rfl (by kernel_rfl) (by conv=>lhs; reduce) (by kernel_rfl) (by decide) (by kernel_rfl) (by kernel_rfl) (by kernel_rfl) (by kernel_rfl) (by kernel_rfl) (by kernel_rfl) (by kernel_rfl) rfl rfl (by kernel_rfl) (jq (by simp [subU,shpU,subL,shpL])) (by conv=>lhs; reduce) (by conv=>lhs; reduce) (by conv=>lhs; reduce) ?_
 refine QM (by conv=>lhs;simp[-List.map_set,QV]) ?_
 refine jd (cfi) (by rfl) ?_
 refine QM (by conv=>lhs;simp[-List.map_set,QV]) ?_
 refine jd (cfo) (by rfl) ?_
 refine QM (by conv=>lhs;simp[-List.map_set,QV]) ?_
 refine QN ?_
 refine ⟨?sm, ?Sm, ?H3, ?H1, ?H2⟩
 case H1 =>
  refine JC rfl (cft') (by rfl) (JM (zr _ _ (by simp [subU])) (by simp [subL])) (jq (by simp [subU,shpU,subL,shpL])) ?_
  refine QM (by conv=>lhs;simp[-List.map_set,QV]) ?_
  refine jf rfl (by conv=>lhs;simp[-List.map_set,QV]) (jq (by simp [subU,shpU,subL,shpL])) ?_
  refine QM (by conv=>lhs;simp[-List.map_set,QV]) ?_
  refine jf rfl (by conv=>lhs;simp[-List.map_set,QV]) (jq (by simp [subU,shpU,subL,shpL])) ?_
  refine QM (by conv=>lhs;simp[-List.map_set,QV]) ?_
  refine QN ?_
  refine zl [1,2,4,5] (Eq.trans (b := ?_) ?_ rfl)
  rotate_left
  conv=>lhs; simp [Fr.only,Fr.look]
 case H2 =>
  refine jf rfl (by conv=>lhs;simp[-List.map_set,QV]) (jq (by simp [subU,shpU,subL,shpL])) ?_
  refine QM (by conv=>lhs;simp[-List.map_set,QV]) ?_
  refine JC rfl (cft2) (by rfl) (JM (zr _ _ (by simp [subU])) (by simp [subL])) (jq (by simp [subU,shpU,subL,shpL])) ?_
  refine QM (by conv=>lhs;simp[-List.map_set,QV]) ?_
  refine jf rfl (by conv=>lhs;simp[-List.map_set,QV]) (jq (by simp [subU,shpU,subL,shpL])) ?_
  refine QM (by conv=>lhs;simp[-List.map_set,QV]) ?_
  refine QN ?_
  exact zz [1,2,4,5] [0,2,1] (by conv=>lhs; simp [Fr.only,Fr.look]) hwf (by decide) (by simp [-List.map_set]) (by conv=>lhs; simp [-List.map_set]) (by conv=>lhs; simp [-List.map_set]) (by conv=>lhs; simp [-List.map_set])
 repeat (first|refine QG ?_|refine QY ?_)
 apply jE
 ·exact Reach.voidCell 6 (k:=2) (i:=3) (by simp) (by rfl) (by rfl)
 simp only [List.cons_append,List.nil_append,List.length_cons,List.length_nil,List.set_cons_succ,List.set_cons_zero]
 refine js [1,2,4,5,6] (by conv=>lhs; simp [Fr.only,Fr.look]) ?_
 refine zL [1,0,2,3] hwf (by decide) (by simp [-List.map_set]) (by conv=>lhs; simp [-List.map_set]) (by conv=>lhs; simp [-List.map_set]) (by conv=>lhs; simp [-List.map_set]) ?_
 obtain ⟨ot,hot⟩ : ∃ ot,ot=lid S.nx 0:=⟨_,rfl⟩
 rw [←hot]
 repeat refine QS ?_
 refine je [1,2,4,5,6] rfl (fun c σ S' => ∃ (B:Store) (k:Nat) (out:List Ss.Block) (cells:List V) (ids:List Nat),Agree S B∧B.Wf∧(B.get ot=some (1,ts.map vint)∧S.nx≤ot∧ot<B.nx∧ot∉ids)∧k≤bs.length∧c=bs.length-k∧out=(bs.take k).map (Ss.repBlock to)∧out.length=k∧OwL B (reps k blkT) cells (jo jc out) ids∧ids.Nodup∧(∀ o∈ids,S.nx≤o∧o<B.nx)∧σ=[(1,vl vint to),(2, .ref (.agg [vl vint fi,vl vint fo,vl vint ts,vl jc bs])),(4, .ptr (lid B.nx 0) 0),(5, .ptr (lid B.nx 1) 0),(6,vnat k)]∧S'=St B [] [some (4,[.nils, .nils, .nils, .nils]),some (4,[vl vint fi,vl vint fo, .slice ot 0 ts.length, .slice (lid B.nx 2) 0 k]),some (6,cells)]) bs.length ?_ ?_
 ·have hotg:(St S [] [some (1,ts.map vint)]).get ot=some (1,ts.map vint):=by rw [hot,jv]; rfl
  refine ⟨St S [] [some (1,ts.map vint)],0,[],[],[],Jj,Yi hwf (by simp),⟨hotg,by rw [hot,lid]; omega,by rw [hot,jx]; simp [lid],by simp⟩,by omega,rfl,by simp,rfl, .nil,by simp,by simp,by simp [Fr.only,jx,qd], ?_⟩
  refine (YV).trans ?_
  simp [jx,qd]
 ·rintro c σ T ⟨B,k,out,cells,ids,hag,hwfB,⟨hotg,hots,hotB,hotn⟩,hk,rfl,ho,hol,how,hnd,hids,rfl,rfl⟩
  have hwfS:=hwf
  clear hwf
  have hwf:=hwfB
  refine qY hag.1 ?_
  have hci:=fun ks=>(how.old (fun o ho=>(hids o ho).2) ks).1
  have gtP:=fun ks=>qf (n:=B.nx) ks hotB
  have gtT:=fun ks=>jS (n:=B.nx) ks hotB
  have hcr:=fun ks=>(how.old (fun o ho=>(hids o ho).2) ks).2
  by_cases hkt:k<bs.length
  case neg =>
   have hke:k=bs.length:=by omega
   subst hke
   rw [List.take_length] at ho
   repeat (first|refine QG ?_|refine QY ?_ (r:=by conv=>lhs;simp[-List.map_set,QV,hkt]))
   refine YI (xs:=[.agg [vl vint fi,vl vint fo, .slice ot 0 ts.length, .slice (lid B.nx 2) 0 bs.length]]) (by simp) ?_
   rw [jaA]
   have hlb:(bs.map (Ss.repBlock to)).length=bs.length:=List.length_map _
   have hcw:V.idsL (fun o=>decide (o<lid B.nx 3)) cells=true:=how.ids_lt fun o ho=>decide_eq_true (Nat.lt_of_lt_of_le (hids o ho).2 (by rw [lid]; omega))
   have hotw:ot<lid B.nx 3:=Nat.lt_of_lt_of_le hotB (by rw [lid]; omega)
   refine qE ⟨hag.St,Yi hwf (by simp [hcw,lid_lt,hotw]),ot,lid B.nx 2,cells,ids,by rw [hlb],by rw [jk hotB]; exact hotg,by rw [jv]; rfl, ?_, ?_, ?_⟩
   ·rw [hlb, ←ho]
    exact how.mono fun o ho=>by rw [jk (hids o ho).2]; rfl
   ·refine List.nodup_cons.2 ⟨fun hm => ?_,List.nodup_cons.2 ⟨fun hm => ?_,hnd⟩⟩
    ·rcases List.mem_cons.1 hm with e | hm
     ·rw [e,lid] at hotB; omega
     ·exact hotn hm
    ·have:=(hids _ hm).2
     simp only [lid] at this; omega
   ·intro o ho
    have hle:=hag.1
    rw [jx]
    rcases List.mem_cons.1 ho with rfl | ho
    ·simp only [lid,List.length_cons,List.length_nil]; omega
    rcases List.mem_cons.1 ho with rfl | ho
    ·simp only [lid,List.length_cons,List.length_nil]; omega
    ·have:=hids o ho
     simp only [lid,List.length_cons,List.length_nil]; omega
  have hw:=jm hkt (by omega)
  have hbF':=hbF _ (List.getElem_mem hkt)
  have hbk':=hbk _ (List.getElem_mem hkt)
  have htk:(bs.take (k+1)).map (Ss.repBlock to)=(bs.take k).map (Ss.repBlock to)++[Ss.repBlock to bs[k]]:=by rw [List.take_add_one,List.getElem?_eq_getElem hkt,List.map_append]; rfl
  obtain ⟨⟨ps,code,⟨tk,ta,tt,az⟩⟩,hx⟩ : ∃ b,bs[k]=b:=⟨_,rfl⟩
  rw [hx] at hbF' hbk' htk
  simp only [Ss.Block.small,Bool.and_eq_true,List.all_eq_true,Ss.Ins.small,Ss.Edge.small,decide_eq_true_eq] at hbk'
  obtain ⟨⟨⟨⟨hps,htt⟩,haz⟩,hcode⟩,hto2⟩:=hbk'
  have hcl:=hcnt
  have hcb:code.length≤4096:=by
   have:=Ju (List.getElem_mem hkt)
   rw [hx] at this
   simp only at this
   omega
  have cps:=Ks ps (by omega)
  repeat (first|refine QG ?_|refine QY ?_ (r:=by conv=>lhs;simp[-List.map_set,QV,hkt,hx]))
  refine ji 7 rfl ((qS (k:=3) (by simp) (by rfl) (by rfl) (by simp))) (by conv=>lhs; simp [Fr.set]) ?_
  simp only [List.set_cons_succ,List.set_cons_zero]
  repeat refine QS ?_
  refine QP ?_
  refine jd (cps) (by rfl) ?_
  refine QM (by conv=>lhs;simp[-List.map_set,QV]) ?_
  refine QN ?_
  repeat (first|refine QG ?_|refine QY ?_)
  apply jE
  ·exact Reach.voidCell 4 (k:=4) (i:=1) (by simp) (by rfl) (by rfl)
  simp only [List.cons_append,List.nil_append,List.length_cons,List.length_nil,List.set_cons_succ,List.set_cons_zero]
  refine js [1,2,4,5,6,7,8,9] (by conv=>lhs; simp [Fr.only,Fr.look]) ?_
  refine zL [0,1,2,4,5] hwf (by decide) (by simp [-List.map_set,gtP,gtT,hci,hcr]) (by conv=>lhs; simp [-List.map_set,gtP,gtT,hci,hcr]) (by conv=>lhs; simp [-List.map_set,gtP,gtT,hci,hcr]) (by conv=>lhs; simp [-List.map_set,gtP,gtT,hci,hcr]) ?_
  repeat refine QS ?_
  refine je [1,2,4,5,6,7,8,9] rfl (fun c σ S' => ∃ (j:Nat) (co:List Ss.Ins),j≤code.length∧c=code.length-j∧co=(code.take j).map (Ss.repIns to)∧co.length=j∧σ=[(1,vl vint to),(2, .ref (.agg [vl vint fi,vl vint fo,vl vint ts,vl jc bs])),(4, .ptr (lid B.nx 0) 0),(5, .ptr (lid B.nx 1) 0),(6,vnat k),(7, .ref (.agg [vl vint ps,vl jl code, .int .i64 tk, .int .i64 ta,vl jh tt,vl vint az])),(8, .ptr (lid B.nx 3) 0),(9,vnat j)]∧S'=St B [] [some (4,[.nils, .nils, .nils, .nils]),some (4,[vl vint fi,vl vint fo, .slice ot 0 ts.length, .slice (lid B.nx 2) 0 k]),some (6,cells),some (6,[vl vint ps, .slice (lid B.nx 4) 0 j, .int .i64 0, .int .i64 0, .nils, .nils]),some (4,jo jl co)]) code.length ?_ ?_
  ·exact ⟨0,[],by omega,rfl,by simp,rfl,by simp [Fr.only],by simp [jo]⟩
  ·rintro c σ T ⟨j,co,hj,rfl,hco,hcol,rfl,rfl⟩
   by_cases hjt:j<code.length
   case neg =>
    have hje:j=code.length:=by omega
    subst hje
    rw [List.take_length] at hco
    have cza:=csw az (by omega)
    have cta:=cpu ta
    generalize hgz:az.map (Ss.putv to)=gz at *
    generalize hgt:Ss.putv to ta=gt at *
    repeat (first|refine QG ?_|refine QY ?_ (r:=by conv=>lhs;simp[-List.map_set,QV,hjt]))
    refine ji 11 rfl ((qS (k:=5) (by simp) (by rfl) (by rfl) (by simp))) (by conv=>lhs; simp [Fr.set]) ?_
    simp only [List.set_cons_succ,List.set_cons_zero]
    repeat refine QS ?_
    refine jK (St B [] []) (St B [] [none,none,none,some (6,[])]) [] rfl (by kernel_rfl) (by conv=>lhs; reduce) (by conv=>lhs; reduce) (by kernel_rfl) (by kernel_rfl) (jq (by simp [subU,shpU,subL,shpL])) (by conv=>lhs; simp [-List.map_set,QV]) ?_
    refine jd (cza) (by rfl) ?_
    refine QM (by conv=>lhs;simp[-List.map_set,QV]) ?_
    refine jf rfl (by conv=>lhs;simp[-List.map_set,QV]) (jq (by simp [subU,shpU,subL,shpL])) ?_
    refine QM (by conv=>lhs;simp[-List.map_set,QV]) ?_
    refine QN ?_
    refine js [1,2,4,5,6,8,11] (by conv=>lhs; simp [Fr.only,Fr.look]) ?_
    refine zL [0,1,2,3,4] hwf (by decide) (by simp [-List.map_set,gtP,gtT,hci,hcr,jy,ju]) (by conv=>lhs; simp [-List.map_set,gtP,gtT,hci,hcr,jy,ju]) (by conv=>lhs; simp [-List.map_set,gtP,gtT,hci,hcr,jy,ju]) (by conv=>lhs; simp [-List.map_set,gtP,gtT,hci,hcr,jy,ju]) ?_
    refine Je rfl ?_
    refine KY (fun σ S'=>σ=[(1,vl vint to),(2, .ref (.agg [vl vint fi,vl vint fo,vl vint ts,vl jc bs])),(4, .ptr (lid B.nx 0) 0),(5, .ptr (lid B.nx 1) 0),(6,vnat k),(8, .ptr (lid B.nx 3) 0),(11, .ref (.agg [.int .i64 tk, .int .i64 ta,vl jh tt,vl vint az]))]∧S'=St B [] [some (4,[.nils, .nils, .nils, .nils]),some (4,[vl vint fi,vl vint fo, .slice ot 0 ts.length, .slice (lid B.nx 2) 0 k]),some (6,cells),some (6,[vl vint ps, .slice (lid B.nx 4) 0 code.length, .int .i64 tk, .int .i64 (if tk=2∨tk=3 then gt else ta), .nils,vl vint gz]),some (4,jo jl co)]) [1,2,4,5,6,8,11] ?_ ?_
    ·by_cases h2:tk=2
     ·repeat (first|refine QG ?_|refine QY ?_ (r:=by conv=>lhs;simp[-List.map_set,QV,h2]))
      repeat refine QS ?_
      refine QP ?_
      refine jd (cta) (by rfl) ?_
      refine QM (by conv=>lhs;simp[-List.map_set,QV]) ?_
      refine QN ?_
      repeat (first|refine QG ?_|refine QY ?_)
      exact ⟨by simp [Fr.only,h2],by simp [h2]⟩
     by_cases h3:tk=3
     ·repeat (first|refine QG ?_|refine QY ?_ (r:=by conv=>lhs;simp[-List.map_set,QV,h2,h3]))
      repeat refine QS ?_
      refine QP ?_
      refine jd (cta) (by rfl) ?_
      refine QM (by conv=>lhs;simp[-List.map_set,QV]) ?_
      refine QN ?_
      repeat (first|refine QG ?_|refine QY ?_)
      exact ⟨by simp [Fr.only,h3],by simp [h3]⟩
     ·repeat (first|refine QG ?_|refine QY ?_ (r:=by conv=>lhs;simp[-List.map_set,QV,h2,h3]))
      exact ⟨by simp [Fr.only],by simp [h2,h3]⟩
    rintro σ S' ⟨rfl,rfl⟩
    generalize hgg:(if tk=2∨tk=3 then gt else ta)=gg
    repeat (first|refine QG ?_|refine QY ?_)
    apply jE
    ·exact Reach.voidCell 2 (k:=3) (i:=4) (by simp) (by rfl) (by rfl)
    simp only [List.cons_append,List.nil_append,List.length_cons,List.length_nil,List.set_cons_succ,List.set_cons_zero]
    repeat refine QS ?_
    refine je [1,2,4,5,6,8,11,12] rfl (fun c σ S' => ∃ (j:Nat) (eo:List Ss.Edge),j≤tt.length∧c=tt.length-j∧eo=(tt.take j).map (Ss.repEdge to)∧eo.length=j∧σ=[(1,vl vint to),(2, .ref (.agg [vl vint fi,vl vint fo,vl vint ts,vl jc bs])),(4, .ptr (lid B.nx 0) 0),(5, .ptr (lid B.nx 1) 0),(6,vnat k),(8, .ptr (lid B.nx 3) 0),(11, .ref (.agg [.int .i64 tk, .int .i64 ta,vl jh tt,vl vint az])),(12,vnat j)]∧S'=St B [] [some (4,[.nils, .nils, .nils, .nils]),some (4,[vl vint fi,vl vint fo, .slice ot 0 ts.length, .slice (lid B.nx 2) 0 k]),some (6,cells),some (6,[vl vint ps, .slice (lid B.nx 4) 0 code.length, .int .i64 tk, .int .i64 gg, .slice (lid B.nx 5) 0 j,vl vint gz]),some (4,jo jl co),some (2,jo jh eo)]) tt.length ?_ ?_
    ·exact ⟨0,[],by omega,rfl,by simp,rfl,by simp [Fr.only],by simp [jo]⟩
    ·rintro c σ T ⟨j,eo,hj,rfl,heo,heol,rfl,rfl⟩
     by_cases hjt:j<tt.length
     case neg =>
      have hje:j=tt.length:=by omega
      subst hje
      rw [List.take_length] at heo
      repeat (first|refine QG ?_|refine QY ?_ (r:=by conv=>lhs;simp[-List.map_set,QV,hjt]))
      apply jE
      ·exact Reach.frzCellS (enc:=jh) (s:=2) (fun _=>by rw [jH]; rfl) qX (k:=3) (j:=5) (i:=4) eo (by decide) (by simp) (by simp) (by rfl) (by rw [heol]; rfl) (by rfl)
      simp only [List.set_cons_succ,List.set_cons_zero]
      have hcel:cells.length=k*6:=by rw [how.len.1,qR]; rfl
      have hb:(k+1)*112≤140737488355328:=by omega
      have hb':k+1≤140737488355328:=by omega
      repeat (first|refine QG ?_|refine QY ?_ (r:=by conv=>lhs;simp[-List.map_set,QV,hb,hb',hcel,rep0,hw]))
      show jt _ _ _ _ _ _ _
      refine zo hag.1 ?_
      have hblk:Ss.repBlock to ⟨ps,code,⟨tk,ta,tt,az⟩⟩=⟨ps,co,⟨tk,gg,eo,gz⟩⟩:=by
       simp only [Ss.repBlock,Ss.repTerm,hgt,hgz,hgg,hco,heo]
      have hB' : ∀ o,o<B.nx→(St B [] [some (4,jo jl co)]).get o=B.get o:=fun o ho=>by rw [jk ho]; rfl
      have hnew:OwL (St B [] [some (4,jo jl co)]) blkT [vl vint ps, .slice (lid B.nx 0) 0 code.length, .int .i64 tk, .int .i64 gg,vl jh eo,vl vint gz] (jc ⟨ps,co,⟨tk,gg,eo,gz⟩⟩).cells [lid B.nx 0]:=by
       rw [jB, ←hcol]
       exact .c rfl (OwL.slice (fun _=>by rw [jU]; rfl) qh co (by rw [jv]; rfl) (.c rfl (.c rfl (.c rfl (.c rfl .nil)))))
      have hown:OwL (St B [] [some (4,jo jl co)]) (reps (k+1) blkT) (cells++[vl vint ps, .slice (lid B.nx 0) 0 code.length, .int .i64 tk, .int .i64 gg,vl jh eo,vl vint gz]) (jo jc (out++[⟨ps,co,⟨tk,gg,eo,gz⟩⟩])) (ids++[lid B.nx 0]):=by
       rw [Kt,qZ]
       exact (how.mono fun o ho=>hB' o (hids o ho).2).append hnew
      have hotN:(St B [] [some (4,jo jl co)]).get ot=some (1,ts.map vint)∧S.nx≤ot∧ot<(St B [] [some (4,jo jl co)]).nx∧ot∉ids++[lid B.nx 0]:=by
       refine ⟨by rw [hB' ot hotB]; exact hotg,hots,by rw [jx]; simp only [lid,List.length_cons,List.length_nil]; omega,fun hm => ?_⟩
       rcases List.mem_append.1 hm with hm | hm
       ·exact hotn hm
       ·simp only [List.mem_singleton] at hm; rw [hm,lid] at hotB; omega
      refine jL [4,0,1,7] (by conv=>lhs; simp [Fr.only]) hwf (by decide) (by simp [-List.map_set,gtP,gtT,hci,hcr,jy,ju]) (by conv=>lhs; simp [-List.map_set,gtP,gtT,hci,hcr,jy,ju]) (by conv=>lhs; simp [-List.map_set,gtP,gtT,hci,hcr,jy,ju]) (by conv=>lhs; simp [-List.map_set,gtP,gtT,hci,hcr,jy,ju]) ⟨?_,St B [] [some (4,jo jl co)],k+1,out++[⟨ps,co,⟨tk,gg,eo,gz⟩⟩],cells++[vl vint ps, .slice (lid B.nx 0) 0 code.length, .int .i64 tk, .int .i64 gg,vl jh eo,vl vint gz],ids++[lid B.nx 0],hag.St,Yi hwf (by simp [ju]),hotN,hkt,rfl,by rw [htk,hblk,ho],by simp [hol],hown, ?_, ?_,by simp [jx,qd],(by refine (YV).trans ?_; simp [jx,qd])⟩
      ·omega
      ·refine List.nodup_append.2 ⟨hnd,by simp,fun a ha b hb e => ?_⟩
       have:=(hids a ha).2
       simp only [List.mem_singleton] at hb
       rw [hb,lid] at e
       omega
      ·intro o ho
       have hle:=hag.1
       rw [jx]
       rcases List.mem_append.1 ho with ho | ho
       ·have:=hids o ho
        simp only [lid,List.length_cons,List.length_nil]; omega
       ·simp only [List.mem_singleton] at ho
        rw [ho]
        simp only [lid,List.length_cons,List.length_nil]; omega
     have hwj:=jm hjt (by omega)
     have hej:=hto2 _ (List.getElem_mem hjt)
     have hcj:(tt.take (j+1)).map (Ss.repEdge to)=(tt.take j).map (Ss.repEdge to)++[Ss.repEdge to tt[j]]:=by rw [List.take_add_one,List.getElem?_eq_getElem hjt,List.map_append]; rfl
     obtain ⟨⟨xt,xa⟩,hx2⟩ : ∃ x,tt[j]=x:=⟨_,rfl⟩
     rw [hx2] at hcj hej
     simp only at hej
     have cxa:=csw xa (by omega)
     have hfl:(jo jh eo).length=j*2:=by rw [zx (s:=2) (fun _=>by rw [jH]; rfl),heol]
     have hb:(j+1)*32≤140737488355328:=by omega
     have hb':j+1≤140737488355328:=by omega
     generalize hga:xa.map (Ss.putv to)=ga at *
     repeat (first|refine QG ?_|refine QY ?_ (r:=by conv=>lhs;simp[-List.map_set,QV,hjt]))
     repeat refine QS ?_
     refine jK (St B [] []) (St B [] [none,none,none,some (6,[])]) [110] rfl (by kernel_rfl) (by conv=>lhs; reduce) (by conv=>lhs; reduce) (by kernel_rfl) (by kernel_rfl) (jq (by simp [subU,shpU,subL,shpL])) (by conv=>lhs; simp [-List.map_set,QV,hjt,hx2]) ?_
     refine jd (cxa) (by rfl) ?_
     refine QM (by conv=>lhs;simp[-List.map_set,QV]) ?_
     refine jf rfl (by conv=>lhs;simp[-List.map_set,QV,rep0]) (jq (by simp [subU,shpU,subL,shpL])) ?_
     refine QM (by conv=>lhs;simp[-List.map_set,QV]) ?_
     refine jf rfl (by conv=>lhs;simp[-List.map_set,QV,hb,hb',hfl]) (jq (by simp [subU,shpU,subL,shpL])) ?_
     refine QM (by conv=>lhs;simp[-List.map_set,QV]) ?_
     refine jf rfl (by conv=>lhs;simp[-List.map_set,QV]) (jq (by simp [subU,shpU,subL,shpL])) ?_
     refine QM (by conv=>lhs;simp[-List.map_set,QV]) ?_
     refine QN ?_
     repeat (first|refine QG ?_|refine QY ?_ (r:=by conv=>lhs;simp[-List.map_set,QV,hwj]))
     refine jL [0,1,2,3,4,7] (by conv=>lhs; simp [Fr.only]) hwf (by decide) (by simp [-List.map_set,gtP,gtT,hci,hcr,jy,ju,qP,qH]) (by conv=>lhs; simp [-List.map_set,gtP,gtT,hci,hcr,jy,ju,qP,qH]) (by conv=>lhs; simp [-List.map_set,gtP,gtT,hci,hcr,jy,ju,qP,qH]) (by conv=>lhs; simp [-List.map_set,gtP,gtT,hci,hcr,jy,ju,qP,qH]) ⟨?_,j+1,eo++[Ss.repEdge to ⟨xt,xa⟩],hjt,rfl,by rw [hcj,heo],by simp [heol],by simp [hwj],by simp [qZ,Ss.repEdge,hga]⟩
     omega
   have hwj:=jm hjt (by omega)
   have hcj:(code.take (j+1)).map (Ss.repIns to)=(code.take j).map (Ss.repIns to)++[Ss.repIns to code[j]]:=by rw [List.take_add_one,List.getElem?_eq_getElem hjt,List.map_append]; rfl
   have hsj:=hcode _ (List.getElem_mem hjt)
   obtain ⟨⟨xo,xn,xa,xu⟩,hx2⟩ : ∃ x,code[j]=x:=⟨_,rfl⟩
   rw [hx2] at hcj hsj
   simp only at hsj
   have cxa:=csw xa (by omega)
   have cxu:=Ks xu (by omega)
   have hfl:(jo jl co).length=j*4:=by rw [zx (s:=4) (fun _=>by rw [jU]; rfl),hcol]
   have hb:(j+1)*64≤140737488355328:=by omega
   have hb':j+1≤140737488355328:=by omega
   generalize hga:xa.map (Ss.putv to)=ga at *
   repeat (first|refine QG ?_|refine QY ?_ (r:=by conv=>lhs;simp[-List.map_set,QV,hjt,hx2]))
   refine ji 10 rfl ((qS (k:=5) (by simp) (by rfl) (by rfl) (by simp))) (by conv=>lhs; simp [Fr.set]) ?_
   simp only [List.set_cons_succ,List.set_cons_zero]
   repeat refine QS ?_
   refine jK (St B [] []) (St B [] [none,none,none,some (6,[])]) [59] rfl (by kernel_rfl) (by conv=>lhs; reduce) (by conv=>lhs; reduce) (by kernel_rfl) (by kernel_rfl) (jq (by simp [subU,shpU,subL,shpL])) (by conv=>lhs; simp [-List.map_set,QV]) ?_
   refine jd (cxa) (by rfl) ?_
   refine QM (by conv=>lhs;simp[-List.map_set,QV]) ?_
   refine jd (cxu) (by rfl) ?_
   refine QM (by conv=>lhs;simp[-List.map_set,QV]) ?_
   refine jf rfl (by conv=>lhs;simp[-List.map_set,QV,rep0]) (jq (by simp [subU,shpU,subL,shpL])) ?_
   refine QM (by conv=>lhs;simp[-List.map_set,QV]) ?_
   refine jf rfl (by conv=>lhs;simp[-List.map_set,QV,hb,hb',hfl]) (jq (by simp [subU,shpU,subL,shpL])) ?_
   refine QM (by conv=>lhs;simp[-List.map_set,QV]) ?_
   refine jf rfl (by conv=>lhs;simp[-List.map_set,QV]) (jq (by simp [subU,shpU,subL,shpL])) ?_
   refine QM (by conv=>lhs;simp[-List.map_set,QV]) ?_
   refine QN ?_
   repeat (first|refine QG ?_|refine QY ?_ (r:=by conv=>lhs;simp[-List.map_set,QV,hwj]))
   refine jL [0,1,2,3,7] (by conv=>lhs; simp [Fr.only]) hwf (by decide) (by simp [-List.map_set,gtP,gtT,hci,hcr,jy,ju]) (by conv=>lhs; simp [-List.map_set,gtP,gtT,hci,hcr,jy,ju]) (by conv=>lhs; simp [-List.map_set,gtP,gtT,hci,hcr,jy,ju]) (by conv=>lhs; simp [-List.map_set,gtP,gtT,hci,hcr,jy,ju]) ⟨?_,j+1,co++[Ss.repIns to ⟨xo,xn,xa,xu⟩],hjt,rfl,by rw [hcj,hco],by simp [hcol],by simp [hwj],by simp [qZ,Ss.repIns,hga]⟩
   omega
theorem Copied.mono {S S':Store} {g:Ss.Fn} {r:V} {T:Store} (h:Copied S' g r T) (hag:Agree S S'):Copied S g r T:=by
 obtain ⟨h1,h2,ob,cells,ids,h3,h4,h5,h6,h7⟩:=h
 have hle:=hag.1
 exact ⟨⟨Nat.le_trans hle h1.1,fun o ho=>(h1.2 o (Nat.lt_of_lt_of_le ho hle)).trans (hag.2 o ho)⟩,h2,ob,cells,ids,h3,h4,h5,h6,fun o ho=>⟨Nat.le_trans hle (h7 o ho).1,(h7 o ho).2⟩⟩
theorem RCopyT_v (S:Store) (f:Ss.Fn) (hf:f.Fits) (hs:f.small=true):VCalls Tryz.prog 19 [qx f] S (jbM S f):=by
 have cr : ∀ S,VCalls Tryz.prog 55 [qx f, .nils] S (jbM S f):=fun S=>by
  have h:=RReplace_v S f [] hf hs (by simp)
  rw [Ss.replace_nil] at h
  exact jV (GhostArgs.one [qx f] [] (Ghost.nils_list S)) h
 obtain ⟨⟨fi,fo⟩,ts,bs⟩:=f
 have cr' : ∀ S,VCalls Tryz.prog 55 [.agg [vl vint fi,vl vint fo,vl vint ts,vl jc bs], .nils] S (jbM S ⟨⟨fi,fo⟩,ts,bs⟩):=cr
 refine qe (c:=jg Tryz.f19) Tryz.func19 rfl (by conv=>lhs; reduce) (by simp [Tryz.ntmps19]) ?_
 rw [Tryz.ntmps19]
 intro hwf
 repeat (first|refine QG ?_|refine QY ?_)
 refine ji 1 rfl ((qS (k:=0) (by simp) (by rfl) (by rfl) (by simp))) (by conv=>lhs; simp [Fr.set]) ?_
 simp only [List.set_cons_succ,List.set_cons_zero]
 repeat refine QS ?_
 refine QP ?_
 refine jF rfl (cr' _) ?_
 rintro X T ⟨hag,hwT,ot,ob,cells,ids,rfl,hot,hob,how,hnd,hids⟩
 have hc:T.get (lid S.nx 1)=some (4,[.nils, .nils, .nils, .nils]):=by
  rw [hag.2 _ (by rw [jx]; simp [lid]),jv]; rfl
 have hcn:=jr hwT hc
 have oc:=fun u l => @jk T u l _ hcn
 have uo:=fun u l c => @jP T u l c _ hcn
 refine KD hwT ?_
 refine QM (by conv=>lhs;simp[-List.map_set,QV,hc,oc,uo]) ?_
 refine QN ?_
 repeat (first|refine QG ?_|refine QY ?_)
 refine YI (xs:=[.agg [vl vint fi,vl vint fo, .slice ot 0 ts.length, .slice ob 0 bs.length]]) (by simp [oc]) ?_
 rw [jaA,JJ hwT hcn]
 have hne : ∀ o∈ot::ob::ids,o≠lid S.nx 1:=fun o ho e=>by
  have:=(hids o ho).1
  rw [e,jx] at this
  simp [lid] at this
 have hag0:Agree S T:=⟨Nat.le_trans (by rw [jx,lid]; omega) hag.1,fun o ho=>(hag.2 o (by rw [jx,lid]; omega)).trans (by rw [jk ho]; rfl)⟩
 refine qE ⟨⟨hag0.1,fun o ho => ?_⟩,Zf hwT hcn (by simp [(hids ob (by simp)).2,(hids ot (by simp)).2]),ot,ob,cells,ids,rfl, ?_, ?_, ?_,hnd,fun o ho=>⟨?_,(hids o ho).2⟩⟩
 ·rw [jI (by rw [lid]; omega)]; exact hag0.2 o ho
 ·rw [jI (hne ot (by simp))]; exact hot
 ·rw [jI (hne ob (by simp))]; exact hob
 ·exact how.mono fun o ho=>jI (hne o (by simp [ho]))
 ·have:=(hids o ho).1
  rw [jx,lid] at this
  omega
end Go.Vw
