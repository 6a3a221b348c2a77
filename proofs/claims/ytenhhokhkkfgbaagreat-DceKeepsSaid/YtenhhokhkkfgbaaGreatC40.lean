import Derived.Test.YtenhhokhkkfgbaaGreatC33
import Derived.Test.YtenhhokhkkfgbaaGreatC31
import Derived.Test.YtenhhokhkkfgbaaGreatC39
/-
  Part of the proof (texts DLKeeps).
-/
set_option linter.unusedVariables false
set_option linter.unusedSimpArgs false
namespace Ss
def imp (x:Ins):Bool := !pure x.op
end Ss
namespace Go.Vw
open Go.Proofs Go.RowKit
set_option maxRecDepth 10000
set_option maxHeartbeats 2000000
theorem RSameIns1_v (x:Ss.Ins) (h1:x.args.length<2^63) (h2:x.outs.length<2^63):VPure Tryz.prog 23 [encIns x,encIns x] (.bool true):=by
 intro S
 obtain ⟨op,n,args,outs⟩:=x
 simp only at h1 h2
 have c1:=WInts_v args args h1
 have c2:=WInts_v outs outs h2
 rw [decide_eq_true rfl] at c1 c2
 obtain ⟨t,ht⟩ : ∃ t,t=true:=⟨_,rfl⟩
 rw [←ht] at c1 c2
 refine vcalls_start (c:=bodyOf Tryz.f23) Tryz.func23 rfl rfl (by simp [Tryz.ntmps23]) ?_
 rw [Tryz.ntmps23]
 intro hwf
 repeat refine QS ?_
 refine QR (r:=by conv=>lhs;simp[-List.map_set,QV]) (k:=?_)
 refine QN ?_
 refine vw_ghost' 2 rfl ((refSt (k:=0) (by simp) (by rfl) (by rfl) (by simp))) (by conv=>lhs; simp [Fr.set]) ?_
 simp only [List.set_cons_succ,List.set_cons_zero]
 refine vw_ghost' 3 rfl ((refSt (k:=1) (by simp) (by rfl) (by rfl) (by simp))) (by conv=>lhs; simp [Fr.set]) ?_
 simp only [List.set_cons_succ,List.set_cons_zero]
 repeat refine QS ?_
 refine QR (r:=by conv=>lhs;simp[-List.map_set,QV]) (k:=?_)
 refine vcall_useH (c1) (by rfl) ?_
 refine QM (by conv=>lhs;simp[-List.map_set,QV,ht]) ?_
 refine vcall_useH (c2) (by rfl) ?_
 refine QM (by conv=>lhs;simp[-List.map_set,QV,ht]) ?_
 refine QN ?_
 repeat (first|refine QG ?_|refine QX (r:=by conv=>lhs;simp[-List.map_set,QV]) (k:=?_))
 exact done_pure (X := .bool true) hwf (by simp) rfl
theorem DceKeeps_v (e:Ss.Env) (f:Ss.Fn) (he:e.Fits) (hf:f.Fits):VPure Tryz.prog 9 [encEnv e,encFn f] (.bool true):=by
 intro S
 have cb:=DceP_v e f he hf
 have cal:=Alive15_v
 obtain ⟨al,hal⟩ : ∃ al,al=true:=⟨_,rfl⟩
 rw [←hal] at cal
 cases hc:Ss.check e f with
 | false =>
  rw [Ss.dceOut_f hc] at cb
  obtain ⟨⟨fi,fo⟩,ts,bs⟩:=f
  obtain ⟨sg,im,gl,mu,me⟩:=e
  have cb':VPure Tryz.prog 10 [.agg [vl encSig sg,vint im,vl vint gl,vl V.bool mu, .bool me], .agg [vl vint fi,vl vint fo,vl vint ts,vl encBlock bs]] (.tuple [.agg [vl vint [],vl vint [],vl vint [],vl encBlock []],vint 6]):=cb
  refine vcalls_start (c:=bodyOf Tryz.f9) Tryz.func9 rfl rfl (by simp [Tryz.ntmps9]) ?_
  rw [Tryz.ntmps9]
  intro hwf
  repeat refine QS ?_
  refine QR (r:=by conv=>lhs;simp[-List.map_set,QV]) (k:=?_)
  refine QN ?_
  refine vw_ghost' 2 rfl ((refSt (k:=0) (by simp) (by rfl) (by rfl) (by simp))) (by conv=>lhs; simp [Fr.set]) ?_
  simp only [List.set_cons_succ,List.set_cons_zero]
  refine vw_ghost' 3 rfl ((refSt (k:=1) (by simp) (by rfl) (by rfl) (by simp))) (by conv=>lhs; simp [Fr.set]) ?_
  simp only [List.set_cons_succ,List.set_cons_zero]
  repeat refine QS ?_
  refine QR (r:=by conv=>lhs;simp[-List.map_set,QV]) (k:=?_)
  refine vcall_useH (cb') (by rfl) ?_
  refine QM (by conv=>lhs;simp[-List.map_set,QV]) ?_
  refine QN ?_
  repeat (first|refine QG ?_|refine QX (r:=by conv=>lhs;simp[-List.map_set,QV]) (k:=?_))
  repeat refine QS ?_
  refine QR (r:=by conv=>lhs;simp[-List.map_set,QV]) (k:=?_)
  refine vcall_useH (cal) (by rfl) ?_
  refine QM (by conv=>lhs;simp[-List.map_set,QV,hal]) ?_
  refine QN ?_
  repeat (first|refine QG ?_|refine QX (r:=by conv=>lhs;simp[-List.map_set,QV]) (k:=?_))
  exact done_pure (X := .bool true) hwf (by simp) rfl
 | true =>
  rw [Ss.dceOut_t hc] at cb
  have cck:=RCheck_v e f he hf
  rw [Ss.check_agrees hf] at cck
  have hsm:=(Ss.small_iff _).1 (Ss.check_small hc)
  have hh:=hsm.1
  simp only [Ss.Fn.heads,Bool.and_eq_true,decide_eq_true_eq] at hh
  obtain ⟨⟨⟨hh1,hh2⟩,_⟩,_⟩:=hh
  have hgb : ∀ i:Nat,(h:i<f.blocks.length)→(Ss.dceF f).blocks[i]? = some (Ss.dBlock (Ss.dNeed f) f.blocks f.blocks[i]):=fun i h=>by
   simp only [Ss.dceF,List.getElem?_map,List.getElem?_eq_getElem h,Option.map_some]
  have hgl:(Ss.dceF f).blocks.length=f.blocks.length:=by simp [Ss.dceF]
  have hcl : ∀ b∈f.blocks,b.code.length≤4096:=fun b hb=>by
   have h1:=hsm.2.2
   have h2:=count_mem hb
   omega
  have hkp : ∀ l:List Ss.Ins,(l.filter (Ss.dKeep (Ss.dNeed f))).filter Ss.imp=l.filter Ss.imp:=Ss.dce_keeps _
  generalize Ss.check e f=ck at *
  generalize Ss.dNeed f=need at *
  generalize Ss.dceF f=g at *
  obtain ⟨⟨fi,fo⟩,ts,bs⟩:=f
  obtain ⟨⟨gi,go⟩,gt,gb⟩:=g
  obtain ⟨sg,im,gl,mu,me⟩:=e
  simp only at hgb hgl hcl hh1 hh2 hsm
  have cb':VPure Tryz.prog 10 [.agg [vl encSig sg,vint im,vl vint gl,vl V.bool mu, .bool me], .agg [vl vint fi,vl vint fo,vl vint ts,vl encBlock bs]] (.tuple [.agg [vl vint gi,vl vint go,vl vint gt,vl encBlock gb],vint 0]):=cb
  have cck':VPure Tryz.prog 14 [.agg [vl encSig sg,vint im,vl vint gl,vl V.bool mu, .bool me], .agg [vl vint fi,vl vint fo,vl vint ts,vl encBlock bs]] (.bool ck):=cck
  have hir : ∀ f (l:List Ss.Ins),V.renL f (flatC encIns l)=flatC encIns l:=fun f l=>flatC_ren encIns_closed f l
  have hii : ∀ p (l:List Ss.Ins),V.idsL p (flatC encIns l)=true:=fun p l=>flatC_ids encIns_closed p l
  refine vcalls_start (c:=bodyOf Tryz.f9) Tryz.func9 rfl rfl (by simp [Tryz.ntmps9]) ?_
  rw [Tryz.ntmps9]
  intro hwf
  repeat refine QS ?_
  refine QR (r:=by conv=>lhs;simp[-List.map_set,QV]) (k:=?_)
  refine QN ?_
  refine vw_ghost' 2 rfl ((refSt (k:=0) (by simp) (by rfl) (by rfl) (by simp))) (by conv=>lhs; simp [Fr.set]) ?_
  simp only [List.set_cons_succ,List.set_cons_zero]
  refine vw_ghost' 3 rfl ((refSt (k:=1) (by simp) (by rfl) (by rfl) (by simp))) (by conv=>lhs; simp [Fr.set]) ?_
  simp only [List.set_cons_succ,List.set_cons_zero]
  repeat refine QS ?_
  refine QR (r:=by conv=>lhs;simp[-List.map_set,QV]) (k:=?_)
  refine vcall_useH (cb') (by rfl) ?_
  refine QM (by conv=>lhs;simp[-List.map_set,QV]) ?_
  refine QN ?_
  refine vw_ghost' 5 rfl ((refSt (k:=2) (by simp) (by rfl) (by rfl) (by simp))) (by conv=>lhs; simp [Fr.set]) ?_
  simp only [List.set_cons_succ,List.set_cons_zero]
  repeat refine QS ?_
  refine QR (r:=by conv=>lhs;simp[-List.map_set,QV]) (k:=?_)
  refine vcall_useH (cck') (by rfl) ?_
  refine QM (by conv=>lhs;simp[-List.map_set,QV,hc]) ?_
  refine QN ?_
  repeat (first|refine QG ?_|refine QX (r:=by conv=>lhs;simp[-List.map_set,QV,hgl]) (k:=?_))
  repeat refine QS ?_
  refine vw_loopAt [3,5,39,40] rfl (fun c σ S' => ∃ k:Nat,k≤bs.length∧c=bs.length-k∧σ=[(3,(V.agg [vl vint fi,vl vint fo,vl vint ts,vl encBlock bs]).ref),(5,(V.agg [vl vint gi,vl vint go,vl vint gt,vl encBlock gb]).ref),(39,vnat bs.length),(40,vnat k)]∧S'=St S [] [none,none,none]) bs.length ?_ ?_
  ·exact ⟨0,by omega,rfl,by simp [Fr.only,Fr.look],rfl⟩
  ·rintro c σ T ⟨k,hk,rfl,rfl,rfl⟩
   by_cases hkt:k<bs.length
   ·have hw:=wrapNat hkt (by omega)
    have hkg:k<gb.length:=by omega
    have hg:=hgb k hkt
    have hcl2:=hcl _ (List.getElem_mem hkt)
    have hb:=hsm.2.1 _ (List.getElem_mem hkt)
    rw [List.getElem?_eq_getElem hkg] at hg
    have hg2:=Option.some.inj hg
    obtain ⟨⟨ps,code,⟨tk,ta,to,az⟩⟩,hb1⟩ : ∃ b,bs[k]=b:=⟨_,rfl⟩
    rw [hb1] at hg2 hcl2 hb
    have hcode:gb[k].code=code.filter (Ss.dKeep need):=by rw [hg2]; rfl
    obtain ⟨⟨ps2,code2,⟨tk2,ta2,to2,az2⟩⟩,hb2⟩ : ∃ b,gb[k]=b:=⟨_,rfl⟩
    rw [hb2] at hcode
    simp only at hcode hcl2
    simp only [Ss.Block.small,Bool.and_eq_true,decide_eq_true_eq,List.all_eq_true] at hb
    obtain ⟨⟨⟨⟨s1,s2⟩,s3⟩,s4⟩,s5⟩:=hb
    have hf2:code2.filter Ss.imp=code.filter Ss.imp:=by rw [hcode]; exact hkp code
    have hc2l:code2.length≤code.length:=by rw [hcode]; exact List.length_filter_le _ _
    have hr4:rep0 [V.int .i64 0, .int .u64 0, .nils, .nils] 1=[.int .i64 0, .int .u64 0, .nils, .nils]:=rfl
    repeat (first|refine QG ?_|refine QX (r:=by conv=>lhs;simp[-List.map_set,QV,hkt,hb1]) (k:=?_))
    refine vw_void 8 4 rfl (by conv=>lhs; simp [Fr.set]) ?_
    repeat refine QS ?_
    refine vw_loopAt [3,5,7,8,9,39,40,48,49,50] rfl (fun c σ S' => ∃ (j:Nat) (cs:List Ss.Ins),j≤code.length∧c=code.length-j∧cs++(code.drop j).filter Ss.imp=code.filter Ss.imp∧cs.length≤j∧σ=[(3,(V.agg [vl vint fi,vl vint fo,vl vint ts,vl encBlock bs]).ref),(5,(V.agg [vl vint gi,vl vint go,vl vint gt,vl encBlock gb]).ref),(7,vnat k),(8, .slice (lid S.nx 3) 0 cs.length),(9, .nils),(39,vnat bs.length),(40,vnat k),(48,vl encIns code),(49,vnat code.length),(50,vnat j)]∧S'=St S [] [none,none,none,some (4,flatC encIns cs)]) code.length ?_ ?_
    ·exact ⟨0,[],by omega,rfl,rfl,by simp,by simp [Fr.only,Fr.look],rfl⟩
    ·rintro c σ T ⟨j,cs,hj,rfl,hcs,hcsl,rfl,rfl⟩
     have hl1:(flatC encIns cs).length=cs.length*4:=flatC_len (fun x=>by rw [encIns_cells]; rfl) _
     by_cases hjt:j<code.length
     ·have hwj:=wrapNat hjt (by omega)
      rw [List.drop_eq_getElem_cons hjt] at hcs
      obtain ⟨⟨op,n,args,outs⟩,hx⟩ : ∃ x,code[j]=x:=⟨_,rfl⟩
      rw [hx] at hcs
      have cp:=RPure_v op
      have hbb1:(cs.length+1)*64≤140737488355328:=by omega
      have hbb2:cs.length+1≤140737488355328:=by omega
      have hs1:flatC encIns (cs++[⟨op,n,args,outs⟩])=flatC encIns cs++[.int .i64 op, .int .u64 n,vl vint args,vl vint outs]:=by rw [flatC_snoc,encIns_cells]; rfl
      have himp:Ss.imp ⟨op,n,args,outs⟩ = !Ss.pure op:=rfl
      generalize Ss.pure op=pp at *
      repeat (first|refine QG ?_|refine QX (r:=by conv=>lhs;simp[-List.map_set,QV,hjt,hx]) (k:=?_))
      refine vw_ghost' 11 rfl ((refSt (k:=4) (by simp) (by rfl) (by rfl) (by simp))) (by conv=>lhs; simp [Fr.set]) ?_
      simp only [List.set_cons_succ,List.set_cons_zero]
      repeat refine QS ?_
      refine QR (r:=by conv=>lhs;simp[-List.map_set,QV]) (k:=?_)
      refine vcall_useH (cp) (by rfl) ?_
      cases pp with
      | true =>
       rw [List.filter_cons_of_neg (by simp [himp])] at hcs
       refine QM (by conv=>lhs;simp[-List.map_set,QV]) ?_
       refine QN ?_
       repeat (first|refine QG ?_|refine QX (r:=by conv=>lhs;simp[-List.map_set,QV,hwj]) (k:=?_))
       refine again_gc [0,1,2,3] (by conv=>lhs; simp [Fr.only]) hwf (by decide) (by simp [-List.map_set,hir,hii]) (by conv=>lhs; simp [-List.map_set,hir,hii]) (by conv=>lhs; simp [-List.map_set,hir,hii]) (by conv=>lhs; simp [-List.map_set,hir,hii]) ⟨?_,j+1,cs,hjt,rfl,hcs,by omega,by simp [Fr.only,Fr.look,hwj],by simp⟩
       omega
      | false =>
       rw [List.filter_cons_of_pos (by simp [himp])] at hcs
       refine QM (by conv=>lhs;simp[-List.map_set,QV]) ?_
       refine QN ?_
       repeat (first|refine QG ?_|refine QX (r:=by conv=>lhs;simp[-List.map_set,QV]) (k:=?_))
       repeat refine QS ?_
       refine QR (r:=by conv=>lhs;simp[-List.map_set,QV,hr4,hl1,hbb1,hbb2]) (k:=?_)
       refine QN ?_
       repeat (first|refine QG ?_|refine QX (r:=by conv=>lhs;simp[-List.map_set,QV,hwj]) (k:=?_))
       refine again_gc [0,1,2,6] (by conv=>lhs; simp [Fr.only]) hwf (by decide) (by simp [-List.map_set,hir,hii]) (by conv=>lhs; simp [-List.map_set,hir,hii]) (by conv=>lhs; simp [-List.map_set,hir,hii]) (by conv=>lhs; simp [-List.map_set,hir,hii]) ⟨?_,j+1,cs++[⟨op,n,args,outs⟩],hjt,rfl,by rw [←hcs]; simp,by simp; omega,by simp [Fr.only,Fr.look,hwj],by simp [hs1]⟩
       omega
     ·have hje:j=code.length:=by omega
      subst hje
      rw [List.drop_length,List.filter_nil,List.append_nil] at hcs
      repeat (first|refine QG ?_|refine QX (r:=by conv=>lhs;simp[-List.map_set,QV,hjt,hkg,hb2]) (k:=?_))
      refine vw_void 9 4 rfl (by conv=>lhs; simp [Fr.set]) ?_
      repeat refine QS ?_
      refine vw_loopAt [3,5,8,9,39,40,68,69,70] rfl (fun c σ S' => ∃ (j:Nat) (ds:List Ss.Ins),j≤code2.length∧c=code2.length-j∧ds++(code2.drop j).filter Ss.imp=code2.filter Ss.imp∧ds.length≤j∧σ=[(3,(V.agg [vl vint fi,vl vint fo,vl vint ts,vl encBlock bs]).ref),(5,(V.agg [vl vint gi,vl vint go,vl vint gt,vl encBlock gb]).ref),(8, .slice (lid S.nx 3) 0 cs.length),(9, .slice (lid S.nx 4) 0 ds.length),(39,vnat bs.length),(40,vnat k),(68,vl encIns code2),(69,vnat code2.length),(70,vnat j)]∧S'=St S [] [none,none,none,some (4,flatC encIns cs),some (4,flatC encIns ds)]) code2.length ?_ ?_
      ·exact ⟨0,[],by omega,rfl,rfl,by simp,by simp [Fr.only,Fr.look],rfl⟩
      ·rintro c σ T ⟨j,ds,hj,rfl,hds,hdsl,rfl,rfl⟩
       have hl2:(flatC encIns ds).length=ds.length*4:=flatC_len (fun x=>by rw [encIns_cells]; rfl) _
       by_cases hjt:j<code2.length
       ·have hwj:=wrapNat hjt (by omega)
        rw [List.drop_eq_getElem_cons hjt] at hds
        obtain ⟨⟨op,n,args,outs⟩,hx⟩ : ∃ x,code2[j]=x:=⟨_,rfl⟩
        rw [hx] at hds
        have cp:=RPure_v op
        have hbb1:(ds.length+1)*64≤140737488355328:=by omega
        have hbb2:ds.length+1≤140737488355328:=by omega
        have hs1:flatC encIns (ds++[⟨op,n,args,outs⟩])=flatC encIns ds++[.int .i64 op, .int .u64 n,vl vint args,vl vint outs]:=by rw [flatC_snoc,encIns_cells]; rfl
        have himp:Ss.imp ⟨op,n,args,outs⟩ = !Ss.pure op:=rfl
        generalize Ss.pure op=pp at *
        repeat (first|refine QG ?_|refine QX (r:=by conv=>lhs;simp[-List.map_set,QV,hjt,hx]) (k:=?_))
        refine vw_ghost' 13 rfl ((refSt (k:=5) (by simp) (by rfl) (by rfl) (by simp))) (by conv=>lhs; simp [Fr.set]) ?_
        simp only [List.set_cons_succ,List.set_cons_zero]
        repeat refine QS ?_
        refine QR (r:=by conv=>lhs;simp[-List.map_set,QV]) (k:=?_)
        refine vcall_useH (cp) (by rfl) ?_
        cases pp with
        | true =>
         rw [List.filter_cons_of_neg (by simp [himp])] at hds
         refine QM (by conv=>lhs;simp[-List.map_set,QV]) ?_
         refine QN ?_
         repeat (first|refine QG ?_|refine QX (r:=by conv=>lhs;simp[-List.map_set,QV,hwj]) (k:=?_))
         refine again_gc [0,1,2,3,4] (by conv=>lhs; simp [Fr.only]) hwf (by decide) (by simp [-List.map_set,hir,hii]) (by conv=>lhs; simp [-List.map_set,hir,hii]) (by conv=>lhs; simp [-List.map_set,hir,hii]) (by conv=>lhs; simp [-List.map_set,hir,hii]) ⟨?_,j+1,ds,hjt,rfl,hds,by omega,by simp [Fr.only,Fr.look,hwj],by simp⟩
         omega
        | false =>
         rw [List.filter_cons_of_pos (by simp [himp])] at hds
         refine QM (by conv=>lhs;simp[-List.map_set,QV]) ?_
         refine QN ?_
         repeat (first|refine QG ?_|refine QX (r:=by conv=>lhs;simp[-List.map_set,QV]) (k:=?_))
         repeat refine QS ?_
         refine QR (r:=by conv=>lhs;simp[-List.map_set,QV,hr4,hl2,hbb1,hbb2]) (k:=?_)
         refine QN ?_
         repeat (first|refine QG ?_|refine QX (r:=by conv=>lhs;simp[-List.map_set,QV,hwj]) (k:=?_))
         refine again_gc [0,1,2,3,7] (by conv=>lhs; simp [Fr.only]) hwf (by decide) (by simp [-List.map_set,hir,hii]) (by conv=>lhs; simp [-List.map_set,hir,hii]) (by conv=>lhs; simp [-List.map_set,hir,hii]) (by conv=>lhs; simp [-List.map_set,hir,hii]) ⟨?_,j+1,ds++[⟨op,n,args,outs⟩],hjt,rfl,by rw [←hds]; simp,by simp; omega,by simp [Fr.only,Fr.look,hwj],by simp [hs1]⟩
         omega
       ·have hje:j=code2.length:=by omega
        subst hje
        rw [List.drop_length,List.filter_nil,List.append_nil,hf2, ←hcs] at hds
        subst hds
        have hdm : ∀ x∈ds,x∈code:=fun x hx=>by
         have:x∈code.filter Ss.imp:=by rw [←hcs]; exact hx
         exact (List.mem_filter.1 this).1
        repeat (first|refine QG ?_|refine QX (r:=by conv=>lhs;simp[-List.map_set,QV,hjt]) (k:=?_))
        refine vw_only' [3,5,8,9,39,40,89,90] (by conv=>lhs; simp [Fr.only,Fr.look]) ?_
        refine vw_ghost' 8 rfl ((frzSt (enc:=encIns) (s:=4) (fun x=>by rw [encIns_cells]; rfl) encIns_closed (k:=3) ds (by simp) (by rfl))) (by conv=>lhs; simp [Fr.set]) ?_
        simp only [List.set_cons_succ,List.set_cons_zero]
        refine vw_ghost' 9 rfl ((frzSt (enc:=encIns) (s:=4) (fun x=>by rw [encIns_cells]; rfl) encIns_closed (k:=4) ds (by simp) (by rfl))) (by conv=>lhs; simp [Fr.set]) ?_
        simp only [List.set_cons_succ,List.set_cons_zero]
        repeat refine QS ?_
        refine vw_loopAt [3,5,8,9,39,40,89,90] rfl (fun c σ S' => ∃ i:Nat,i≤ds.length∧c=ds.length-i∧σ=[(3,(V.agg [vl vint fi,vl vint fo,vl vint ts,vl encBlock bs]).ref),(5,(V.agg [vl vint gi,vl vint go,vl vint gt,vl encBlock gb]).ref),(8,vl encIns ds),(9,vl encIns ds),(39,vnat bs.length),(40,vnat k),(89,vnat ds.length),(90,vnat i)]∧S'=St S [] [none,none,none,none,none]) ds.length ?_ ?_
        ·exact ⟨0,by omega,rfl,by simp [Fr.only,Fr.look],rfl⟩
        ·rintro c σ T ⟨i,hi,rfl,rfl,rfl⟩
         by_cases hit:i<ds.length
         ·have hwi:=wrapNat hit (by omega)
          have hx4:=s4 _ (hdm _ (List.getElem_mem hit))
          obtain ⟨x,hx⟩ : ∃ x,ds[i]=x:=⟨_,rfl⟩
          rw [hx] at hx4
          simp only [Ss.Ins.small,Bool.and_eq_true,decide_eq_true_eq] at hx4
          have cs1:=RSameIns1_v x (by omega) (by omega)
          obtain ⟨t,ht⟩ : ∃ t,t=true:=⟨_,rfl⟩
          rw [←ht] at cs1
          obtain ⟨op,n,args,outs⟩:=x
          have cs2:VPure Tryz.prog 23 [.agg [vint op,vu n,vl vint args,vl vint outs], .agg [vint op,vu n,vl vint args,vl vint outs]] (.bool t):=cs1
          repeat (first|refine QG ?_|refine QX (r:=by conv=>lhs;simp[-List.map_set,QV,hit]) (k:=?_))
          repeat refine QS ?_
          refine QD (r:=by conv=>lhs;simp[-List.map_set,QV,hit,hx]) (k:=?_)
          refine vcall_useH (cs2) (by rfl) ?_
          refine QM (by conv=>lhs;simp[-List.map_set,QV,ht]) ?_
          refine QN ?_
          repeat (first|refine QG ?_|refine QX (r:=by conv=>lhs;simp[-List.map_set,QV,hwi]) (k:=?_))
          show Again _ _ _ _ _ _ _
          exact again ⟨Nat.sub_lt_sub_left hit (Nat.lt_succ_self i),i+1,hit,rfl,by simp [Fr.only,Fr.look,hwi],rfl⟩
         ·repeat (first|refine QG ?_|refine QX (r:=by conv=>lhs;simp[-List.map_set,QV,hit,hw]) (k:=?_))
          refine QA [0,1,2] (h:=⟨?_,k+1,hkt,rfl,by simp [Fr.only,Fr.look,hw],by simp⟩)
          omega
   ·repeat (first|refine QG ?_|refine QX (r:=by conv=>lhs;simp[-List.map_set,QV,hkt]) (k:=?_))
    repeat refine QS ?_
    refine QR (r:=by conv=>lhs;simp[-List.map_set,QV]) (k:=?_)
    refine vcall_useH (cal) (by rfl) ?_
    refine QM (by conv=>lhs;simp[-List.map_set,QV,hal]) ?_
    refine QN ?_
    repeat (first|refine QG ?_|refine QX (r:=by conv=>lhs;simp[-List.map_set,QV]) (k:=?_))
    exact done_pure (X := .bool true) hwf (by simp) rfl
end Go.Vw
