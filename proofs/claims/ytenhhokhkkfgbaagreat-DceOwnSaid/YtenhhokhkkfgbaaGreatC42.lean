import Derived.Test.YtenhhokhkkfgbaaGreatC36
import Derived.Test.YtenhhokhkkfgbaaGreatC40
import Derived.Test.YtenhhokhkkfgbaaGreatC41
import Derived.Test.YtenhhokhkkfgbaaGreatC35
import Derived.Test.YtenhhokhkkfgbaaGreatC30
/-
  Part of the proof (texts ERun, DRPure, BAlive).
-/
set_option linter.unusedVariables false
set_option linter.unusedSimpArgs false
namespace Go.Vw
open Go.Proofs Go.RowKit
set_option maxRecDepth 10000
set_option maxHeartbeats 1500000
set_option pp.deepTerms true
theorem RDce_v (S:Store) (e:Ss.Env) (f:Ss.Fn) (he:e.Fits) (hf:f.Fits) (hc:Ss.check e f=true):VCalls Tryz.prog 11 [zh e,qx f] S fun r T => ∃ r',r = .tuple [r',vint 0]∧Yl S (Ss.dceF f) r' T:=by
 have hs:=Ss.check_small hc
 have hd:=Ss.check_dok hc
 have hnl:=Ss.dNeed_len hd
 have cck:=jbL e f he hf
 rw [Ss.check_agrees hf] at cck
 have crp:=fun S=>RCopyE_v S f hf hs
 have cne:=RNeed_v e f hf hc
 have hsm:=(Ss.small_iff f).1 hs
 have hh:=hsm.1
 simp only [Ss.Fn.heads,Bool.and_eq_true,decide_eq_true_eq] at hh
 obtain ⟨⟨⟨hh1,hh2⟩,_⟩,_⟩:=hh
 have hcl : ∀ b∈f.blocks,b.code.length≤4096:=fun b hb=>by
  have h1:=hsm.2.2
  have h2:=Ju hb
  omega
 have hres:Ss.dceF f=⟨f.sig,f.types,f.blocks.map (Ss.dBlock (Ss.dNeed f) f.blocks)⟩:=rfl
 rw [hres]
 generalize Ss.check e f=ck at *
 generalize Ss.dNeed f=need at *
 obtain ⟨_,dout,done,_,dpar,_,_,deargs,detos,_,_⟩:=hd
 obtain ⟨⟨fi,fo⟩,ts,bs⟩:=f
 obtain ⟨sg,im,gl,mu,me⟩:=e
 simp only at *
 rw [←hnl] at dout dpar deargs
 have cck':VPure Tryz.prog 14 [.agg [vl jC sg,vint im,vl vint gl,vl V.bool mu, .bool me], .agg [vl vint fi,vl vint fo,vl vint ts,vl jc bs]] (.bool ck):=cck
 have cne':VPure Tryz.prog 32 [.agg [vl vint fi,vl vint fo,vl vint ts,vl jc bs]] (vl V.bool need):=cne
 have crp' : ∀ S,VCalls Tryz.prog 19 [.agg [vl vint fi,vl vint fo,vl vint ts,vl jc bs]] S (Yl S ⟨⟨fi,fo⟩,ts,bs⟩):=crp
 refine qe (c:=jg Tryz.f11) Tryz.func11 rfl (by conv=>lhs; reduce) (by simp [Tryz.ntmps11]) ?_
 rw [Tryz.ntmps11]
 intro hwf
 repeat refine QS ?_
 refine QP ?_
 refine QN ?_
 refine ji 2 rfl ((qS (k:=0) (by simp) (by rfl) (by rfl) (by simp))) (by conv=>lhs; simp [Fr.set]) ?_
 simp only [List.set_cons_succ,List.set_cons_zero]
 refine ji 3 rfl ((qS (k:=1) (by simp) (by rfl) (by rfl) (by simp))) (by conv=>lhs; simp [Fr.set]) ?_
 simp only [List.set_cons_succ,List.set_cons_zero]
 refine js [2,3,4,5] (by conv=>lhs; simp [Fr.only,Fr.look]) ?_
 refine zL [2] hwf (by decide) (by simp [-List.map_set]) (by conv=>lhs; simp [-List.map_set]) (by conv=>lhs; simp [-List.map_set]) (by conv=>lhs; simp [-List.map_set]) ?_
 repeat refine QS ?_
 refine QP ?_
 refine jd (cck') (by rfl) ?_
 refine QM (by conv=>lhs;simp[-List.map_set,QV,hc]) ?_
 refine QN ?_
 repeat (first|refine QG ?_|refine QY ?_ (r:=by conv=>lhs;simp[-List.map_set,QV,hc]))
 repeat refine QS ?_
 refine QP ?_
 refine jd (cne') (by rfl) ?_
 refine QM (by conv=>lhs;simp[-List.map_set,QV]) ?_
 refine QN ?_
 refine js [3,4,6] (by conv=>lhs; simp [Fr.only,Fr.look]) ?_
 repeat refine QS ?_
 refine QP ?_
 refine jF rfl (crp' _) ?_
 rintro X T ⟨hag0,hwT,ot,ob,cells,ids,rfl,hotg,hob,how,hnd,hids⟩
 simp only at hotg how
 refine KD hwT ?_
 refine QM (by conv=>lhs;simp[-List.map_set,QV]) ?_
 refine QN ?_
 have hag1:=hag0.1
 rw [jx] at hag1 hids
 simp only [List.length_cons,List.length_nil,Nat.zero_add,lid] at hag1 hids
 have h4:T.get (lid S.nx 0)=some (4,[V.nils,V.nils,V.nils,V.nils]):=by
  rw [hag0.2 (lid S.nx 0) (by rw [jx]; simp [lid]),jv]; rfl
 have h4lt:lid S.nx 0<T.nx:=by simp only [lid]; omega
 have hwf0:=hwf
 repeat (first|refine QG ?_|refine QY ?_)
 obtain ⟨rs0,rfl,hrl0,hrows0⟩:=Zl (fun x=>by rw [jB]; rfl) how
 have g0 : ∀ o l,o<T.nx→(St T [] l).get o=T.get o:=fun o l ho=>by rw [jk ho]; rfl
 have hlt : ∀ o∈ot::ob::ids,o<T.nx:=fun o ho=>(hids o ho).2
 generalize hT0:St T [] [some (4,[vl vint fi,vl vint fo,V.slice ot 0 ts.length,V.slice ob 0 bs.length])]=T0
 have hinv:EInv S T0 [lid S.nx 0,lid T.nx 0,ot] ob bs T0 rs0 ids:=by
  subst hT0
  refine ⟨⟨by rw [jx,lid]; have:=hag0.1; omega,fun o ho => ?_⟩,fun o _=>rfl, ?_, ?_, ?_, ?_, ?_⟩
  ·rw [g0 o _ (by omega),hag0.2 o (by rw [jx,lid]; omega),jk ho]; rfl
  ·intro o ho
   simp only [List.mem_cons,List.not_mem_nil,or_false] at ho
   rcases ho with rfl | rfl | rfl
   ·rw [g0 _ _ h4lt,h4]; rfl
   ·rw [jv]; rfl
   ·rw [g0 _ _ (hlt _ (by simp)),hotg]; rfl
  ·rw [g0 _ _ (hlt ob (by simp))]; exact hob
  ·exact hrows0.mono fun o ho=>g0 o _ (hlt o (by simp [ho]))
  ·have hno : ∀ o,T.nx≤o→o∉ot::ob::ids:=fun o ho hm=>by have:=hlt o hm; omega
   refine List.nodup_cons.2 ⟨?_,List.nodup_cons.2 ⟨hno _ (by simp only [lid]; omega),hnd⟩⟩
   simp only [lid] at h4lt ⊢
   refine fun hm => ?_
   rcases List.mem_cons.1 hm with h | hm
   ·omega
   ·have:=(hids _ hm).1; omega
  ·intro o ho
   simp only [List.cons_append,List.nil_append,List.mem_cons] at ho
   rcases ho with h | h | h | h | h
   ·subst h; simp only [lid]; omega
   ·subst h; simp only [lid]; omega
   ·have:=(hids o (by simp [h])).1; omega
   ·have:=(hids o (by simp [h])).1; omega
   ·have:=(hids o (by simp [h])).1; omega
 have hgH:T0.get (lid T.nx 0)=some (4,[vl vint fi,vl vint fo,V.slice ot 0 ts.length,V.slice ob 0 bs.length]):=by rw [←hT0,jv]; rfl
 have h4H:T0.get (lid S.nx 0)=some (4,[V.nils,V.nils,V.nils,V.nils]):=by rw [←hT0,g0 _ _ h4lt]; exact h4
 have htH:T0.get ot=some (1,ts.map vint):=by rw [←hT0,g0 _ _ (hlt _ (by simp))]; exact hotg
 generalize hp4:lid S.nx 0=p4 at *
 generalize hpg:lid T.nx 0=pg at *
 clear hT0
 repeat refine QS ?_
 refine je [3,4,6,7,8] rfl (fun c σ S' => ∃ (bs1:List Ss.Block) (rs:List (List V)) (ids1:List Nat) (k:Nat),EInv S T0 [p4,pg,ot] ob bs1 S' rs ids1∧bs1=(bs.take k).map (Ss.dBlock need bs)++bs.drop k∧k≤bs.length∧c=bs.length-k∧σ=[(3,(V.agg [vl vint fi,vl vint fo,vl vint ts,vl jc bs]).ref),(4, .ptr p4 0),(6,vl V.bool need),(7, .ptr pg 0),(8,vnat k)]) bs.length ?_ ?_
 ·exact ⟨bs,rs0,ids,0,hinv,by simp,by omega,rfl,by simp [Fr.only,Fr.look]⟩
 ·rintro c σ T1 ⟨bs1,rs,ids1,k,hI,hbs1,hk,rfl,rfl⟩
  refine KP fun hwT1=>zY hwT1 ?_
  have hgT:=(hI.hd pg (by simp)).trans hgH
  have lg:=jr hwT1 hgT
  have bg:=fun u l => @jk T1 u l pg lg
  have lb:=jr hwT1 hI.cb
  have hIb:=hI.cb
  have bb:=fun u l => @jk T1 u l ob lb
  by_cases hkt:k<bs.length
  ·have hw:=jm hkt (by omega)
   have hbl1:bs1.length=bs.length:=by rw [hbs1]; simp; omega
   have hk1:k<bs1.length:=by omega
   have hbk:bs1[k]=bs[k]:=by
    subst hbs1
    rw [List.getElem_append_right (by simp; omega)]
    simp [Nat.min_eq_left (Nat.le_of_lt hkt)]
   have hbm:bs[k]∈bs:=List.getElem_mem hkt
   have d0:=dout _ hbm
   have d1:=done _ hbm
   have d2:=dpar _ hbm
   have d3:=deargs _ hbm
   have d4:=detos _ hbm
   have hbsm:=hsm.2.1 _ hbm
   have hcl2:=hcl _ hbm
   obtain ⟨oc,oe,hcell,hcell4,hoc,hoe,hndo,hputC,_,_⟩:=hI.at hwT1 hk1
   rw [hbk] at hcell hcell4 hoc hoe
   simp only [hbk] at hputC
   obtain ⟨⟨ps,code,⟨tk,ta,to,az⟩⟩,hb⟩ : ∃ b,bs[k]=b:=⟨_,rfl⟩
   rw [hb] at hcell hcell4 hoc hoe hbk d0 d1 d2 d3 d4 hbsm hcl2
   simp only [hb] at hputC
   simp only [Ss.Block.small,Bool.and_eq_true,decide_eq_true_eq,List.all_eq_true] at hbsm
   obtain ⟨⟨⟨⟨s1,s2⟩,s3⟩,s4⟩,s5⟩:=hbsm
   simp only at hcell hcell4 hoc hoe d0 d1 d2 d3 d4 s4 s5 hcl2
   have lc:=jr hwT1 hoc
   have bc:=fun u l => @jk T1 u l oc lc
   generalize hfc:rs.flatten=fc at hIb hcell hcell4 hputC
   have hcl1:k*6+1<fc.length:=(List.getElem?_eq_some_iff.1 hcell).1
   have hcg:fc[k*6+1] = .slice oc 0 code.length:=by have:=hcell; rw [List.getElem?_eq_getElem hcl1] at this; exact Option.some.inj this
   repeat (first|refine QG ?_|refine QY ?_ (r:=by conv=>lhs;simp[-List.map_set,QV,hkt,bg,hgT,bb,hIb]))
   refine qY (b':=T1.nx) hI.old.1 ?_
   refine zA 10 4 rfl (by conv=>lhs; simp [Fr.set]) ?_
   have hwf9:=hwf
   clear hwf
   have hwf:=hwT1
   have hir : ∀ f (l:List Ss.Ins),V.renL f (jo jl l)=jo jl l:=fun f l=>JQ qh f l
   have hii : ∀ p (l:List Ss.Ins),V.idsL p (jo jl l)=true:=fun p l=>JR qh p l
   have gP:=fun ks=>qf (n:=T1.nx) ks lg
   have gT:=fun ks=>jS (n:=T1.nx) ks lg
   have bP:=fun ks=>qf (n:=T1.nx) ks lb
   have bT:=fun ks=>jS (n:=T1.nx) ks lb
   have h42:=(hI.hd p4 (by simp)).trans h4H
   have l4:=jr hwT1 h42
   have p4P:=fun ks=>qf (n:=T1.nx) ks l4
   have p4T:=fun ks=>jS (n:=T1.nx) ks l4
   have hr4:rep0 [V.int .i64 0, .int .u64 0, .nils, .nils] 1=[.int .i64 0, .int .u64 0, .nils, .nils]:=rfl
   repeat refine QS ?_
   refine je [3,4,6,7,8,9,10,11] rfl (fun c σ S' => ∃ (j:Nat) (cs:List Ss.Ins),j≤code.length∧c=code.length-j∧cs++(code.drop j).filter (Ss.dKeep need)=code.filter (Ss.dKeep need)∧cs.length≤j∧σ=[(3,(V.agg [vl vint fi,vl vint fo,vl vint ts,vl jc bs]).ref),(4, .ptr p4 0),(6,vl V.bool need),(7, .ptr pg 0),(8,vnat k),(9, .ptr ob (k*6)),(10, .slice (lid T1.nx 0) 0 cs.length),(11,vnat j)]∧S'=St T1 [] [some (4,jo jl cs)]) code.length ?_ ?_
   ·exact ⟨0,[],by omega,rfl,rfl,by simp,by simp [Fr.only,Fr.look],rfl⟩
   ·rintro c σ T ⟨j,cs,hj,rfl,hcs,hcsl,rfl,rfl⟩
    by_cases hjt:j<code.length
    ·have hwj:=jm hjt (by omega)
     have hxm:code[j]∈code:=List.getElem_mem hjt
     rw [List.drop_eq_getElem_cons hjt] at hcs
     obtain ⟨hat1,hat2⟩:=flatC_at (enc:=jl) (s:=4) (fun x=>by rw [jU]; rfl) hjt
     have x0:=d0 _ hxm
     have x1:=d1 _ hxm
     obtain ⟨⟨op,n,args,outs⟩,hx⟩ : ∃ x,code[j]=x:=⟨_,rfl⟩
     rw [hx] at hcs x0 x1
     rw [hx,jU] at hat2
     simp only at hat2 x0 x1
     have hk0:Ss.dKeep need ⟨op,n,args,outs⟩=(!Ss.pure op||Ss.on need (outs.getD 0 0)):=rfl
     have cp:=RPure_v op
     generalize Ss.pure op=pp at *
     obtain ⟨qv,hqv⟩ : ∃ q,q=pp:=⟨_,rfl⟩
     rw [←hqv] at cp
     have hl1:(jo jl cs).length=cs.length*4:=zx (fun x=>by rw [jU]; rfl) _
     have hb1:(cs.length+1)*64≤140737488355328:=by omega
     have hb2:cs.length+1≤140737488355328:=by omega
     have hs1:jo jl (cs++[⟨op,n,args,outs⟩])=jo jl cs++[.int .i64 op, .int .u64 n,vl vint args,vl vint outs]:=by rw [qZ,jU]; rfl
     have hji:(j:Int)<(code.length:Int):=by omega
     have q0:=YS (q:=0) hat2 (by omega)
     have q3:=YS (q:=3) hat2 (by omega)
     generalize hce:jo jl code=ce at *
     have z0:j*4<ce.length:=by omega
     have z3:j*4+3<ce.length:=by omega
     have w0:ce[j*4] = .int .i64 op:=by rw [Nat.add_zero,List.getElem?_eq_getElem z0] at q0; exact Option.some.inj q0
     have w3:ce[j*4+3]=vl vint outs:=by rw [List.getElem?_eq_getElem z3] at q3; exact Option.some.inj q3
     repeat (first|refine QG ?_|refine QY ?_ (r:=by conv=>lhs;simp[-List.map_set,QV,hjt,bb,hIb,hcg,hcl1,bc,hoc,hji]))
     repeat refine QS ?_
     refine QP ?_ (r:=by conv=>lhs;simp[-List.map_set,QV,bb,hIb,hcg,hcl1,bc,hoc,hji,z0,w0])
     refine jd (cp) (by rfl) ?_
     cases pp with
     | false =>
      rw [List.filter_cons_of_pos (by simp [hk0])] at hcs
      refine QM (by conv=>lhs;simp[-List.map_set,QV,hqv]) ?_
      refine QN ?_
      repeat (first|refine QG ?_|refine QY ?_)
      repeat refine QS ?_
      refine QP ?_ (r:=by conv=>lhs;simp[-List.map_set,QV,bb,hIb,hcg,hcl1,bc,hoc,hji,hat1,hat2,hr4,hl1,hb1,hb2])
      refine QN ?_
      repeat (first|refine QG ?_|refine QY ?_ (r:=by conv=>lhs;simp[-List.map_set,QV,hwj]))
      refine jL [2] (by conv=>lhs; simp [Fr.only]) hwf (by decide) (by simp [-List.map_set,hir,hii,gP,gT,bP,bT,p4P,p4T]) (by conv=>lhs; simp [-List.map_set,hir,hii,gP,gT,bP,bT,p4P,p4T]) (by conv=>lhs; simp [-List.map_set,hir,hii,gP,gT,bP,bT,p4P,p4T]) (by conv=>lhs; simp [-List.map_set,hir,hii,gP,gT,bP,bT,p4P,p4T]) ⟨?_,j+1,cs++[⟨op,n,args,outs⟩],hjt,rfl,by rw [←hcs]; simp,by simp; omega,by simp [Fr.only,Fr.look,hwj],by simp [hs1]⟩
      omega
     | true =>
      obtain ⟨ov,rfl⟩:=x1 rfl
      obtain ⟨v0,v1⟩:=x0 ov (by simp)
      obtain ⟨m,rfl⟩ : ∃ m:Nat,ov=m:=⟨ov.toNat,by omega⟩
      have hmn:m<need.length:=by omega
      have hon:Ss.on need (m:Int)=need[m]:=by rw [Ss.on,List.getD_eq_getElem?_getD,Int.toNat_natCast,List.getElem?_eq_getElem hmn]; rfl
      rw [List.getD_cons_zero,hon] at hk0
      cases hnm:need[m] with
      | true =>
       rw [List.filter_cons_of_pos (by rw [hk0,hnm]; rfl)] at hcs
       refine QM (by conv=>lhs;simp[-List.map_set,QV,hqv,bb,hIb,hcg,hcl1,bc,hoc,hji,z3,w3,hmn,hnm]) ?_
       refine QN ?_
       repeat (first|refine QG ?_|refine QY ?_)
       repeat refine QS ?_
       refine QP ?_ (r:=by conv=>lhs;simp[-List.map_set,QV,bb,hIb,hcg,hcl1,bc,hoc,hji,hat1,hat2,hr4,hl1,hb1,hb2])
       refine QN ?_
       repeat (first|refine QG ?_|refine QY ?_ (r:=by conv=>lhs;simp[-List.map_set,QV,hwj]))
       refine jL [2] (by conv=>lhs; simp [Fr.only]) hwf (by decide) (by simp [-List.map_set,hir,hii,gP,gT,bP,bT,p4P,p4T]) (by conv=>lhs; simp [-List.map_set,hir,hii,gP,gT,bP,bT,p4P,p4T]) (by conv=>lhs; simp [-List.map_set,hir,hii,gP,gT,bP,bT,p4P,p4T]) (by conv=>lhs; simp [-List.map_set,hir,hii,gP,gT,bP,bT,p4P,p4T]) ⟨?_,j+1,cs++[⟨op,n,args,[(m:Int)]⟩],hjt,rfl,by rw [←hcs]; simp,by simp; omega,by simp [Fr.only,Fr.look,hwj],by simp [hs1]⟩
       omega
      | false =>
       rw [List.filter_cons_of_neg (by rw [hk0,hnm]; simp)] at hcs
       refine QM (by conv=>lhs;simp[-List.map_set,QV,hqv,bb,hIb,hcg,hcl1,bc,hoc,hji,z3,w3,hmn,hnm]) ?_
       refine QN ?_
       repeat (first|refine QG ?_|refine QY ?_ (r:=by conv=>lhs;simp[-List.map_set,QV,hwj]))
       refine jL [0] (by conv=>lhs; simp [Fr.only]) hwf (by decide) (by simp [-List.map_set,hir,hii,gP,gT,bP,bT,p4P,p4T]) (by conv=>lhs; simp [-List.map_set,hir,hii,gP,gT,bP,bT,p4P,p4T]) (by conv=>lhs; simp [-List.map_set,hir,hii,gP,gT,bP,bT,p4P,p4T]) (by conv=>lhs; simp [-List.map_set,hir,hii,gP,gT,bP,bT,p4P,p4T]) ⟨?_,j+1,cs,hjt,rfl,hcs,by omega,by simp [Fr.only,Fr.look,hwj],by simp⟩
       omega
    ·have hje:j=code.length:=by omega
     subst hje
     rw [List.drop_length,List.filter_nil,List.append_nil] at hcs
     subst hcs
     have hupb : ∀ c l,(St T1 [] l).upd ob c=St T1 [(ob,some c)] l:=fun c l=>by rw [jP lb]; rfl
     obtain ⟨rs2,ids2,hset,hI2⟩:=hputC (St T1 [(ob,some (6,fc.set (k*6+1) (.slice (lid T1.nx 0) 0 (code.filter (Ss.dKeep need)).length)))] [some (4,jo jl (code.filter (Ss.dKeep need)))]) (lid T1.nx 0) (code.filter (Ss.dKeep need)) (by simp [lid]) (by rw [jx,lid]; omega) (fun o h1 h2=>by rw [jk h1]; simp [uGet,h2]) (by rw [jk lb]; simp [uGet]) (by rw [jv]; rfl)
     repeat (first|refine QG ?_|refine QY ?_ (r:=by conv=>lhs;simp[-List.map_set,QV,hjt,bb,hIb,hcg,hcl1,bc,hoc,hupb]))
     generalize hT2:St T1 [(ob,some (6,fc.set (k*6+1) (.slice (lid T1.nx 0) 0 (code.filter (Ss.dKeep need)).length)))] [some (4,jo jl (code.filter (Ss.dKeep need)))]=T2 at hI2 ⊢
     have hnx2:T1.nx≤T2.nx:=by rw [←hT2,jx,lid]; omega
     clear hT2 hupb hset
     repeat refine QS ?_
     refine je [3,4,6,7,8,9,12] rfl (fun c σ S' => ∃ (rs3:List (List V)) (ids3:List Nat) (j:Nat),T1.nx≤S'.nx∧EInv S T0 [p4,pg,ot] ob (bs1.set k ⟨ps,code.filter (Ss.dKeep need),⟨tk,ta,(to.take j).map (Ss.dEdge need bs)++to.drop j,az⟩⟩) S' rs3 ids3∧j≤to.length∧c=to.length-j∧σ=[(3,(V.agg [vl vint fi,vl vint fo,vl vint ts,vl jc bs]).ref),(4, .ptr p4 0),(6,vl V.bool need),(7, .ptr pg 0),(8,vnat k),(9, .ptr ob (k*6)),(12,vnat j)]) to.length ?_ ?_
     ·exact ⟨rs2,ids2,0,hnx2,by simpa using hI2,by omega,rfl,by simp [Fr.only,Fr.look]⟩
     ·rintro c σ T3 ⟨rs3,ids3,j,hnx3,hI3,hj,rfl,rfl⟩
      refine KP fun hwT3=>zY hwT3 ?_
      have hk3:k<(bs1.set k ⟨ps,code.filter (Ss.dKeep need),⟨tk,ta,(to.take j).map (Ss.dEdge need bs)++to.drop j,az⟩⟩).length:=by simp; omega
      have e0:(bs1.set k ⟨ps,code.filter (Ss.dKeep need),⟨tk,ta,(to.take j).map (Ss.dEdge need bs)++to.drop j,az⟩⟩)[k]'hk3=⟨ps,code.filter (Ss.dKeep need),⟨tk,ta,(to.take j).map (Ss.dEdge need bs)++to.drop j,az⟩⟩:=List.getElem_set_self _
      obtain ⟨oc3,oe3,_,hcell3,_,hoe3,hnd3,_,hputP,hputE⟩:=hI3.at hwT3 hk3
      rw [e0] at hcell3 hoe3
      simp only [e0,List.set_set] at hputP hputE
      simp only at hcell3 hoe3
      have htl:((to.take j).map (Ss.dEdge need bs)++to.drop j).length=to.length:=by simp; omega
      rw [htl] at hcell3
      have hIb3:=hI3.cb
      have lb3:=jr hwT3 hIb3
      have le3:=jr hwT3 hoe3
      have bb3:=fun u l => @jk T3 u l ob lb3
      have be3:=fun u l => @jk T3 u l oe3 le3
      have hobe:ob≠oe3:=by
       have:=(List.nodup_append.1 hnd3).2.1
       simp only [List.nodup_cons,List.mem_cons,List.not_mem_nil,or_false,not_or] at this
       exact this.1.2
      generalize hfc3:rs3.flatten=fc3 at hIb3 hcell3 hputP
      have hcell3':fc3[k*6+2+2]? = some (.slice oe3 0 to.length):=hcell3
      have hcl3:k*6+2+2<fc3.length:=(List.getElem?_eq_some_iff.1 hcell3').1
      have hcg3:fc3[k*6+2+2] = .slice oe3 0 to.length:=by have:=hcell3'; rw [List.getElem?_eq_getElem hcl3] at this; exact Option.some.inj this
      have gP:=fun ks=>qf (n:=T3.nx) ks (jr hwT3 ((hI3.hd pg (by simp)).trans hgH))
      have gT:=fun ks=>jS (n:=T3.nx) ks (jr hwT3 ((hI3.hd pg (by simp)).trans hgH))
      have bP:=fun ks=>qf (n:=T3.nx) ks lb3
      have bT:=fun ks=>jS (n:=T3.nx) ks lb3
      have p4P:=fun ks=>qf (n:=T3.nx) ks (jr hwT3 ((hI3.hd p4 (by simp)).trans h4H))
      have p4T:=fun ks=>jS (n:=T3.nx) ks (jr hwT3 ((hI3.hd p4 (by simp)).trans h4H))
      have hwf8:=hwf
      clear hwf
      have hwf:=hwT3
      by_cases hjt:j<to.length
      ·have hwj:=jm hjt (by omega)
       have hem:to[j]∈to:=List.getElem_mem hjt
       have hj2:j<((to.take j).map (Ss.dEdge need bs)++to.drop j).length:=by omega
       have hgj:((to.take j).map (Ss.dEdge need bs)++to.drop j)[j]=to[j]:=by
        rw [List.getElem_append_right (by simp; omega)]
        simp [Nat.min_eq_left (Nat.le_of_lt hjt)]
       have x0:=d3 _ hem
       obtain ⟨y0,y1,y2⟩:=d4 _ hem
       have hes:=fun l=>edges_set (l:=l) hj2
       rw [hgj] at hes
       obtain ⟨hat1,hat2⟩:=flatC_at (enc:=jh) (s:=2) (fun x=>by rw [jH]; rfl) hj2
       rw [hgj] at hat2
       obtain ⟨⟨et,ea⟩,hx⟩ : ∃ x,to[j]=x:=⟨_,rfl⟩
       rw [hx] at x0 y0 y1 y2 hes
       rw [hx,jH] at hat2
       simp only at x0 y0 y1 y2 hat2 hes
       obtain ⟨q,rfl⟩ : ∃ q:Nat,et=q:=⟨et.toNat,by omega⟩
       have hq:q<bs.length:=by omega
       have hgd:bs.getD ((q:Int)).toNat default=bs[q]:=by rw [List.getD_eq_getElem?_getD,Int.toNat_natCast,List.getElem?_eq_getElem hq]; rfl
       have hqm:bs[q]∈bs:=List.getElem_mem hq
       have hpr:=dpar _ hqm
       have hpl:bs[q].params.length≤4096:=by
        have:=hsm.2.1 _ hqm
        simp only [Ss.Block.small,Bool.and_eq_true,decide_eq_true_eq] at this
        exact this.1.1.1.1
       have hde:Ss.dEdge need bs to[j]=⟨(q:Int),((bs[q].params.zip ea).filter fun z=>Ss.on need z.1).map Prod.snd⟩:=by rw [hx,Ss.dEdge,hgd]
       rw [hgd] at y2
       obtain ⟨⟨qs,qc,qt⟩,hb2⟩ : ∃ b,bs[q]=b:=⟨_,rfl⟩
       rw [hb2] at y2 hpr hpl hde
       obtain ⟨qt1,qt2,qt3,qt4⟩:=qt
       simp only at y2 hpr hpl hde
       have q0:=YS (q:=0) hat2 (by omega)
       have q1:=YS (q:=1) hat2 (by omega)
       generalize hce:jo jh ((to.take j).map (Ss.dEdge need bs)++to.drop j)=ce at hoe3 hes hat1 hat2 q0 q1
       have z0:j*2<ce.length:=by omega
       have z1':j*2+1<ce.length:=by omega
       have w0:ce[j*2]=vint q:=by rw [Nat.add_zero,List.getElem?_eq_getElem z0] at q0; exact Option.some.inj q0
       have w1:ce[j*2+1]=vl vint ea:=by rw [List.getElem?_eq_getElem z1'] at q1; exact Option.some.inj q1
       have hset:((to.take j).map (Ss.dEdge need bs)++to.drop j).set j (Ss.dEdge need bs to[j])=(to.take (j+1)).map (Ss.dEdge need bs)++to.drop (j+1):=by
        rw [List.set_append_right _ _ (by simp; omega),List.length_map,List.length_take,Nat.min_eq_left (Nat.le_of_lt hjt),Nat.sub_self,List.drop_eq_getElem_cons hjt,List.set_cons_zero,List.take_add_one,List.getElem?_eq_getElem hjt,List.map_append,List.append_assoc]
        simp only [Option.toList_some,List.map_cons,List.map_nil,List.cons_append,List.nil_append]
       have eP:=fun ks=>qf (n:=T3.nx) ks le3
       have eT:=fun ks=>jS (n:=T3.nx) ks le3
       repeat (first|refine QG ?_|refine QY ?_ (r:=by conv=>lhs;simp[-List.map_set,QV,hjt,bb3,hIb3,hcg3,hcl3,be3,hoe3]))
       repeat refine QS ?_
       refine QD (r:=by conv=>lhs;simp[-List.map_set,QV,bb3,hIb3,hcg3,hcl3,be3,hoe3,z0,w0,hjt,hq,hb2]) (k:=?_)
       refine QN ?_
       repeat (first|refine QG ?_|refine QY ?_)
       refine qY (b':=T3.nx) hI3.old.1 ?_
       refine zA 14 1 rfl (by conv=>lhs; simp [Fr.set]) ?_
       repeat refine QS ?_
       refine je [3,4,6,7,8,9,12,13,14,15] rfl (fun c σ S' => ∃ (i:Nat) (out:List Int),i≤qs.length∧out=(((qs.zip ea).take i).filter fun z=>Ss.on need z.1).map Prod.snd∧out.length≤i∧c=qs.length-i∧σ=[(3,(V.agg [vl vint fi,vl vint fo,vl vint ts,vl jc bs]).ref),(4, .ptr p4 0),(6,vl V.bool need),(7, .ptr pg 0),(8,vnat k),(9, .ptr ob (k*6)),(12,vnat j),(13,vl vint qs),(14, .slice (lid T3.nx 0) 0 out.length),(15,vnat i)]∧S'=St T3 [] [some (1,out.map vint)]) qs.length ?_ ?_
       ·exact ⟨0,[],by omega,rfl,by simp,rfl,by simp [Fr.only],by simp⟩
       ·rintro c σ T ⟨i,out,hi,hout,hol,rfl,rfl,rfl⟩
        by_cases hit:i<qs.length
        ·have hwi:=jm hit (by omega)
         have hie:i<ea.length:=by omega
         have hiz:i<(qs.zip ea).length:=by rw [List.length_zip]; omega
         have htk:(qs.zip ea).take (i+1)=(qs.zip ea).take i++[(qs[i],ea[i])]:=by rw [List.take_add_one,List.getElem?_eq_getElem hiz,List.getElem_zip]; rfl
         obtain ⟨v0,v1⟩:=hpr qs[i] (List.getElem_mem hit)
         obtain ⟨m,hqi⟩ : ∃ m:Nat,qs[i]=(m:Int):=⟨qs[i].toNat,by omega⟩
         obtain ⟨a,hai⟩ : ∃ a,ea[i]=a:=⟨_,rfl⟩
         rw [hqi] at v0 v1
         have hmn:m<need.length:=by omega
         have hon:Ss.on need (m:Int)=need[m]:=by rw [Ss.on,List.getD_eq_getElem?_getD,Int.toNat_natCast,List.getElem?_eq_getElem hmn]; rfl
         have hout2:(((qs.zip ea).take (i+1)).filter fun z=>Ss.on need z.1).map Prod.snd=if need[m] then out++[a] else out:=by
          rw [htk,List.filter_append,List.map_append, ←hout,hqi,hai, ←hon]
          cases hb:Ss.on need (m:Int)<;>simp only [List.filter_cons,List.filter_nil,hb,if_true,Bool.false_eq_true,if_false,List.map_cons,List.map_nil,List.append_nil]
         cases hnm:need[m] with
         | false =>
          rw [hnm] at hout2
          simp only [Bool.false_eq_true,if_false] at hout2
          repeat (first|refine QG ?_|refine QY ?_ (r:=by conv=>lhs;simp[-List.map_set,QV,hit,hqi,hmn,hnm,hwi]))
          show jt _ _ _ _ _ _ _
          exact again ⟨Nat.sub_lt_sub_left hit (Nat.lt_succ_self i),i+1,out,hit,hout2.symm,by omega,rfl,by simp [Fr.only,Fr.look],rfl⟩
         | true =>
          rw [hnm] at hout2
          simp only [if_true] at hout2
          have hb8:(out.length+1)*8≤140737488355328:=by omega
          have hb1:out.length+1≤140737488355328:=by omega
          repeat (first|refine QG ?_|refine QY ?_ (r:=by conv=>lhs;simp[-List.map_set,QV,hit,hqi,hmn,hnm,hwi,bb3,hIb3,hcg3,hcl3,be3,hoe3,z1',w1,hjt,hie,hai,hb8,hb1]))
          refine jL [2] (by conv=>lhs; simp [Fr.only]) hwf (by decide) (by simp [-List.map_set,eP,eT,bP,bT,gP,gT,p4P,p4T]) (by conv=>lhs; simp [-List.map_set,eP,eT,bP,bT,gP,gT,p4P,p4T]) (by conv=>lhs; simp [-List.map_set,eP,eT,bP,bT,gP,gT,p4P,p4T]) (by conv=>lhs; simp [-List.map_set,eP,eT,bP,bT,gP,gT,p4P,p4T]) ⟨?_,i+1,out++[a],hit,hout2.symm,by simp; omega,rfl,by simp [Fr.only,Fr.look],by simp⟩
          omega
        ·have hie:i=qs.length:=by omega
         subst hie
         rw [List.take_of_length_le (by rw [List.length_zip]; omega)] at hout
         have hupe : ∀ c l,(St T3 [] l).upd oe3 c=St T3 [(oe3,some c)] l:=fun c l=>by rw [jP le3]; rfl
         repeat (first|refine QG ?_|refine QY ?_ (r:=by conv=>lhs;simp[-List.map_set,QV,hit]))
         refine js [3,4,6,7,8,9,12,14] (by conv=>lhs; simp [Fr.only,Fr.look]) ?_
         refine ji 14 rfl ((frz1 (k:=0) (len:=out.length) (by simp) rfl (jJ vint (fun _=>rfl) _) (by simp))) (by conv=>lhs; simp [Fr.set]) ?_
         simp only [List.set_cons_zero]
         repeat (first|refine QG ?_|refine QY ?_ (r:=by conv=>lhs;simp[-List.map_set,QV,bb3,hIb3,hcg3,hcl3,be3,hoe3,hjt,z1',hupe,hwj]))
         have hde2:Ss.dEdge need bs to[j]=⟨(q:Int),out⟩:=by rw [hde, ←hout]
         rw [hde2] at hset
         have hI4:=hputE (St T3 [(oe3,some (2,ce.set (j*2+1) (V.list (out.map vint))))] [none]) (((to.take j).map (Ss.dEdge need bs)++to.drop j).set j ⟨(q:Int),out⟩) (by rw [List.length_set]) (by rw [jx,lid]; omega) (fun o h1 h2=>by rw [jk h1]; simp [uGet,h2]) (by
          rw [jk le3, ←hes out]; simp [uGet]; rfl)
         rw [hset] at hI4
         show jt _ _ _ _ _ _ _
         exact again ⟨Nat.sub_lt_sub_left hjt (Nat.lt_succ_self j),rs3,ids3,j+1,by rw [jx,lid]; omega,hI4,hjt,rfl,by simp [Fr.only,Fr.look]⟩
      ·have hje:j=to.length:=by omega
       subst hje
       rw [List.take_length,List.drop_length,List.append_nil] at hoe3
       simp only [List.take_length,List.drop_length,List.append_nil] at hputP
       repeat (first|refine QG ?_|refine QY ?_ (r:=by conv=>lhs;simp[-List.map_set,QV,hjt,bb3,hIb3,hcg3,hcl3,be3,hoe3]))
       refine qY (b':=T3.nx) hI3.old.1 ?_
       refine zA 16 1 rfl (by conv=>lhs; simp [Fr.set]) ?_
       repeat refine QS ?_
       refine je [3,4,6,7,8,9,16,17] rfl (fun c σ S' => ∃ (i:Nat) (out:List Int),i≤ps.length∧out=(ps.take i).filter (Ss.on need)∧out.length≤i∧c=ps.length-i∧σ=[(3,(V.agg [vl vint fi,vl vint fo,vl vint ts,vl jc bs]).ref),(4, .ptr p4 0),(6,vl V.bool need),(7, .ptr pg 0),(8,vnat k),(9, .ptr ob (k*6)),(16, .slice (lid T3.nx 0) 0 out.length),(17,vnat i)]∧S'=St T3 [] [some (1,out.map vint)]) ps.length ?_ ?_
       ·exact ⟨0,[],by omega,rfl,by simp,rfl,by simp [Fr.only,Fr.look],by simp⟩
       ·rintro c σ T ⟨i,out,hi,hout,hol,rfl,rfl,rfl⟩
        by_cases hit:i<ps.length
        ·have hwi:=jm hit (by omega)
         have htk:ps.take (i+1)=ps.take i++[ps[i]]:=by rw [List.take_add_one,List.getElem?_eq_getElem hit]; rfl
         obtain ⟨v0,v1⟩:=d2 ps[i] (List.getElem_mem hit)
         obtain ⟨m,hqi⟩ : ∃ m:Nat,ps[i]=(m:Int):=⟨ps[i].toNat,by omega⟩
         rw [hqi] at v0 v1
         have hmn:m<need.length:=by omega
         have hon:Ss.on need (m:Int)=need[m]:=by rw [Ss.on,List.getD_eq_getElem?_getD,Int.toNat_natCast,List.getElem?_eq_getElem hmn]; rfl
         have hout2:(ps.take (i+1)).filter (Ss.on need)=if need[m] then out++[(m:Int)] else out:=by
          rw [htk,List.filter_append, ←hout,hqi, ←hon]
          cases hb:Ss.on need (m:Int)<;>simp only [List.filter_cons,List.filter_nil,hb,if_true,Bool.false_eq_true,if_false,List.append_nil]
         cases hnm:need[m] with
         | false =>
          rw [hnm] at hout2
          simp only [Bool.false_eq_true,if_false] at hout2
          repeat (first|refine QG ?_|refine QY ?_ (r:=by conv=>lhs;simp[-List.map_set,QV,hkt,hb,hit,hqi,hmn,hnm,hwi]))
          show jt _ _ _ _ _ _ _
          exact again ⟨Nat.sub_lt_sub_left hit (Nat.lt_succ_self i),i+1,out,hit,hout2.symm,by omega,rfl,by simp [Fr.only,Fr.look],rfl⟩
         | true =>
          rw [hnm] at hout2
          simp only [if_true] at hout2
          have hb8:(out.length+1)*8≤140737488355328:=by omega
          have hb1:out.length+1≤140737488355328:=by omega
          repeat (first|refine QG ?_|refine QY ?_ (r:=by conv=>lhs;simp[-List.map_set,QV,hkt,hb,hit,hqi,hmn,hnm,hwi,hb8,hb1]))
          refine jL [2] (by conv=>lhs; simp [Fr.only]) hwf (by decide) (by simp [-List.map_set,bP,bT,gP,gT,p4P,p4T]) (by conv=>lhs; simp [-List.map_set,bP,bT,gP,gT,p4P,p4T]) (by conv=>lhs; simp [-List.map_set,bP,bT,gP,gT,p4P,p4T]) (by conv=>lhs; simp [-List.map_set,bP,bT,gP,gT,p4P,p4T]) ⟨?_,i+1,out++[(m:Int)],hit,hout2.symm,by simp; omega,rfl,by simp [Fr.only,Fr.look],by simp⟩
          omega
        ·have hie:i=ps.length:=by omega
         subst hie
         rw [List.take_length] at hout
         have hupp : ∀ c l,(St T3 [] l).upd ob c=St T3 [(ob,some c)] l:=fun c l=>by rw [jP lb3]; rfl
         have hcp0:k*6<fc3.length:=by omega
         repeat (first|refine QG ?_|refine QY ?_ (r:=by conv=>lhs;simp[-List.map_set,QV,hkt,hb,hit]))
         refine js [3,4,6,7,8,9,16] (by conv=>lhs; simp [Fr.only,Fr.look]) ?_
         refine ji 16 rfl ((frz1 (k:=0) (len:=out.length) (by simp) rfl (jJ vint (fun _=>rfl) _) (by simp))) (by conv=>lhs; simp [Fr.set]) ?_
         simp only [List.set_cons_zero]
         repeat (first|refine QG ?_|refine QY ?_ (r:=by conv=>lhs;simp[-List.map_set,QV,bb3,hIb3,hcp0,hupp,hw]))
         obtain ⟨rs4,ids4,hset4,hI4⟩:=hputP (St T3 [(ob,some (6,fc3.set (k*6) (V.list (out.map vint))))] [none]) out (by rw [jx,lid]; omega) (fun o h1 h2=>by rw [jk h1]; simp [uGet,h2]) (by rw [jk lb3]; simp [uGet]; rfl)
         have hsetB:bs1.set k ⟨out,code.filter (Ss.dKeep need),⟨tk,ta,to.map (Ss.dEdge need bs),az⟩⟩=(bs.take (k+1)).map (Ss.dBlock need bs)++bs.drop (k+1):=by
          rw [hbs1,List.set_append_right _ _ (by simp; omega),List.length_map,List.length_take,Nat.min_eq_left (Nat.le_of_lt hkt),Nat.sub_self,List.drop_eq_getElem_cons hkt,List.set_cons_zero,List.take_add_one,List.getElem?_eq_getElem hkt,List.map_append,List.append_assoc,hout]
          simp only [Option.toList_some,List.map_cons,List.map_nil,List.cons_append,List.nil_append,hb]
          rfl
         rw [hsetB] at hI4
         show jt _ _ _ _ _ _ _
         exact again ⟨Nat.sub_lt_sub_left hkt (Nat.lt_succ_self k),_,rs4,ids4,k+1,hI4,rfl,hkt,rfl,by simp [Fr.only,Fr.look]⟩
  ·have hke:k=bs.length:=by omega
   subst hke
   rw [List.take_length,List.drop_length,List.append_nil] at hbs1
   subst hbs1
   have h42:=(hI.hd p4 (by simp)).trans h4H
   have l4:=jr hwT1 h42
   have b4:=fun u l => @jk T1 u l p4 l4
   have h4g:pg≠p4:=fun e=>by have:=hI.nd; simp [e] at this
   repeat (first|refine QG ?_|refine QY ?_ (r:=by conv=>lhs;simp[-List.map_set,QV,hkt,bg,b4,bb,hIb,hgT,h42,h4g]))
   rw [jQ hwT1]
   have hg4:(T1.upd p4 (4,[vl vint fi,vl vint fo,V.slice ot 0 ts.length,V.slice ob 0 bs.length])).get p4=some (4,[vl vint fi,vl vint fo,V.slice ot 0 ts.length,V.slice ob 0 bs.length]):=zp
   refine YI (xs:=[.agg [vl vint fi,vl vint fo, .slice ot 0 ts.length, .slice ob 0 bs.length], .int .i64 0]) (by simp [hg4]) ?_
   have hall:=hI.all_lt hwT1
   obtain ⟨old,hd',al,cb,own,nd,lt⟩:=hI
   have hw5:(T1.upd p4 (4,[vl vint fi,vl vint fo,V.slice ot 0 ts.length,V.slice ob 0 bs.length])).Wf:=Zf hwT1 l4 (hwT1.ids pg _ hgT)
   simp only [List.cons_append,List.nil_append] at nd lt hall
   have nd2:=nd
   simp only [List.nodup_cons,List.mem_cons,not_or] at nd2
   obtain ⟨⟨a1,a2,a3,a4⟩,⟨c1,c2,c3⟩,⟨k1,k2⟩,k3,nd3⟩:=nd2
   refine qE ⟨_,rfl,⟨old.1,fun o ho => ?_⟩,hw5,ot,ob,rs.flatten,ids1, ?_, ?_, ?_, ?_, ?_, ?_⟩
   ·have:=lt p4 (by simp)
    rw [jI (by omega)]; exact old.2 o ho
   ·simp
   ·rw [jI (fun e=>a2 e.symm),hd' ot (by simp)]; exact htH
   ·rw [jI (fun e=>a3 e.symm)]; exact cb
   ·exact own.owl.mono fun o ho=>jI fun e=>a4 (e▸ho)
   ·exact List.Sublist.nodup (.cons _ (.cons _ (List.Sublist.refl _))) nd
   ·intro o ho
    have hm:o∈p4::pg::ot::ob::ids1:=by
     simp only [List.mem_cons] at ho ⊢
     exact .inr (.inr ho)
    exact ⟨lt o hm,hall o hm⟩
end Go.Vw

namespace Go.Vw
open Go.Proofs Go.RowKit
set_option maxRecDepth 10000
set_option maxHeartbeats 2000000
theorem fn_ghostE {S:Store} {fi fo ts:List Int} {bs:List Ss.Block} {cells:List V} {ot ob n m:Nat} {ids:List Nat} (h:OwL S (reps n blkE) cells (jo jc bs) ids) (hb:S.get ob=some (6,cells)) (hn:bs.length=n) (ht:S.get ot=some (1,ts.map vint)) (hm:ts.length=m) (hd:(ot::ob::ids).Nodup) :
  Ghost (.agg [vl vint fi,vl vint fo, .slice ot 0 m, .slice ob 0 n]) S (.agg [vl vint fi,vl vint fo,vl vint ts,vl jc bs]) (S.dels (ot::ob::ids)):=by
 subst hn
 subst hm
 refine ZQ ?_
 have hw:OwL S [.c, .c, .s (List.replicate 1 .c), .s blkE] [vl vint fi,vl vint fo, .slice ot 0 ts.length, .slice ob 0 bs.length] [vl vint fi,vl vint fo,vl vint ts,vl jc bs] (ot::ob::ids):=by
  refine .c rfl (.c rfl (OwL.slice (enc:=vint) (fun _=>rfl) (fun _=>rfl) ts (by rw [qq]; exact ht) ?_))
  have:=OwL.s (S:=S) (o:=ob) (tys:=blkE) (cells:=cells) (ys:=bs.map jc) (i:=ids) (j:=[]) hb (fun y hy=>(by
   obtain ⟨b,_,rfl⟩:=List.mem_map.1 hy
   exact ⟨by rw [jB]; rfl,Js b⟩)) (by rw [List.length_map,qJ]; exact h) .nil
  rw [List.length_map,List.append_nil] at this
  exact this
 exact hw.freeze hd S fun _ _=>rfl
theorem RDceErr_v (e:Ss.Env) (f:Ss.Fn) (he:e.Fits) (hf:f.Fits) (hc:Ss.check e f=false):VPure Tryz.prog 11 [zh e,qx f] (.tuple [qx Ss.emptyFn,vint 6]):=by
 intro S
 have cck:=jbL e f he hf
 rw [Ss.check_agrees hf] at cck
 generalize Ss.check e f=ck at *
 obtain ⟨⟨fi,fo⟩,ts,bs⟩:=f
 obtain ⟨sg,im,gl,mu,me⟩:=e
 have cck':VPure Tryz.prog 14 [.agg [vl jC sg,vint im,vl vint gl,vl V.bool mu, .bool me], .agg [vl vint fi,vl vint fo,vl vint ts,vl jc bs]] (.bool ck):=cck
 refine qe (c:=jg Tryz.f11) Tryz.func11 rfl (by conv=>lhs; reduce) (by simp [Tryz.ntmps11]) ?_
 rw [Tryz.ntmps11]
 intro hwf
 repeat refine QS ?_
 refine QP ?_
 refine QN ?_
 refine ji 2 rfl ((qS (k:=0) (by simp) (by rfl) (by rfl) (by simp))) (by conv=>lhs; simp [Fr.set]) ?_
 simp only [List.set_cons_succ,List.set_cons_zero]
 refine ji 3 rfl ((qS (k:=1) (by simp) (by rfl) (by rfl) (by simp))) (by conv=>lhs; simp [Fr.set]) ?_
 simp only [List.set_cons_succ,List.set_cons_zero]
 refine js [2,3,4,5] (by conv=>lhs; simp [Fr.only,Fr.look]) ?_
 refine zL [2] hwf (by decide) (by simp [-List.map_set]) (by conv=>lhs; simp [-List.map_set]) (by conv=>lhs; simp [-List.map_set]) (by conv=>lhs; simp [-List.map_set]) ?_
 repeat refine QS ?_
 refine QP ?_
 refine jd (cck') (by rfl) ?_
 refine QM (by conv=>lhs;simp[-List.map_set,QV,hc]) ?_
 refine QN ?_
 repeat (first|refine QG ?_|refine QY ?_ (r:=by conv=>lhs;simp[-List.map_set,QV,hc]))
 refine YI (xs:=[.agg [.nils, .nils, .nils, .nils], .int .i64 6]) (by simp) ?_
 exact zn hwf ((Ghost.tuple [] [_] (ZW _)).toB _) Jj (by rfl)
theorem RDceP_v (e:Ss.Env) (f:Ss.Fn) (he:e.Fits) (hf:f.Fits):VPure Tryz.prog 11 [zh e,qx f] (.tuple [qx (Ss.dceOut e f).1,vint (Ss.dceOut e f).2]):=by
 cases hc:Ss.check e f with
 | false=>rw [Ss.dceOut_f hc]; exact RDceErr_v e f he hf hc
 | true =>
  rw [Ss.dceOut_t hc]
  intro S
  have hr:=RDce_v S e f he hf hc
  refine zZ fun hwf=>qQ (hr.mono ?_)
  rintro r T ⟨r',rfl,hag,hwT,ot,ob,cells,ids,rfl,hot,hob,how,hnd,hids⟩
  have hg:=fn_ghostE (fi:=f.sig.inn) (fo:=f.sig.out) how hob rfl hot rfl hnd
  have hfin:Agree S (T.dels (ot::ob::ids)):=by
   refine ⟨by rw [Wi]; exact hag.1,fun o ho => ?_⟩
   rw [JH,if_neg]
   ·exact hag.2 o ho
   ·intro hm
    have:=(hids o hm).1; omega
  exact zn hwf ((Ghost.tuple [] [_] hg).toB _) hfin (by simp [qx])
end Go.Vw

namespace Ss
def smallB:Fn:=⟨⟨[127,127],[127]⟩,[127,127],[⟨[0,1],[⟨258,0,[],[]⟩,⟨257,8,[0],[]⟩,⟨257,4,[0],[]⟩,⟨257,4,[1],[]⟩],⟨4,0,[],[0]⟩⟩]⟩
def smallB':Fn:=⟨⟨[127,127],[127]⟩,[127,127],[⟨[0,1],[⟨258,0,[],[]⟩,⟨257,8,[0],[]⟩,⟨257,4,[1],[]⟩],⟨4,0,[],[0]⟩⟩]⟩
def envB:Env:=⟨[],0,[],[],true⟩
end Ss
namespace Go.Vw
open Go.Proofs Go.RowKit
set_option maxRecDepth 10000
set_option maxHeartbeats 8000000
theorem ghost_single {x x':V} {S S':Store} (h:GhostArgs [x] S [x'] S'):Ghost x S x' S':=by
 intro m β w v hS hr
 obtain ⟨m',β',h1,h2,h3⟩:=h m β w [v] hS ((RepL.nil m β).cons hr)
 exact ⟨m',β',h1,h2,h3.2 0 x' v rfl rfl⟩
end Go.Vw
