import Derived.Test.YtenhhokhkkfgbaaGreatC40
import Derived.Test.YtenhhokhkkfgbaaGreatC37
import Derived.Test.YtenhhokhkkfgbaaGreatC29
import Derived.Test.YtenhhokhkkfgbaaGreatC30
/-
  Part of the proof (texts DClo, DRunV, DPure).
-/
set_option linter.unusedVariables false
set_option linter.unusedSimpArgs false
namespace Ss
def dKeepO (need:List Bool) (op:Int) (outs:List Int):Bool := !pure op||on need (outs.getD 0 0)
end Ss
namespace Go.Vw
open Go.Proofs Go.RowKit
set_option maxRecDepth 10000
set_option maxHeartbeats 2000000
theorem DClo2_v (need:List Bool) (v:Int) (hv:Ss.InR need.length v):VPure Tryz.prog 31 [vint v, .ref (.list (need.map V.bool))] (.bool (!Ss.on need v)):=by
 intro S
 obtain ⟨v0,v1⟩:=hv
 obtain ⟨m,rfl⟩ : ∃ m:Nat,v=m:=⟨v.toNat,by omega⟩
 have hm:m<need.length:=by omega
 have hon:Ss.on need (m:Int)=need[m]:=by rw [Ss.on,List.getD_eq_getElem?_getD,Int.toNat_natCast,List.getElem?_eq_getElem hm]; rfl
 rw [hon]
 have e:V.list (need.map V.bool)=vl V.bool need:=rfl
 rw [e]
 refine jb (c:=jg Tryz.f31) Tryz.func31 rfl rfl (by simp [Tryz.ntmps31]) ?_
 rw [Tryz.ntmps31]
 intro hwf
 repeat (first|refine QG ?_|refine QY ?_ (r:=by conv=>lhs;simp[-List.map_set,QV,hm]))
 exact ja hwf (by simp) rfl
theorem DClo1_v (need:List Bool) (S:Store) (x:Ss.Ins) (oa ou:Nat) (hx:x.Fits) (hp:Ss.pure x.op=true → ∃ o,x.outs=[o]) (hr : ∀ v∈x.outs,Ss.InR need.length v) (gu:S.get ou=some (1,x.outs.map vint)) :
  VCalls Tryz.prog 28 [.agg [vint x.op,vu x.n, .slice oa 0 x.args.length, .slice ou 0 x.outs.length], .ref (.list (need.map V.bool))] S fun v T=>v = .bool (!Ss.dKeepO need x.op x.outs)∧T=S:=by
 have cp:=Pure_v x.op hx.1
 have e:V.list (need.map V.bool)=vl V.bool need:=rfl
 rw [e]
 obtain ⟨op,n,args,outs⟩:=x
 simp only at *
 generalize hpp:Ss.pure op=pp at *
 refine jb (c:=jg Tryz.f28) Tryz.func28 rfl rfl (by simp [Tryz.ntmps28]) ?_
 rw [Tryz.ntmps28]
 intro hwf
 have lu:=jr hwf gu
 have bu:=fun u m => @jk S u m ou lu
 cases pp with
 | false =>
  obtain ⟨q,hq⟩ : ∃ q,q=false:=⟨_,rfl⟩
  rw [←hq] at cp
  repeat refine QS ?_
  refine QP ?_
  refine QN ?_
  repeat refine QS ?_
  refine QD (r:=by conv=>lhs;simp[-List.map_set,QV]) (k:=?_)
  refine jd (cp) (by rfl) ?_
  refine QM (by conv=>lhs;simp[-List.map_set,QV,hq]) ?_
  refine QN ?_
  repeat (first|refine QG ?_|refine QY ?_)
  exact done_gc [] hwf (by decide) (by simp) (by simp [gcL]) rfl ⟨by simp [Ss.dKeepO,hpp],jQ hwf⟩
 | true =>
  obtain ⟨o,rfl⟩:=hp rfl
  obtain ⟨v0,v1⟩:=hr o (by simp)
  obtain ⟨m,rfl⟩ : ∃ m:Nat,o=m:=⟨o.toNat,by omega⟩
  have hm:m<need.length:=by omega
  have hon:Ss.on need (m:Int)=need[m]:=by rw [Ss.on,List.getD_eq_getElem?_getD,Int.toNat_natCast,List.getElem?_eq_getElem hm]; rfl
  have hk:Ss.dKeepO need op [(m:Int)]=need[m]:=by rw [Ss.dKeepO,hpp,List.getD_cons_zero,hon]; rfl
  obtain ⟨q,hq⟩ : ∃ q,q=true:=⟨_,rfl⟩
  rw [←hq] at cp
  rw [hk]
  repeat refine QS ?_
  refine QP ?_
  refine QN ?_
  repeat refine QS ?_
  refine QD (r:=by conv=>lhs;simp[-List.map_set,QV]) (k:=?_)
  refine jd (cp) (by rfl) ?_
  refine QM (by conv=>lhs;simp[-List.map_set,QV,hq,bu,gu,hm]) ?_
  refine QN ?_
  repeat (first|refine QG ?_|refine QY ?_)
  exact done_gc [] hwf (by decide) (by simp) (by simp [gcL]) rfl ⟨rfl,jQ hwf⟩
end Go.Vw

namespace Go.Vw
open Go.Proofs Go.RowKit
set_option maxRecDepth 10000
set_option pp.deepTerms true
set_option maxHeartbeats 4000000
theorem DceRun_v (S:Store) (e:Ss.Env) (f:Ss.Fn) (he:e.Fits) (hf:f.Fits) (hc:Ss.check e f=true):VCalls Tryz.prog 10 [zh e,qx f] S fun r T => ∃ r',r = .tuple [r',vint 0]∧jak S (Ss.dceF f) r' T:=by
 have hs:=Ss.check_small hc
 have hd:=Ss.check_dok hc
 have hnl:=Ss.dNeed_len hd
 have cck:=Check_v e f he hf
 have crp:=fun S=>SReplace_v S f [] hf hs (by simp)
 have cne:=Needed_v e f hf hc
 have hfb : ∀ b∈f.blocks,b.Fits:=hf.2.2.2
 have hsm:=(Ss.small_iff f).1 hs
 have hh:=hsm.1
 simp only [Ss.Fn.heads,Bool.and_eq_true,decide_eq_true_eq] at hh
 obtain ⟨⟨⟨hh1,hh2⟩,_⟩,_⟩:=hh
 simp only [Ss.replace_nil] at crp
 have hres:Ss.dceF f=⟨f.sig,f.types,f.blocks.map (Ss.dBlock (Ss.dNeed f) f.blocks)⟩:=rfl
 rw [hres]
 generalize Ss.check e f=ck at *
 generalize Ss.dNeed f=need at *
 obtain ⟨_,dout,done,_,dpar,_,_,deargs,detos,_,_⟩:=hd
 obtain ⟨⟨fi,fo⟩,ts,bs⟩:=f
 obtain ⟨sg,im,gl,mu,me⟩:=e
 simp only at *
 rw [←hnl] at dout dpar deargs
 have cck':VPure Tryz.prog 24 [.agg [vl jC sg,vint im,vl vint gl,vl V.bool mu, .bool me], .agg [vl vint fi,vl vint fo,vl vint ts,vl jc bs]] (.bool ck):=cck
 have cne':VPure Tryz.prog 25 [.agg [vl vint fi,vl vint fo,vl vint ts,vl jc bs]] (vl V.bool need):=cne
 have crp' : ∀ S,VCalls Tryz.prog 26 [.agg [vl vint fi,vl vint fo,vl vint ts,vl jc bs], .nils] S (jak S ⟨⟨fi,fo⟩,ts,bs⟩):=fun S=>by
  refine jV (GhostArgs.one [_] [] (Ghost.nils_list S)) ?_
  exact crp S
 refine qe (c:=jg Tryz.f10) Tryz.func10 rfl (by conv=>lhs; reduce) (by simp [Tryz.ntmps10]) ?_
 rw [Tryz.ntmps10]
 intro hwf
 repeat refine QS ?_
 refine QP ?_
 refine QN ?_
 refine ji 2 rfl ((qS (k:=0) (by simp) (by rfl) (by rfl) (by simp))) (by conv=>lhs; simp [Fr.set]) ?_
 simp only [List.set_cons_succ,List.set_cons_zero]
 refine ji 3 rfl ((qS (k:=1) (by simp) (by rfl) (by rfl) (by simp))) (by conv=>lhs; simp [Fr.set]) ?_
 simp only [List.set_cons_succ,List.set_cons_zero]
 refine js [2,3,4,5] (by conv=>lhs; simp [Fr.only,Fr.look]) ?_
 refine zL [2] hwf (by decide) (by simp [-List.map_set]) (by conv=>lhs; simp [-List.map_set]) (by conv=>lhs; simp [-List.map_set]) (by conv=>lhs; simp [-List.map_set]) ?_
 repeat refine QS ?_
 refine QP ?_
 refine jd (cck') (by rfl) ?_
 refine QM (by conv=>lhs;simp[-List.map_set,QV,hc]) ?_
 refine QN ?_
 repeat (first|refine QG ?_|refine QY ?_ (r:=by conv=>lhs;simp[-List.map_set,QV,hc]))
 repeat refine QS ?_
 refine QP ?_
 refine jd (cne') (by rfl) ?_
 refine QM (by conv=>lhs;simp[-List.map_set,QV]) ?_
 refine QN ?_
 refine ji 6 rfl ((boxSt (k:=1) (by simp) (by rfl) (by rfl))) (by conv=>lhs; simp [Fr.set]) ?_
 simp only [List.set_cons_succ,List.set_cons_zero]
 refine js [3,4,6] (by conv=>lhs; simp [Fr.only,Fr.look]) ?_
 refine zL [0] hwf (by decide) (by simp [-List.map_set]) (by conv=>lhs; simp [-List.map_set]) (by conv=>lhs; simp [-List.map_set]) (by conv=>lhs; simp [-List.map_set]) ?_
 repeat refine QS ?_
 refine QP ?_
 refine jF rfl (crp' _) ?_
 rintro X T ⟨hag0,hwT,ot,ob,cells,ids,rfl,hotg,hob,how,hnd,hids⟩
 simp only at hotg how
 refine KD hwT ?_
 refine QM (by conv=>lhs;simp[-List.map_set,QV]) ?_
 refine QN ?_
 have hag1:=hag0.1
 rw [jx] at hag1 hids
 simp only [List.length_cons,List.length_nil,Nat.zero_add,lid] at hag1 hids
 have h4:T.get (lid S.nx 0)=some (4,[V.nils,V.nils,V.nils,V.nils]):=by
  rw [hag0.2 (lid S.nx 0) (by rw [jx]; simp [lid]),jv]; rfl
 have h4lt:lid S.nx 0<T.nx:=by simp only [lid]; omega
 have hwf0:=hwf
 have lob:=jr hwT hob
 have bo:=fun u l => @jk T u l ob lob
 repeat (first|refine QG ?_|refine QY ?_ (r:=by conv=>lhs;simp[-List.map_set,QV,bo,hob]))
 obtain ⟨rs0,rfl,hrl0,hrows0⟩:=Zl (fun x=>by rw [jB]; rfl) how
 have g0 : ∀ o l,o<T.nx→(St T [] l).get o=T.get o:=fun o l ho=>by rw [jk ho]; rfl
 have hlt : ∀ o∈ot::ob::ids,o<T.nx:=fun o ho=>(hids o ho).2
 generalize hT0:St T [] [some (4,[vl vint fi,vl vint fo,V.slice ot 0 ts.length,V.slice ob 0 bs.length])]=T0
 have hinv:BInv S T0 [lid S.nx 0,lid T.nx 0,ot] ob bs T0 rs0 ids:=by
  subst hT0
  refine ⟨⟨by rw [jx,lid]; have:=hag0.1; omega,fun o ho => ?_⟩,fun o _=>rfl, ?_, ?_, ?_, ?_, ?_⟩
  ·rw [g0 o _ (by omega),hag0.2 o (by rw [jx,lid]; omega),jk ho]; rfl
  ·intro o ho
   simp only [List.mem_cons,List.not_mem_nil,or_false] at ho
   rcases ho with rfl | rfl | rfl
   ·rw [g0 _ _ h4lt,h4]; rfl
   ·rw [jv]; rfl
   ·rw [g0 _ _ (hlt _ (by simp)),hotg]; rfl
  ·rw [g0 _ _ (hlt ob (by simp))]; exact hob
  ·exact hrows0.mono fun o ho=>g0 o _ (hlt o (by simp [ho]))
  ·have hno : ∀ o,T.nx≤o→o∉ot::ob::ids:=fun o ho hm=>by have:=hlt o hm; omega
   refine List.nodup_cons.2 ⟨?_,List.nodup_cons.2 ⟨hno _ (by simp only [lid]; omega),hnd⟩⟩
   simp only [lid] at h4lt ⊢
   refine fun hm => ?_
   rcases List.mem_cons.1 hm with h | hm
   ·omega
   ·have:=(hids _ hm).1; omega
  ·intro o ho
   simp only [List.cons_append,List.nil_append,List.mem_cons] at ho
   rcases ho with h | h | h | h | h
   ·subst h; simp only [lid]; omega
   ·subst h; simp only [lid]; omega
   ·have:=(hids o (by simp [h])).1; omega
   ·have:=(hids o (by simp [h])).1; omega
   ·have:=(hids o (by simp [h])).1; omega
 have hgH:T0.get (lid T.nx 0)=some (4,[vl vint fi,vl vint fo,V.slice ot 0 ts.length,V.slice ob 0 bs.length]):=by rw [←hT0,jv]; rfl
 have h4H:T0.get (lid S.nx 0)=some (4,[V.nils,V.nils,V.nils,V.nils]):=by rw [←hT0,g0 _ _ h4lt]; exact h4
 have htH:T0.get ot=some (1,ts.map vint):=by rw [←hT0,g0 _ _ (hlt _ (by simp))]; exact hotg
 generalize hp4:lid S.nx 0=p4 at *
 generalize hpg:lid T.nx 0=pg at *
 clear hT0
 repeat refine QS ?_
 refine je [3,4,6,7,26,27] rfl (fun c σ S' => ∃ (bs1:List Ss.Block) (rs:List (List V)) (ids1:List Nat) (k:Nat),BInv S T0 [p4,pg,ot] ob bs1 S' rs ids1∧bs1=(bs.take k).map (Ss.dBlock need bs)++bs.drop k∧k≤bs.length∧c=bs.length-k∧σ=[(3,(V.agg [vl vint fi,vl vint fo,vl vint ts,vl jc bs]).ref),(4, .ptr p4 0),(6,(vl V.bool need).ref),(7, .ptr pg 0),(26,vnat bs.length),(27,vnat k)]) bs.length ?_ ?_
 ·exact ⟨bs,rs0,ids,0,hinv,by simp,by omega,rfl,by simp [Fr.only,Fr.look]⟩
 ·rintro c σ T1 ⟨bs1,rs,ids1,k,hI,hbs1,hk,rfl,rfl⟩
  refine KP fun hwT1=>zY hwT1 ?_
  have hgT:=(hI.hd pg (by simp)).trans hgH
  have lg:=jr hwT1 hgT
  have bg:=fun u l => @jk T1 u l pg lg
  by_cases hkt:k<bs.length
  ·have hw:=jm hkt (by omega)
   have hbl1:bs1.length=bs.length:=by rw [hbs1]; simp; omega
   have hk1:k<bs1.length:=by omega
   have hbk:bs1[k]=bs[k]:=by
    subst hbs1
    rw [List.getElem_append_right (by simp; omega)]
    simp [Nat.min_eq_left (Nat.le_of_lt hkt)]
   have lb:=jr hwT1 hI.cb
   have hIb:=hI.cb
   have bb:=fun u l => @jk T1 u l ob lb
   have hbm:bs[k]∈bs:=List.getElem_mem hkt
   have hf0 : ∀ o∈[p4,pg,ot],o≠ob:=fun o ho=>by
    have:=hI.nd
    rintro rfl
    exact (List.nodup_append.1 this).2.2 o ho o (by simp) rfl
   have d0:=dout _ hbm
   have d1:=done _ hbm
   have d2:=dpar _ hbm
   have d3:=deargs _ hbm
   have d4:=detos _ hbm
   have hbf:=hfb _ hbm
   have hbsm:=hsm.2.1 _ hbm
   have hI0:BInv S T0 [p4,pg,ot] ob bs1 (St T1 [] []) rs ids1:=by rw [jQ hwT1]; exact hI
   have hw0:(St T1 [] []).Wf:=by rw [jQ hwT1]; exact hwT1
   obtain ⟨oc,T5,rs5,ids5,hcell,hcall,hw5,h5b,h5n,h5h,hset,hI5⟩:=hI0.code hw0 hk1 (Ss.dKeepO need) (by rw [hbk]; have:=hbf.2.1.1; omega) (fid:=28) (caps:=[.ref (vl V.bool need)]) rfl (fun S' x oa ou hx hg=>by
    rw [hbk] at hx
    exact DClo1_v need S' x oa ou (hbf.2.1.2 x hx) (d1 x hx) (d0 x hx) hg)
   rw [hbk] at hcell hcall hset hI5
   obtain ⟨⟨ps,code,⟨tk,ta,to,az⟩⟩,hb⟩ : ∃ b,bs[k]=b:=⟨_,rfl⟩
   rw [hb] at hcell hcall hset hI5 hbk d0 d1 d2 d3 d4 hbf hbsm
   simp only at hcell hcall hset hI5 d0 d1 d2 d3 d4
   have hcl1:k*6+1<rs.flatten.length:=(List.getElem?_eq_some_iff.1 hcell).1
   repeat (first|refine QG ?_|refine QY ?_ (r:=by conv=>lhs;simp[-List.map_set,QV,hkt,bg,hgT,bb,hIb]))
   repeat refine QS ?_
   refine QP ?_ (r:=by conv=>lhs;simp[-List.map_set,QV,bb,hIb,hcell,hcl1])
   refine jF rfl hcall ?_
   rintro X T9 ⟨rfl,h9⟩
   rw [h9]
   clear h9 T9
   have h5g:=h5b.trans ((bb [] []).trans hIb)
   have l5:=jr hw5 h5g
   have bb5:=fun u l => @jk T5 u l ob l5
   have hup5 : ∀ c,(St T5 [] []).upd ob c=St T5 [(ob,some c)] []:=fun c=>by rw [jP l5]; rfl
   refine KD hw5 ?_
   have hcls:=hcl1
   rw [List.length_flatten] at hcls
   refine QM (by conv=>lhs;simp[-List.map_set,QV,bb5,h5g,hcls,hup5]) ?_
   refine QN ?_
   rw [←hset,JJ hw5 l5]
   generalize T5.upd ob (6,rs5.flatten)=T6 at hI5 ⊢
   clear hcall hcell hset h5g hup5 bb5 l5 h5h h5n h5b hcl1 hcls hw5 hI0 hw0
   refine KP fun hwT6=>zY hwT6 ?_
   obtain ⟨op,hcell,hop,hobp,hhs,hput⟩:=hI5.pars hwT6 (i:=k) (by simp; omega)
   have hbk2:(bs1.set k ⟨ps,code.filter fun x=>Ss.dKeepO need x.op x.outs,⟨tk,ta,to,az⟩⟩)[k]'(by simp; omega)=⟨ps,code.filter fun x=>Ss.dKeepO need x.op x.outs,⟨tk,ta,to,az⟩⟩:=List.getElem_set_self _
   rw [hbk2] at hcell hop hput
   simp only [List.set_set] at hcell hop hput
   obtain ⟨rs6,ids6,hset,hI6⟩:=hput (ps.filter (Ss.on need))
   clear hput
   have hcall:=DelI_v (S:=St T6 [] []) (l:=ps) (oc:=op) (p:=Ss.on need) (fid:=31) (caps:=[.ref (vl V.bool need)]) rfl (by have:=hbf.1.1; simp only at this; omega) (fun v hv=>DClo2_v need v (d2 v hv)) (by rw [jQ hwT6]; exact hop)
   have h6g:=hI5.cb
   have l6:=jr hwT6 h6g
   have lp:=jr hwT6 hop
   have bb:=fun u l => @jk T6 u l ob l6
   have bp:=fun u l => @jk T6 u l op lp
   have hcl1:k*6<rs5.flatten.length:=(List.getElem?_eq_some_iff.1 hcell).1
   have hup6 : ∀ c,(St T6 [] []).upd op c=St T6 [(op,some c)] []:=fun c=>by rw [jP lp]; rfl
   have hup7 : ∀ c x,(St T6 [(op,some x)] []).upd ob c=St T6 [(op,some x),(ob,some c)] []:=fun c x=>by rw [jP l6]; simp [uSet,hobp]
   rw [hup6] at hcall
   repeat refine QS ?_
   refine QP ?_ (r:=by conv=>lhs;simp[-List.map_set,QV,bb,h6g,hcell,hcl1])
   refine jF rfl hcall ?_
   rintro X T9 ⟨rfl,rfl⟩
   have hcls:=hcl1
   rw [List.length_flatten] at hcls
   refine QM (by conv=>lhs;simp[-List.map_set,QV,bb,h6g,hcls,hup7,hobp]) ?_
   refine QN ?_
   rw [←hset]
   have hT7:St T6 [(op,some (1,(ps.filter (Ss.on need)).map vint)),(ob,some (6,rs6.flatten))] []=(T6.upd op (1,(ps.filter (Ss.on need)).map vint)).upd ob (6,rs6.flatten):=by rw [←JJ hwT6 lp,hup7]
   rw [hT7]
   generalize (T6.upd op (1,(ps.filter (Ss.on need)).map vint)).upd ob (6,rs6.flatten)=T7 at hI6 ⊢
   clear hcall hcell hset h6g hup6 hup7 bb bp lp l6 hcl1 hcls hT7 hI5 hwT6 hop hbk2 hhs hobp
   refine KP fun hwT7=>zY hwT7 ?_
   have e0:(bs1.set k ⟨ps.filter (Ss.on need),code.filter fun x=>Ss.dKeepO need x.op x.outs,⟨tk,ta,to,az⟩⟩)[k]'(by simp; omega)=⟨ps.filter (Ss.on need),code.filter fun x=>Ss.dKeepO need x.op x.outs,⟨tk,ta,to,az⟩⟩:=List.getElem_set_self _
   obtain ⟨oe,ce,hcell,hge⟩:=hI6.to hwT7 (i:=k) (by simp; omega)
   rw [e0] at hcell
   simp only at hcell
   have h7g:=hI6.cb
   have l7:=jr hwT7 h7g
   have le:=jr hwT7 hge
   have bb:=fun u l => @jk T7 u l ob l7
   have be:=fun u l => @jk T7 u l oe le
   have hcl1:k*6+4<rs6.flatten.length:=(List.getElem?_eq_some_iff.1 hcell).1
   have hcls:=hcl1
   rw [List.length_flatten] at hcls
   have hcell2:rs6.flatten[k*6+2+2]? = some (.slice oe 0 to.length):=hcell
   have hcl2:k*6+2+2<rs6.flatten.length:=hcl1
   repeat (first|refine QG ?_|refine QY ?_ (r:=by conv=>lhs;simp[-List.map_set,QV,bb,h7g,hcell2,hcl2,be,hge]))
   clear hcell2 hcl2 hcls hcl1 be bb le l7 hge hcell h7g e0
   repeat refine QS ?_
   refine je [3,4,6,7,9,26,27,57,58] rfl (fun c σ S' => ∃ (rs:List (List V)) (ids:List Nat) (j:Nat),BInv S T0 [p4,pg,ot] ob (bs1.set k ⟨ps.filter (Ss.on need),code.filter fun x=>Ss.dKeepO need x.op x.outs,⟨tk,ta,(to.take j).map (Ss.dEdge need bs)++to.drop j,az⟩⟩) S' rs ids∧j≤to.length∧c=to.length-j∧σ=[(3,(V.agg [vl vint fi,vl vint fo,vl vint ts,vl jc bs]).ref),(4, .ptr p4 0),(6,(vl V.bool need).ref),(7, .ptr pg 0),(9, .ptr ob (k*6)),(26,vnat bs.length),(27,vnat k),(57,vnat to.length),(58,vnat j)]) to.length ?_ ?_
   ·exact ⟨rs6,ids6,0,by rw [jQ hwT7]; simpa using hI6,by omega,rfl,by simp [Fr.only]⟩
   ·rintro c σ T2 ⟨rs2,ids2,j,hI2,hj,rfl,rfl⟩
    refine KP fun hwT2=>zY hwT2 ?_
    by_cases hjt:j<to.length
    ·have hwj:=jm hjt (by have:=hbsm; simp only [Ss.Block.small,Bool.and_eq_true,decide_eq_true_eq] at this; omega)
     have hem:to[j]∈to:=List.getElem_mem hjt
     have htl:((to.take j).map (Ss.dEdge need bs)++to.drop j).length=to.length:=by simp; omega
     have hj2:j<((to.take j).map (Ss.dEdge need bs)++to.drop j).length:=by omega
     have hgj:((to.take j).map (Ss.dEdge need bs)++to.drop j)[j]=to[j]:=by
      rw [List.getElem_append_right (by simp; omega)]
      simp [Nat.min_eq_left (Nat.le_of_lt hjt)]
     have e0:(bs1.set k ⟨ps.filter (Ss.on need),code.filter fun x=>Ss.dKeepO need x.op x.outs,⟨tk,ta,(to.take j).map (Ss.dEdge need bs)++to.drop j,az⟩⟩)[k]'(by simp; omega)=⟨ps.filter (Ss.on need),code.filter fun x=>Ss.dKeepO need x.op x.outs,⟨tk,ta,(to.take j).map (Ss.dEdge need bs)++to.drop j,az⟩⟩:=List.getElem_set_self _
     have x0:=d3 _ hem
     obtain ⟨y0,y1,y2⟩:=d4 _ hem
     obtain ⟨oe,ce,oa,hcell,hge,hcel,hc0,hc1,hoa,hoel,hobe,hhe,hput⟩:=hI2.edge hwT2 (i:=k) (by simp; omega) (k:=j) (by rw [e0]; exact hj2)
     rw [e0] at hcell hcel
     simp only [e0,hgj] at hc0 hc1 hoa
     simp only [e0,hgj,List.set_set] at hput
     simp only at hcell hcel
     obtain ⟨⟨et,ea⟩,hx⟩ : ∃ x,to[j]=x:=⟨_,rfl⟩
     rw [hx] at hc0 hc1 hoa y0 y1 y2 x0
     simp only [hx] at hput
     simp only at hc0 hc1 hoa y0 y1 y2 x0
     obtain ⟨q,rfl⟩ : ∃ q:Nat,et=q:=⟨et.toNat,by omega⟩
     have hq:q<bs.length:=by omega
     have hgd:bs.getD ((q:Int)).toNat default=bs[q]:=by rw [List.getD_eq_getElem?_getD,Int.toNat_natCast,List.getElem?_eq_getElem hq]; rfl
     have hqm:bs[q]∈bs:=List.getElem_mem hq
     have hpr:=dpar _ hqm
     have hpl:bs[q].params.length≤4096:=by
      have:=hsm.2.1 _ hqm
      simp only [Ss.Block.small,Bool.and_eq_true,decide_eq_true_eq] at this
      exact this.1.1.1.1
     have hde:Ss.dEdge need bs to[j]=⟨(q:Int),((bs[q].params.zip ea).filter fun z=>Ss.on need z.1).map Prod.snd⟩:=by rw [hx,Ss.dEdge,hgd]
     rw [hgd] at y2
     obtain ⟨⟨qs,qc,qt⟩,hb2⟩ : ∃ b,bs[q]=b:=⟨_,rfl⟩
     rw [hb2] at y2 hpr hpl hde
     obtain ⟨qt1,qt2,qt3,qt4⟩:=qt
     simp only at y2 hpr hpl hde
     have hIg:=(hI2.hd pg (by simp)).trans hgH
     have h2g:=hI2.cb
     have l2:=jr hwT2 h2g
     have le:=jr hwT2 hge
     have la:=jr hwT2 hoa
     have bb:=fun u l => @jk T2 u l ob l2
     have be:=fun u l => @jk T2 u l oe le
     have ba:=fun u l => @jk T2 u l oa la
     rw [htl] at hcell hcel
     have hcell2:rs2.flatten[k*6+2+2]? = some (.slice oe 0 to.length):=hcell
     have hcl2:k*6+2+2<rs2.flatten.length:=(List.getElem?_eq_some_iff.1 hcell2).1
     have hce0:j*2<ce.length:=(List.getElem?_eq_some_iff.1 hc0).1
     have hce1:j*2+1<ce.length:=(List.getElem?_eq_some_iff.1 hc1).1
     repeat (first|refine QG ?_|refine QY ?_ (r:=by conv=>lhs;simp[-List.map_set,QV,hjt,bb,h2g,hcell2,hcl2,be,hge,hcel,hce0,hce1]))
     have hc0':ce[j*2]=vint q:=by rw [List.getElem?_eq_getElem hce0] at hc0; exact Option.some.inj hc0
     have hc1':ce[j*2+1] = .slice oa 0 ea.length:=by rw [List.getElem?_eq_getElem hce1] at hc1; exact Option.some.inj hc1
     repeat refine QS ?_
     refine QD (r:=by conv=>lhs;simp[-List.map_set,QV,be,hge,hce0,hc0',hq,hb2]) (k:=?_)
     refine QN ?_
     repeat (first|refine QG ?_|refine QY ?_)
     refine qY (b':=T2.nx) hI2.old.1 ?_
     refine zA 12 1 rfl (by conv=>lhs; simp [Fr.set]) ?_
     have hwf9:=hwf
     clear hwf
     have hwf:=hwT2
     have eP:=fun ks=>qf (n:=T2.nx) ks le
     have eT:=fun ks=>jS (n:=T2.nx) ks le
     have bP:=fun ks=>qf (n:=T2.nx) ks l2
     have bT:=fun ks=>jS (n:=T2.nx) ks l2
     have lg:=jr hwT2 hIg
     have gP:=fun ks=>qf (n:=T2.nx) ks lg
     have gT:=fun ks=>jS (n:=T2.nx) ks lg
     have h42:=(hI2.hd p4 (by simp)).trans h4H
     have l4:=jr hwT2 h42
     have p4P:=fun ks=>qf (n:=T2.nx) ks l4
     have p4T:=fun ks=>jS (n:=T2.nx) ks l4
     repeat refine QS ?_
     refine je [3,4,6,7,9,11,12,26,27,57,58,76,77,78] rfl (fun c σ S' => ∃ (i:Nat) (out:List Int),i≤qs.length∧out=(((qs.zip ea).take i).filter fun z=>Ss.on need z.1).map Prod.snd∧out.length≤i∧c=qs.length-i∧σ=[(3,(V.agg [vl vint fi,vl vint fo,vl vint ts,vl jc bs]).ref),(4, .ptr p4 0),(6,(vl V.bool need).ref),(7, .ptr pg 0),(9, .ptr ob (k*6)),(11, .ptr oe (j*2)),(12, .slice (lid T2.nx 0) 0 out.length),(26,vnat bs.length),(27,vnat k),(57,vnat to.length),(58,vnat j),(76,vl vint qs),(77,vnat qs.length),(78,vnat i)]∧S'=St T2 [] [some (1,out.map vint)]) qs.length ?_ ?_
     ·exact ⟨0,[],by omega,rfl,by simp,rfl,by simp [Fr.only],by simp⟩
     ·rintro c σ T ⟨i,out,hi,hout,hol,rfl,rfl,rfl⟩
      by_cases hit:i<qs.length
      ·have hwi:=jm hit (by omega)
       have hie:i<ea.length:=by omega
       have hiz:i<(qs.zip ea).length:=by rw [List.length_zip]; omega
       have htk:(qs.zip ea).take (i+1)=(qs.zip ea).take i++[(qs[i],ea[i])]:=by rw [List.take_add_one,List.getElem?_eq_getElem hiz,List.getElem_zip]; rfl
       obtain ⟨v0,v1⟩:=hpr qs[i] (List.getElem_mem hit)
       obtain ⟨m,hqi⟩ : ∃ m:Nat,qs[i]=(m:Int):=⟨qs[i].toNat,by omega⟩
       obtain ⟨a,hai⟩ : ∃ a,ea[i]=a:=⟨_,rfl⟩
       rw [hqi] at v0 v1
       have hmn:m<need.length:=by omega
       have hon:Ss.on need (m:Int)=need[m]:=by rw [Ss.on,List.getD_eq_getElem?_getD,Int.toNat_natCast,List.getElem?_eq_getElem hmn]; rfl
       have hout2:(((qs.zip ea).take (i+1)).filter fun z=>Ss.on need z.1).map Prod.snd=if need[m] then out++[a] else out:=by
        rw [htk,List.filter_append,List.map_append, ←hout,hqi,hai, ←hon]
        cases hb:Ss.on need (m:Int)<;>simp only [List.filter_cons,List.filter_nil,hb,if_true,Bool.false_eq_true,if_false,List.map_cons,List.map_nil,List.append_nil]
       cases hnm:need[m] with
       | false =>
        rw [hnm] at hout2
        simp only [Bool.false_eq_true,if_false] at hout2
        repeat (first|refine QG ?_|refine QY ?_ (r:=by conv=>lhs;simp[-List.map_set,QV,hit,hqi,hmn,hnm,hwi]))
        show jt _ _ _ _ _ _ _
        exact again ⟨Nat.sub_lt_sub_left hit (Nat.lt_succ_self i),i+1,out,hit,hout2.symm,by omega,rfl,by simp [Fr.only,Fr.look],rfl⟩
       | true =>
        rw [hnm] at hout2
        simp only [if_true] at hout2
        have hb8:(out.length+1)*8≤140737488355328:=by omega
        have hb1:out.length+1≤140737488355328:=by omega
        repeat (first|refine QG ?_|refine QY ?_ (r:=by conv=>lhs;simp[-List.map_set,QV,hit,hqi,hmn,hnm,hwi,be,hge,hce1,hc1',ba,hoa,hie,hai,hb8,hb1]))
        refine jL [2] (by conv=>lhs; simp [Fr.only]) hwf (by decide) (by simp [-List.map_set,eP,eT,bP,bT,gP,gT,p4P,p4T]) (by conv=>lhs; simp [-List.map_set,eP,eT,bP,bT,gP,gT,p4P,p4T]) (by conv=>lhs; simp [-List.map_set,eP,eT,bP,bT,gP,gT,p4P,p4T]) (by conv=>lhs; simp [-List.map_set,eP,eT,bP,bT,gP,gT,p4P,p4T]) ⟨?_,i+1,out++[a],hit,hout2.symm,by simp; omega,rfl,by simp [Fr.only,Fr.look],by simp⟩
        omega
      ·have hie:i=qs.length:=by omega
       subst hie
       rw [List.take_of_length_le (by rw [List.length_zip]; omega)] at hout
       have hupe : ∀ c l,(St T2 [] l).upd oe c=St T2 [(oe,some c)] l:=fun c l=>by rw [jP le]; rfl
       obtain ⟨ids',hI3⟩:=hput (St T2 [(oe,some (2,ce.set (j*2+1) (.slice (lid T2.nx 0) 0 out.length)))] [some (1,out.map vint)]) (lid T2.nx 0) out (by simp [lid]) (by rw [jx,lid]; omega) (fun o ho hne=>by rw [jk ho]; simp [uGet,hne]) (by rw [jk le]; simp [uGet]) (by rw [jv]; rfl)
       have hset:((to.take j).map (Ss.dEdge need bs)++to.drop j).set j ⟨(q:Int),out⟩=(to.take (j+1)).map (Ss.dEdge need bs)++to.drop (j+1):=by
        rw [List.set_append_right _ _ (by simp; omega),List.length_map,List.length_take,Nat.min_eq_left (Nat.le_of_lt hjt),Nat.sub_self,List.drop_eq_getElem_cons hjt,List.set_cons_zero,List.take_add_one,List.getElem?_eq_getElem hjt,List.map_append,List.append_assoc]
        simp only [Option.toList_some,List.map_cons,List.map_nil,List.cons_append,List.nil_append,hde, ←hout]
       rw [hset] at hI3
       repeat (first|refine QG ?_|refine QY ?_ (r:=by conv=>lhs;simp[-List.map_set,QV,hit,hupe,be,hge,hce1,hwj]))
       show jt _ _ _ _ _ _ _
       exact again ⟨Nat.sub_lt_sub_left hjt (Nat.lt_succ_self j),rs2,ids',j+1,hI3,hjt,rfl,by simp [Fr.only,Fr.look]⟩
    ·have hje:j=to.length:=by omega
     subst hje
     rw [List.take_length,List.drop_length,List.append_nil] at hI2
     have hset:bs1.set k ⟨ps.filter (Ss.on need),code.filter fun x=>Ss.dKeepO need x.op x.outs,⟨tk,ta,to.map (Ss.dEdge need bs),az⟩⟩=(bs.take (k+1)).map (Ss.dBlock need bs)++bs.drop (k+1):=by
      rw [hbs1,List.set_append_right _ _ (by simp; omega),List.length_map,List.length_take,Nat.min_eq_left (Nat.le_of_lt hkt),Nat.sub_self,List.drop_eq_getElem_cons hkt,List.set_cons_zero,List.take_add_one,List.getElem?_eq_getElem hkt,List.map_append,List.append_assoc]
      simp only [Option.toList_some,List.map_cons,List.map_nil,List.cons_append,List.nil_append,hb]
      rfl
     rw [hset] at hI2
     repeat (first|refine QG ?_|refine QY ?_ (r:=by conv=>lhs;simp[-List.map_set,QV,hjt,hw]))
     show jt _ _ _ _ _ _ _
     exact again ⟨Nat.sub_lt_sub_left hkt (Nat.lt_succ_self k),_,rs2,ids2,k+1,by rw [jQ hwT2]; exact hI2,rfl,hkt,rfl,by simp [Fr.only,Fr.look]⟩
  ·have hke:k=bs.length:=by omega
   subst hke
   rw [List.take_length,List.drop_length,List.append_nil] at hbs1
   subst hbs1
   have h42:=(hI.hd p4 (by simp)).trans h4H
   have l4:=jr hwT1 h42
   have b4:=fun u l => @jk T1 u l p4 l4
   have h4g:pg≠p4:=fun e=>by have:=hI.nd; simp [e] at this
   repeat (first|refine QG ?_|refine QY ?_ (r:=by conv=>lhs;simp[-List.map_set,QV,hkt,bg,b4,hgT,h42,h4g]))
   rw [jQ hwT1]
   have hg4:(T1.upd p4 (4,[vl vint fi,vl vint fo,V.slice ot 0 ts.length,V.slice ob 0 bs.length])).get p4=some (4,[vl vint fi,vl vint fo,V.slice ot 0 ts.length,V.slice ob 0 bs.length]):=zp
   refine YI (xs:=[.agg [vl vint fi,vl vint fo, .slice ot 0 ts.length, .slice ob 0 bs.length], .int .i64 0]) (by simp [hg4]) ?_
   have hall:=hI.all_lt hwT1
   obtain ⟨old,hd',al,cb,own,nd,lt⟩:=hI
   have hw5:(T1.upd p4 (4,[vl vint fi,vl vint fo,V.slice ot 0 ts.length,V.slice ob 0 bs.length])).Wf:=Zf hwT1 l4 (hwT1.ids pg _ hgT)
   simp only [List.cons_append,List.nil_append] at nd lt hall
   have nd2:=nd
   simp only [List.nodup_cons,List.mem_cons,not_or] at nd2
   obtain ⟨⟨a1,a2,a3,a4⟩,⟨c1,c2,c3⟩,⟨k1,k2⟩,k3,nd3⟩:=nd2
   refine qE ⟨_,rfl,⟨old.1,fun o ho => ?_⟩,hw5,ot,ob,rs.flatten,ids1, ?_, ?_, ?_, ?_, ?_, ?_⟩
   ·have:=lt p4 (by simp)
    rw [jI (by omega)]; exact old.2 o ho
   ·simp
   ·rw [jI (fun e=>a2 e.symm),hd' ot (by simp)]; exact htH
   ·rw [jI (fun e=>a3 e.symm)]; exact cb
   ·exact own.owl.mono fun o ho=>jI fun e=>a4 (e▸ho)
   ·exact List.Sublist.nodup (.cons _ (.cons _ (List.Sublist.refl _))) nd
   ·intro o ho
    have hm:o∈p4::pg::ot::ob::ids1:=by
     simp only [List.mem_cons] at ho ⊢
     exact .inr (.inr ho)
    exact ⟨lt o hm,hall o hm⟩
end Go.Vw

namespace Go.Vw
open Go.Proofs Go.RowKit
set_option maxRecDepth 10000
set_option maxHeartbeats 2000000
theorem DceRunErr_v (e:Ss.Env) (f:Ss.Fn) (he:e.Fits) (hf:f.Fits) (hc:Ss.check e f=false):VPure Tryz.prog 10 [zh e,qx f] (.tuple [qx Ss.emptyFn,vint 6]):=by
 intro S
 have cck:=Check_v e f he hf
 generalize Ss.check e f=ck at *
 obtain ⟨⟨fi,fo⟩,ts,bs⟩:=f
 obtain ⟨sg,im,gl,mu,me⟩:=e
 have cck':VPure Tryz.prog 24 [.agg [vl jC sg,vint im,vl vint gl,vl V.bool mu, .bool me], .agg [vl vint fi,vl vint fo,vl vint ts,vl jc bs]] (.bool ck):=cck
 refine qe (c:=jg Tryz.f10) Tryz.func10 rfl (by conv=>lhs; reduce) (by simp [Tryz.ntmps10]) ?_
 rw [Tryz.ntmps10]
 intro hwf
 repeat refine QS ?_
 refine QP ?_
 refine QN ?_
 refine ji 2 rfl ((qS (k:=0) (by simp) (by rfl) (by rfl) (by simp))) (by conv=>lhs; simp [Fr.set]) ?_
 simp only [List.set_cons_succ,List.set_cons_zero]
 refine ji 3 rfl ((qS (k:=1) (by simp) (by rfl) (by rfl) (by simp))) (by conv=>lhs; simp [Fr.set]) ?_
 simp only [List.set_cons_succ,List.set_cons_zero]
 refine js [2,3,4,5] (by conv=>lhs; simp [Fr.only,Fr.look]) ?_
 refine zL [2] hwf (by decide) (by simp [-List.map_set]) (by conv=>lhs; simp [-List.map_set]) (by conv=>lhs; simp [-List.map_set]) (by conv=>lhs; simp [-List.map_set]) ?_
 repeat refine QS ?_
 refine QP ?_
 refine jd (cck') (by rfl) ?_
 refine QM (by conv=>lhs;simp[-List.map_set,QV,hc]) ?_
 refine QN ?_
 repeat (first|refine QG ?_|refine QY ?_ (r:=by conv=>lhs;simp[-List.map_set,QV,hc]))
 refine YI (xs:=[.agg [.nils, .nils, .nils, .nils], .int .i64 6]) (by simp) ?_
 exact zn hwf ((Ghost.tuple [] [_] (ZW _)).toB _) Jj (by rfl)
theorem DceP_v (e:Ss.Env) (f:Ss.Fn) (he:e.Fits) (hf:f.Fits):VPure Tryz.prog 10 [zh e,qx f] (.tuple [qx (Ss.dceOut e f).1,vint (Ss.dceOut e f).2]):=by
 cases hc:Ss.check e f with
 | false=>rw [Ss.dceOut_f hc]; exact DceRunErr_v e f he hf hc
 | true =>
  rw [Ss.dceOut_t hc]
  intro S
  refine zZ fun hwf=>qQ ((DceRun_v S e f he hf hc).mono ?_)
  rintro r T ⟨r',rfl,hag,hwT,ot,ob,cells,ids,rfl,hot,hob,how,hnd,hids⟩
  have hg:=fn_ghostD (fi:=f.sig.inn) (fo:=f.sig.out) how hob rfl hot rfl hnd
  have hfin:Agree S (T.dels (ot::ob::ids)):=by
   refine ⟨by rw [Wi]; exact hag.1,fun o ho => ?_⟩
   rw [JH,if_neg]
   ·exact hag.2 o ho
   ·intro hm
    have:=(hids o hm).1; omega
  exact zn hwf ((Ghost.tuple [] [_] hg).toB _) hfin (by simp [qx])
end Go.Vw
