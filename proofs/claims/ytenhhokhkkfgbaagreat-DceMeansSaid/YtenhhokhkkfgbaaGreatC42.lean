import Derived.Test.YtenhhokhkkfgbaaGreatC41
/- Part of the proof. -/
set_option linter.unusedVariables false
set_option linter.unusedSimpArgs false
set_option maxRecDepth 10000
set_option maxHeartbeats 8000000
namespace Go.Vw
open Go.Proofs Go.RowKit
attribute [-simp] List.map_set
set_option pp.deepTerms true
theorem DceRun_v (S:Store) (e:Ss.Env) (f:Ss.Fn) (he:e.Fits) (hf:f.Fits) (hc:Ss.check e f=true):bU 10 [qL e,jI f] S fun r T => ∃ r',r = .tuple [r',vint 0]/\CopiedD S (Ss.dceF f) r' T:=by
 have hs:=Ss.check_small hc;have hd:=Ss.check_dok hc;have hnl:=Ss.dNeed_len hd;have cck:=Check_v e f he hf;have crp:=fun S=>SReplace_v S f [] hf hs (by simp)
 have cne:=Needed_v e f hf hc;have hfb : ∀ b∈f.blocks,b.Fits:=hf.2.2.2
 have hsm:=(Ss.small_iff f).1 hs;have hh:=hsm.1;simp only [Ss.Fn.heads,af,aj] at hh;obtain ⟨⟨⟨hh1,hh2⟩,_⟩,_⟩:=hh;simp only [Ss.replace_nil] at crp;have hres:Ss.dceF f=⟨f.sig,f.types,f.blocks.map (Ss.dBlock (Ss.dNeed f) f.blocks)⟩:=rfl;rw [hres];generalize Ss.check e f=ck at *
 generalize Ss.dNeed f=need at *
 obtain ⟨_,dout,done,_,dpar,_,_,deargs,detos,_,_⟩:=hd;obtain ⟨⟨fi,fo⟩,ts,bs⟩:=f;obtain ⟨sg,im,gl,mu,me⟩:=e;simp only at *
 rw [<-hnl] at dout dpar deargs;have cck':bS 24 [.agg [vl jm sg,vint im,vl vint gl,vl V.bool mu, .bool me], .agg [vl vint fi,vl vint fo,vl vint ts,vl je bs]] (.bool ck):=cck;have cne':bS 25 [.agg [vl vint fi,vl vint fo,vl vint ts,vl je bs]] (vl V.bool need):=cne;have crp' : ∀ S,bU 26 [.agg [vl vint fi,vl vint fo,vl vint ts,vl je bs], .nils] S (CopiedD S ⟨⟨fi,fo⟩,ts,bs⟩):=fun S=>by
  refine zk (GhostArgs.one [_] [] (Ghost.nils_list S)) ?_;exact crp S
 refine qA (c:=jc Tryz.f10) Tryz.func10 rfl (by conv=>lhs; reduce) (by simp [Tryz.ntmps10]) ?_;rw [Tryz.ntmps10];intro hwf;refine QY ?_;refine QH 2 0 ?_;refine QH 3 1 ?_;refine QO [2,3,4,5] ?_;refine QK [2] ?_;refine QP ?_;refine QL (cck') ?_;refine bB hc ?_;refine QN ?_
 refine bx hc ?_
 refine QP ?_;refine QL (cne') ?_;refine QW ?_;refine jt 6 rfl ((boxSt (k:=1) (by simp) (by rfl) (by rfl))) (by conv=>lhs; simp [Fr.set]) ?_;simp only [aq,au];refine QO [3,4,6] ?_;refine QK [0] ?_;refine QP ?_;refine jK rfl (crp' _) ?_;rintro X T ⟨hag0,hwT,ot,ob,cells,ids,rfl,hotg,hob,how,hnd,hids⟩;simp only at hotg how;refine vseg_nil hwT ?_;refine QW ?_;have hag1:=hag0.1;rw [jL] at hag1 hids;simp only [aC,aM,bd,lid] at hag1 hids;have h4:T.get (lid S.nx 0)=some (4,[V.nils,V.nils,V.nils,V.nils]):=by
  rw [hag0.2 (lid S.nx 0) (by rw [jL]; simp [lid]),jv]; rfl
 have h4lt:lid S.nx 0<T.nx:=by simp only [lid]; omega
 have hwf0:=hwf;have lob:=jl hwT hob;have bo:=fun u l => @jh T u l ob lob
 refine bt bo hob ?_
 obtain ⟨rs0,rfl,hrl0,hrows0⟩:=jco (fun x=>by rw [zj]; rfl) how;have g0 : ∀ o l,o<T.nx->(St T [] l).get o=T.get o:=fun o l ho=>by rw [jh ho]; rfl
 have hlt : ∀ o∈ot::ob::ids,o<T.nx:=fun o ho=>(hids o ho).2
 generalize hT0:St T [] [some (4,[vl vint fi,vl vint fo,V.slice ot 0 ts.length,V.slice ob 0 bs.length])]=T0;have hinv:BInv S T0 [lid S.nx 0,lid T.nx 0,ot] ob bs T0 rs0 ids:=by
  subst hT0;refine ⟨⟨by rw [jL,lid]; have:=hag0.1; omega,fun o ho => ?_⟩,fun o _=>rfl, ?_, ?_, ?_, ?_, ?_⟩
  ·rw [g0 o _ (by omega),hag0.2 o (by rw [jL,lid]; omega),jh ho]; rfl
  ·intro o ho;simp only [aL,List.not_mem_nil,or_false] at ho;rcases ho with rfl | rfl | rfl
   ·rw [g0 _ _ h4lt,h4]; rfl
   ·rw [jv]; rfl
   ·rw [g0 _ _ (hlt _ (by simp)),hotg]; rfl
  ·rw [g0 _ _ (hlt ob (by simp))]; exact hob
  ·exact hrows0.mono fun o ho=>g0 o _ (hlt o (by simp [ho]))
  ·have hno : ∀ o,T.nx<=o->o∉ot::ob::ids:=fun o ho hm=>by have:=hlt o hm; omega
   refine List.nodup_cons.2 ⟨?_,List.nodup_cons.2 ⟨hno _ (by simp only [lid]; omega),hnd⟩⟩;simp only [lid] at h4lt ⊢;refine fun hm => ?_
   rcases aL.1 hm with h | hm
   ·omega
   ·have:=(hids _ hm).1; omega
  ·intro o ho;simp only [List.cons_append,List.nil_append,aL] at ho;rcases ho with h | h | h | h | h
   ·subst h; simp only [lid]; omega
   ·subst h; simp only [lid]; omega
   ·have:=(hids o (by simp [h])).1; omega
   ·have:=(hids o (by simp [h])).1; omega
   ·have:=(hids o (by simp [h])).1; omega
 have hgH:T0.get (lid T.nx 0)=some (4,[vl vint fi,vl vint fo,V.slice ot 0 ts.length,V.slice ob 0 bs.length]):=by rw [<-hT0,jv]; rfl
 have h4H:T0.get (lid S.nx 0)=some (4,[V.nils,V.nils,V.nils,V.nils]):=by rw [<-hT0,g0 _ _ h4lt]; exact h4
 have htH:T0.get ot=some (1,ts.map vint):=by rw [<-hT0,g0 _ _ (hlt _ (by simp))]; exact hotg
 generalize hp4:lid S.nx 0=p4 at *
 generalize hpg:lid T.nx 0=pg at *
 clear hT0;refine QT ?_;refine jd [3,4,6,7,26,27] rfl (fun c σ S' => ∃ (bs1:List Ss.Block) (rs:List (List V)) (ids1:List Nat) (k:Nat),BInv S T0 [p4,pg,ot] ob bs1 S' rs ids1/\bs1=(bs.take k).map (Ss.dBlock need bs)++bs.drop k/\k<=bs.length/\c=bs.length-k/\σ=[(3,(V.agg [vl vint fi,vl vint fo,vl vint ts,vl je bs]).ref),(4, .ptr p4 0),(6,(vl V.bool need).ref),(7, .ptr pg 0),(26,vnat bs.length),(27,vnat k)]) bs.length ?_ ?_
 ·exact ⟨bs,rs0,ids,0,hinv,by simp,by omega,rfl,by simp [Fr.only,Fr.look]⟩
 ·rintro c σ T1 ⟨bs1,rs,ids1,k,hI,hbs1,hk,rfl,rfl⟩;refine Yi fun hwT1=>Jq hwT1 ?_
  have hgT:=(hI.hd pg (by simp)).trans hgH;have lg:=jl hwT1 hgT;have bg:=fun u l => @jh T1 u l pg lg
  by_cases hkt:k<bs.length
  ·have hw:=jg hkt (by omega);have hbl1:bs1.length=bs.length:=by rw [hbs1]; simp; omega
   have hk1:k<bs1.length:=by omega
   have hbk:bs1[k]=bs[k]:=by
    subst hbs1;rw [List.getElem_append_right (by simp; omega)];simp [Nat.min_eq_left (Nat.le_of_lt hkt)]
   have lb:=jl hwT1 hI.cb;have hIb:=hI.cb;have bb:=fun u l => @jh T1 u l ob lb
   have hbm:bs[k]∈bs:=ah hkt;have hf0 : ∀ o∈[p4,pg,ot],o≠ob:=fun o ho=>by
    have:=hI.nd;rintro rfl;exact (List.nodup_append.1 this).2.2 o ho o (by simp) rfl
   have d0:=dout _ hbm;have d1:=done _ hbm;have d2:=dpar _ hbm;have d3:=deargs _ hbm;have d4:=detos _ hbm;have hbf:=hfb _ hbm;have hbsm:=hsm.2.1 _ hbm;have hI0:BInv S T0 [p4,pg,ot] ob bs1 (St T1 [] []) rs ids1:=by rw [jM hwT1]; exact hI
   have hw0:(St T1 [] []).Wf:=by rw [jM hwT1]; exact hwT1
   obtain ⟨oc,T5,rs5,ids5,hcell,hcall,hw5,h5b,h5n,h5h,hset,hI5⟩:=hI0.code hw0 hk1 (Ss.dKeepO need) (by rw [hbk]; have:=hbf.2.1.1; omega) (fid:=28) (caps:=[.ref (vl V.bool need)]) rfl (fun S' x oa ou hx hg=>by
    rw [hbk] at hx;exact DClo1_v need S' x oa ou (hbf.2.1.2 x hx) (d1 x hx) (d0 x hx) hg)
   rw [hbk] at hcell hcall hset hI5;obtain ⟨⟨ps,code,⟨tk,ta,to,az⟩⟩,hb⟩ : ∃ b,bs[k]=b:=⟨_,rfl⟩
   rw [hb] at hcell hcall hset hI5 hbk d0 d1 d2 d3 d4 hbf hbsm;simp only at hcell hcall hset hI5 d0 d1 d2 d3 d4;have hcl1:k*6+1<rs.flatten.length:=(ae.1 hcell).1
   refine bJ hkt bg hgT bb hIb ?_
   refine QP ?_ (r:=by conv=>lhs;simp[QV,bb,hIb,hcell,hcl1]);refine jK rfl hcall ?_;rintro X T9 ⟨rfl,h9⟩;rw [h9];clear h9 T9;have h5g:=h5b.trans ((bb [] []).trans hIb);have l5:=jl hw5 h5g;have bb5:=fun u l => @jh T5 u l ob l5
   have hup5 : ∀ c,(St T5 [] []).upd ob c=St T5 [(ob,some c)] []:=fun c=>by rw [jP l5]; rfl
   refine vseg_nil hw5 ?_;have hcls:=hcl1;rw [List.length_flatten] at hcls;refine QM (by conv=>lhs;simp[QV,bb5,h5g,hcls,hup5]) ?_;refine QN ?_;rw [<-hset,KF hw5 l5];generalize T5.upd ob (6,rs5.flatten)=T6 at hI5 ⊢;clear hcall hcell hset h5g hup5 bb5 l5 h5h h5n h5b hcl1 hcls hw5 hI0 hw0;refine Yi fun hwT6=>Jq hwT6 ?_
   obtain ⟨op,hcell,hop,hobp,hhs,hput⟩:=hI5.pars hwT6 (i:=k) (by simp; omega);have hbk2:(bs1.set k ⟨ps,code.filter fun x=>Ss.dKeepO need x.op x.outs,⟨tk,ta,to,az⟩⟩)[k]'(by simp; omega)=⟨ps,code.filter fun x=>Ss.dKeepO need x.op x.outs,⟨tk,ta,to,az⟩⟩:=List.getElem_set_self _;rw [hbk2] at hcell hop hput;simp only [List.set_set] at hcell hop hput;obtain ⟨rs6,ids6,hset,hI6⟩:=hput (ps.filter (Ss.on need));clear hput;have hcall:=DelI_v (S:=St T6 [] []) (l:=ps) (oc:=op) (p:=Ss.on need) (fid:=31) (caps:=[.ref (vl V.bool need)]) rfl (by have:=hbf.1.1; simp only at this; omega) (fun v hv=>DClo2_v need v (d2 v hv)) (by rw [jM hwT6]; exact hop);have h6g:=hI5.cb;have l6:=jl hwT6 h6g;have lp:=jl hwT6 hop;have bb:=fun u l => @jh T6 u l ob l6
   have bp:=fun u l => @jh T6 u l op lp
   have hcl1:k*6<rs5.flatten.length:=(ae.1 hcell).1;have hup6 : ∀ c,(St T6 [] []).upd op c=St T6 [(op,some c)] []:=fun c=>by rw [jP lp]; rfl
   have hup7 : ∀ c x,(St T6 [(op,some x)] []).upd ob c=St T6 [(op,some x),(ob,some c)] []:=fun c x=>by rw [jP l6]; simp [uSet,hobp]
   rw [hup6] at hcall;refine QP ?_ (r:=by conv=>lhs;simp[QV,bb,h6g,hcell,hcl1]);refine jK rfl hcall ?_;rintro X T9 ⟨rfl,rfl⟩;have hcls:=hcl1;rw [List.length_flatten] at hcls;refine QM (by conv=>lhs;simp[QV,bb,h6g,hcls,hup7,hobp]) ?_;refine QN ?_;rw [<-hset];have hT7:St T6 [(op,some (1,(ps.filter (Ss.on need)).map vint)),(ob,some (6,rs6.flatten))] []=(T6.upd op (1,(ps.filter (Ss.on need)).map vint)).upd ob (6,rs6.flatten):=by rw [<-KF hwT6 lp,hup7]
   rw [hT7];generalize (T6.upd op (1,(ps.filter (Ss.on need)).map vint)).upd ob (6,rs6.flatten)=T7 at hI6 ⊢;clear hcall hcell hset h6g hup6 hup7 bb bp lp l6 hcl1 hcls hT7 hI5 hwT6 hop hbk2 hhs hobp;refine Yi fun hwT7=>Jq hwT7 ?_
   have e0:(bs1.set k ⟨ps.filter (Ss.on need),code.filter fun x=>Ss.dKeepO need x.op x.outs,⟨tk,ta,to,az⟩⟩)[k]'(by simp; omega)=⟨ps.filter (Ss.on need),code.filter fun x=>Ss.dKeepO need x.op x.outs,⟨tk,ta,to,az⟩⟩:=List.getElem_set_self _;obtain ⟨oe,ce,hcell,hge⟩:=hI6.to hwT7 (i:=k) (by simp; omega);rw [e0] at hcell;simp only at hcell;have h7g:=hI6.cb;have l7:=jl hwT7 h7g;have le:=jl hwT7 hge;have bb:=fun u l => @jh T7 u l ob l7
   have be:=fun u l => @jh T7 u l oe le
   have hcl1:k*6+4<rs6.flatten.length:=(ae.1 hcell).1;have hcls:=hcl1;rw [List.length_flatten] at hcls;have hcell2:rs6.flatten[k*6+2+2]? = some (.slice oe 0 to.length):=hcell;have hcl2:k*6+2+2<rs6.flatten.length:=hcl1
   refine bz bb h7g hcell2 hcl2 be hge ?_
   clear hcell2 hcl2 hcls hcl1 be bb le l7 hge hcell h7g e0;refine QT ?_;refine jd [3,4,6,7,9,26,27,57,58] rfl (fun c σ S' => ∃ (rs:List (List V)) (ids:List Nat) (j:Nat),BInv S T0 [p4,pg,ot] ob (bs1.set k ⟨ps.filter (Ss.on need),code.filter fun x=>Ss.dKeepO need x.op x.outs,⟨tk,ta,(to.take j).map (Ss.dEdge need bs)++to.drop j,az⟩⟩) S' rs ids/\j<=to.length/\c=to.length-j/\σ=[(3,(V.agg [vl vint fi,vl vint fo,vl vint ts,vl je bs]).ref),(4, .ptr p4 0),(6,(vl V.bool need).ref),(7, .ptr pg 0),(9, .ptr ob (k*6)),(26,vnat bs.length),(27,vnat k),(57,vnat to.length),(58,vnat j)]) to.length ?_ ?_
   ·exact ⟨rs6,ids6,0,by rw [jM hwT7]; simpa using hI6,by omega,rfl,by simp [Fr.only]⟩
   ·rintro c σ T2 ⟨rs2,ids2,j,hI2,hj,rfl,rfl⟩;refine Yi fun hwT2=>Jq hwT2 ?_
    by_cases hjt:j<to.length
    ·have hwj:=jg hjt (by have:=hbsm; simp only [Ss.Block.small,af,aj] at this; omega);have hem:to[j]∈to:=ah hjt;have htl:((to.take j).map (Ss.dEdge need bs)++to.drop j).length=to.length:=by simp; omega
     have hj2:j<((to.take j).map (Ss.dEdge need bs)++to.drop j).length:=by omega
     have hgj:((to.take j).map (Ss.dEdge need bs)++to.drop j)[j]=to[j]:=by
      rw [List.getElem_append_right (by simp; omega)];simp [Nat.min_eq_left (Nat.le_of_lt hjt)]
     have e0:(bs1.set k ⟨ps.filter (Ss.on need),code.filter fun x=>Ss.dKeepO need x.op x.outs,⟨tk,ta,(to.take j).map (Ss.dEdge need bs)++to.drop j,az⟩⟩)[k]'(by simp; omega)=⟨ps.filter (Ss.on need),code.filter fun x=>Ss.dKeepO need x.op x.outs,⟨tk,ta,(to.take j).map (Ss.dEdge need bs)++to.drop j,az⟩⟩:=List.getElem_set_self _;have x0:=d3 _ hem;obtain ⟨y0,y1,y2⟩:=d4 _ hem;obtain ⟨oe,ce,oa,hcell,hge,hcel,hc0,hc1,hoa,hoel,hobe,hhe,hput⟩:=hI2.edge hwT2 (i:=k) (by simp; omega) (k:=j) (by rw [e0]; exact hj2);rw [e0] at hcell hcel;simp only [e0,hgj] at hc0 hc1 hoa;simp only [e0,hgj,List.set_set] at hput;simp only at hcell hcel;obtain ⟨⟨et,ea⟩,hx⟩ : ∃ x,to[j]=x:=⟨_,rfl⟩
     rw [hx] at hc0 hc1 hoa y0 y1 y2 x0;simp only [hx] at hput;simp only at hc0 hc1 hoa y0 y1 y2 x0;obtain ⟨q,rfl⟩ : ∃ q:Nat,et=q:=⟨et.toNat,by omega⟩
     have hq:q<bs.length:=by omega
     have hgd:bs.getD ((q:Int)).toNat default=bs[q]:=by rw [ag,Int.toNat_natCast,ac hq]; rfl
     have hqm:bs[q]∈bs:=ah hq;have hpr:=dpar _ hqm;have hpl:bs[q].params.length<=4096:=by
      have:=hsm.2.1 _ hqm;simp only [Ss.Block.small,af,aj] at this;exact this.1.1.1.1
     have hde:Ss.dEdge need bs to[j]=⟨(q:Int),((bs[q].params.zip ea).filter fun z=>Ss.on need z.1).map Prod.snd⟩:=by rw [hx,Ss.dEdge,hgd]
     rw [hgd] at y2;obtain ⟨⟨qs,qc,qt⟩,hb2⟩ : ∃ b,bs[q]=b:=⟨_,rfl⟩
     rw [hb2] at y2 hpr hpl hde;obtain ⟨qt1,qt2,qt3,qt4⟩:=qt;simp only at y2 hpr hpl hde;have hIg:=(hI2.hd pg (by simp)).trans hgH;have h2g:=hI2.cb;have l2:=jl hwT2 h2g;have le:=jl hwT2 hge;have la:=jl hwT2 hoa;have bb:=fun u l => @jh T2 u l ob l2
     have be:=fun u l => @jh T2 u l oe le
     have ba:=fun u l => @jh T2 u l oa la
     rw [htl] at hcell hcel;have hcell2:rs2.flatten[k*6+2+2]? = some (.slice oe 0 to.length):=hcell;have hcl2:k*6+2+2<rs2.flatten.length:=(ae.1 hcell2).1;have hce0:j*2<ce.length:=(ae.1 hc0).1;have hce1:j*2+1<ce.length:=(ae.1 hc1).1
     repeat first|refine QG ?_|refine QY ?_ (r:=by conv=>lhs;simp[QV,hjt,bb,h2g,hcell2,hcl2,be,hge,hcel,hce0,hce1])
     have hc0':ce[j*2]=vint q:=by rw [ac hce0] at hc0; exact Option.some.inj hc0
     have hc1':ce[j*2+1] = .slice oa 0 ea.length:=by rw [ac hce1] at hc1; exact Option.some.inj hc1
     refine QT ?_;refine QD (r:=by conv=>lhs;simp[QV,be,hge,hce0,hc0',hq,hb2]) (k:=?_);refine bR ?_
     refine Yl (b':=T2.nx) hI2.old.1 ?_;refine zx 12 1 rfl (by conv=>lhs; simp [Fr.set]) ?_;have hwf9:=hwf;clear hwf;have hwf:=hwT2;have eP:=fun ks=>qv (n:=T2.nx) ks le
     have eT:=fun ks=>jZ (n:=T2.nx) ks le
     have bP:=fun ks=>qv (n:=T2.nx) ks l2
     have bT:=fun ks=>jZ (n:=T2.nx) ks l2
     have lg:=jl hwT2 hIg;have gP:=fun ks=>qv (n:=T2.nx) ks lg
     have gT:=fun ks=>jZ (n:=T2.nx) ks lg
     have h42:=(hI2.hd p4 (by simp)).trans h4H;have l4:=jl hwT2 h42;have p4P:=fun ks=>qv (n:=T2.nx) ks l4
     have p4T:=fun ks=>jZ (n:=T2.nx) ks l4
     refine QT ?_;refine jd [3,4,6,7,9,11,12,26,27,57,58,76,77,78] rfl (fun c σ S' => ∃ (i:Nat) (out:List Int),i<=qs.length/\out=(((qs.zip ea).take i).filter fun z=>Ss.on need z.1).map Prod.snd/\out.length<=i/\c=qs.length-i/\σ=[(3,(V.agg [vl vint fi,vl vint fo,vl vint ts,vl je bs]).ref),(4, .ptr p4 0),(6,(vl V.bool need).ref),(7, .ptr pg 0),(9, .ptr ob (k*6)),(11, .ptr oe (j*2)),(12, .slice (lid T2.nx 0) 0 out.length),(26,vnat bs.length),(27,vnat k),(57,vnat to.length),(58,vnat j),(76,vl vint qs),(77,vnat qs.length),(78,vnat i)]/\S'=St T2 [] [some (1,out.map vint)]) qs.length ?_ ?_
     ·exact ⟨0,[],by omega,rfl,by simp,rfl,by simp [Fr.only],by simp⟩
     ·rintro c σ T ⟨i,out,hi,hout,hol,rfl,rfl,rfl⟩
      by_cases hit:i<qs.length
      ·have hwi:=jg hit (by omega);have hie:i<ea.length:=by omega
       have hiz:i<(qs.zip ea).length:=by rw [List.length_zip]; omega
       have htk:(qs.zip ea).take (i+1)=(qs.zip ea).take i++[(qs[i],ea[i])]:=by rw [List.take_add_one,ac hiz,List.getElem_zip]; rfl
       obtain ⟨v0,v1⟩:=hpr qs[i] (ah hit);obtain ⟨m,hqi⟩ : ∃ m:Nat,qs[i]=(m:Int):=⟨qs[i].toNat,by omega⟩
       obtain ⟨a,hai⟩ : ∃ a,ea[i]=a:=⟨_,rfl⟩
       rw [hqi] at v0 v1;have hmn:m<need.length:=by omega
       have hon:Ss.on need (m:Int)=need[m]:=by rw [Ss.on,ag,Int.toNat_natCast,ac hmn]; rfl
       have hout2:(((qs.zip ea).take (i+1)).filter fun z=>Ss.on need z.1).map Prod.snd=if need[m] then out++[a] else out:=by
        rw [htk,List.filter_append,List.map_append, <-hout,hqi,hai, <-hon]
        cases hb:Ss.on need (m:Int)<;>simp only [List.filter_cons,List.filter_nil,hb,if_true,aF,if_false,List.map_cons,List.map_nil,List.append_nil]
       cases hnm:need[m] with
       | false =>
        rw [hnm] at hout2;simp only [aF,if_false] at hout2
        refine bJ hit hqi hmn hnm hwi ?_
        show js _ _ _ _ _ _ _;exact again ⟨ao hit (aY i),i+1,out,hit,hout2.symm,by omega,rfl,by simp [Fr.only,Fr.look],rfl⟩
       | true =>
        rw [hnm] at hout2;simp only [if_true] at hout2;have hb8:(out.length+1)*8<=140737488355328:=by omega
        have hb1:out.length+1<=140737488355328:=by omega
        repeat first|refine QG ?_|refine QY ?_ (r:=by conv=>lhs;simp[QV,hit,hqi,hmn,hnm,hwi,be,hge,hce1,hc1',ba,hoa,hie,hai,hb8,hb1])
        refine jT [2] (by conv=>lhs; simp [Fr.only]) hwf (by decide) (by simp [eP,eT,bP,bT,gP,gT,p4P,p4T]) (by conv=>lhs; simp [eP,eT,bP,bT,gP,gT,p4P,p4T]) (by conv=>lhs; simp [eP,eT,bP,bT,gP,gT,p4P,p4T]) (by conv=>lhs; simp [eP,eT,bP,bT,gP,gT,p4P,p4T]) ⟨?_,i+1,out++[a],hit,hout2.symm,by simp; omega,rfl,by simp [Fr.only,Fr.look],by simp⟩;omega
      ·have hie:i=qs.length:=by omega
       subst hie;rw [List.take_of_length_le (by rw [List.length_zip]; omega)] at hout;have hupe : ∀ c l,(St T2 [] l).upd oe c=St T2 [(oe,some c)] l:=fun c l=>by rw [jP le]; rfl
       obtain ⟨ids',hI3⟩:=hput (St T2 [(oe,some (2,ce.set (j*2+1) (.slice (lid T2.nx 0) 0 out.length)))] [some (1,out.map vint)]) (lid T2.nx 0) out (by simp [lid]) (by rw [jL,lid]; omega) (fun o ho hne=>by rw [jh ho]; simp [uGet,hne]) (by rw [jh le]; simp [uGet]) (by rw [jv]; rfl);have hset:((to.take j).map (Ss.dEdge need bs)++to.drop j).set j ⟨(q:Int),out⟩=(to.take (j+1)).map (Ss.dEdge need bs)++to.drop (j+1):=by
        rw [List.set_append_right _ _ (by simp; omega),aI,List.length_take,Nat.min_eq_left (Nat.le_of_lt hjt),Nat.sub_self,am hjt,au,List.take_add_one,ac hjt,List.map_append,List.append_assoc];simp only [Option.toList_some,List.map_cons,List.map_nil,List.cons_append,List.nil_append,hde, <-hout]
       rw [hset] at hI3
       refine bz hit hupe be hge hce1 hwj ?_
       show js _ _ _ _ _ _ _;exact again ⟨ao hjt (aY j),rs2,ids',j+1,hI3,hjt,rfl,by simp [Fr.only,Fr.look]⟩
    ·have hje:j=to.length:=by omega
     subst hje;rw [List.take_length,List.drop_length,List.append_nil] at hI2;have hset:bs1.set k ⟨ps.filter (Ss.on need),code.filter fun x=>Ss.dKeepO need x.op x.outs,⟨tk,ta,to.map (Ss.dEdge need bs),az⟩⟩=(bs.take (k+1)).map (Ss.dBlock need bs)++bs.drop (k+1):=by
      rw [hbs1,List.set_append_right _ _ (by simp; omega),aI,List.length_take,Nat.min_eq_left (Nat.le_of_lt hkt),Nat.sub_self,am hkt,au,List.take_add_one,ac hkt,List.map_append,List.append_assoc];simp only [Option.toList_some,List.map_cons,List.map_nil,List.cons_append,List.nil_append,hb]
      rfl
     rw [hset] at hI2
     refine bt hjt hw ?_
     show js _ _ _ _ _ _ _;exact again ⟨ao hkt (aY k),_,rs2,ids2,k+1,by rw [jM hwT2]; exact hI2,rfl,hkt,rfl,by simp [Fr.only,Fr.look]⟩
  ·have hke:k=bs.length:=by omega
   subst hke;rw [List.take_length,List.drop_length,List.append_nil] at hbs1;subst hbs1;have h42:=(hI.hd p4 (by simp)).trans h4H;have l4:=jl hwT1 h42;have b4:=fun u l => @jh T1 u l p4 l4
   have h4g:pg≠p4:=fun e=>by have:=hI.nd; simp [e] at this
   refine bz hkt bg b4 hgT h42 h4g ?_
   rw [jM hwT1];have hg4:(T1.upd p4 (4,[vl vint fi,vl vint fo,V.slice ot 0 ts.length,V.slice ob 0 bs.length])).get p4=some (4,[vl vint fi,vl vint fo,V.slice ot 0 ts.length,V.slice ob 0 bs.length]):=zY;refine WW (xs:=[.agg [vl vint fi,vl vint fo, .slice ot 0 ts.length, .slice ob 0 bs.length], .int .i64 0]) (by simp [hg4]) ?_;have hall:=hI.all_lt hwT1;obtain ⟨old,hd',al,cb,own,nd,lt⟩:=hI;have hw5:(T1.upd p4 (4,[vl vint fi,vl vint fo,V.slice ot 0 ts.length,V.slice ob 0 bs.length])).Wf:=upd_wf hwT1 l4 (hwT1.ids pg _ hgT);simp only [List.cons_append,List.nil_append] at nd lt hall;have nd2:=nd;simp only [List.nodup_cons,aL,not_or] at nd2;obtain ⟨⟨a1,a2,a3,a4⟩,⟨c1,c2,c3⟩,⟨k1,k2⟩,k3,nd3⟩:=nd2;refine zi ⟨_,rfl,⟨old.1,fun o ho => ?_⟩,hw5,ot,ob,rs.flatten,ids1, ?_, ?_, ?_, ?_, ?_, ?_⟩
   ·have:=lt p4 (by simp);rw [qH (by omega)]; exact old.2 o ho
   ·simp
   ·rw [qH (fun e=>a2 e.symm),hd' ot (by simp)]; exact htH
   ·rw [qH (fun e=>a3 e.symm)]; exact cb
   ·exact own.owl.mono fun o ho=>qH fun e=>a4 (e▸ho)
   ·exact List.Sublist.nodup (.cons _ (.cons _ (List.Sublist.refl _))) nd
   ·intro o ho;have hm:o∈p4::pg::ot::ob::ids1:=by
     simp only [aL] at ho ⊢;exact .inr (.inr ho)
    exact ⟨lt o hm,hall o hm⟩
end Go.Vw
namespace Go.Vw
open Go.Proofs Go.RowKit
attribute [-simp] List.map_set
theorem DceRunErr_v (e:Ss.Env) (f:Ss.Fn) (he:e.Fits) (hf:f.Fits) (hc:Ss.check e f=false):bS 10 [qL e,jI f] (.tuple [jI Ss.emptyFn,vint 6]):=by
 intro S;have cck:=Check_v e f he hf;generalize Ss.check e f=ck at *
 obtain ⟨⟨fi,fo⟩,ts,bs⟩:=f;obtain ⟨sg,im,gl,mu,me⟩:=e;have cck':bS 24 [.agg [vl jm sg,vint im,vl vint gl,vl V.bool mu, .bool me], .agg [vl vint fi,vl vint fo,vl vint ts,vl je bs]] (.bool ck):=cck;refine qA (c:=jc Tryz.f10) Tryz.func10 rfl (by conv=>lhs; reduce) (by simp [Tryz.ntmps10]) ?_;rw [Tryz.ntmps10];intro hwf;refine QY ?_;refine QH 2 0 ?_;refine QH 3 1 ?_;refine QO [2,3,4,5] ?_;refine QK [2] ?_;refine QP ?_;refine QL (cck') ?_;refine bB hc ?_;refine QN ?_
 refine bx hc ?_
 refine WW (xs:=[.agg [.nils, .nils, .nils, .nils], .int .i64 6]) (by simp) ?_;exact qy hwf ((Ghost.tuple [] [_] (empty_ghost _)).toB _) zI (by rfl)
theorem DceP_v (e:Ss.Env) (f:Ss.Fn) (he:e.Fits) (hf:f.Fits):bS 10 [qL e,jI f] (.tuple [jI (Ss.dceOut e f).1,vint (Ss.dceOut e f).2]):=by
 cases hc:Ss.check e f with
 | false=>rw [Ss.dceOut_f hc]; exact DceRunErr_v e f he hf hc
 | true =>
  rw [Ss.dceOut_t hc];intro S;refine JH fun hwf=>qZ ((DceRun_v S e f he hf hc).mono ?_)
  rintro r T ⟨r',rfl,hag,hwT,ot,ob,cells,ids,rfl,hot,hob,how,hnd,hids⟩;have hg:=fn_ghostD (fi:=f.sig.inn) (fo:=f.sig.out) how hob rfl hot rfl hnd;have hfin:Agree S (T.dels (ot::ob::ids)):=by
   refine ⟨by rw [jaR]; exact hag.1,fun o ho => ?_⟩;rw [KB,if_neg]
   ·exact hag.2 o ho
   ·intro hm;have:=(hids o hm).1; omega
  exact qy hwf ((Ghost.tuple [] [_] hg).toB _) hfin (by simp [jI])
end Go.Vw
namespace Ss
end Ss
namespace Go.Vw
open Go.Proofs Go.RowKit
theorem ghost_single {x x':V} {S S':Store} (h:GhostArgs [x] S [x'] S'):Ghost x S x' S':=by
 intro m β w v hS hr;obtain ⟨m',β',h1,h2,h3⟩:=h m β w [v] hS ((RepL.nil m β).cons hr);exact ⟨m',β',h1,h2,h3.2 0 x' v rfl rfl⟩
end Go.Vw
namespace Ss
def smallD:Fn:=⟨⟨[127,127],[127]⟩,[127,127,127],[⟨[0,1],[⟨258,0,[],[]⟩,⟨106,0,[0,1],[2]⟩],⟨4,0,[],[0]⟩⟩]⟩
def smallD':Fn:=⟨⟨[127,127],[127]⟩,[127,127,127],[⟨[0,1],[⟨258,0,[],[]⟩],⟨4,0,[],[0]⟩⟩]⟩
def envD:Env:=⟨[],0,[],[],false⟩
theorem smallD_defs:defsOf smallD=some [⟨true,0, -1⟩,⟨true,0, -1⟩,⟨true,0,1⟩]:=by decide
theorem smallD_succs:succs smallD.blocks=[[]]:=by decide
theorem smallD_rings:rings smallD.blocks [[]]=false:=by
 simp [rings,smallD,tickB,ringM,ringW,List.range_succ]
theorem smallD_shape:shapeOk smallD=true:=by
 have h1:Go.Vw.G.right [[]]=true:=by decide
 have h2:Go.Vw.G.ordI [[]]=[0]:=by decide
 have h3:Go.Vw.G.nats [[]]=[[]]:=rfl;simp only [shapeOk,smallD_succs,h1,h2,h3,smallD_rings]
 decide
theorem smallD_check:check envD smallD=true:=by
 have h1:checkHead envD smallD=true:=by decide
 have hn:numSig 106=([127,127],127,true):=by decide
 have hf : ∀ n o,form envD 106 n o=⟨[127,127],[127],0,true⟩:=fun n o=>by
  have e0:form envD 106 n o=formNum envD 106:=by simp [form]
  rw [e0,formNum,hn]
 have hf2 : ∀ n o,form envD 258 n o=⟨[],[],0,true⟩:=fun n o=>by simp [form]
 simp only [check,h1,smallD_defs,smallD_shape,aE];generalize Go.Vw.G.nearI (succs smallD.blocks)=near;simp [smallD,checkBlocks,checkCode,insOk,hf,hf2,insOut,typesOf,asks,Go.Vw.eqF,termOk,termHead,termTail,branches,askOk]
theorem smallD_need:dNeed smallD=[true,true,false]:=by
 have hp:pure 106=true:=by decide
 have hp2:pure 258=false:=by decide
 have hr:roots smallD=[0,1,0]:=by simp [roots,rootsB,smallD,hp,hp2,branches]
 have ht:askTab smallD=[[],[],[0,1]]:=by simp [askTab,askBlock,askIns,smallD,hp,hp2]
 have hl:smallD.types.length=3:=rfl;rw [dNeed,hr,ht,hl];simp [dfs,on,List.replicate]
theorem smallD_dce:dceF smallD=smallD':=by
 have hp:pure 106=true:=by decide
 have hp2:pure 258=false:=by decide
 rw [dceF,smallD_need];simp [smallD,smallD',dBlock,dKeep,hp,hp2,on]
theorem smallD_out:dceOut envD smallD=(smallD',0):=by rw [dceOut_t smallD_check,smallD_dce]
theorem smallD_fits:smallD.Fits:=by
 simp [smallD,Fn.Fits,Sig.Fits,Ints,Block.Fits,Ins.Fits,Term.Fits,I64]
theorem envD_fits:envD.Fits:=by
 simp [envD,Env.Fits,Ints,I64]
end Ss
namespace Go.Vw
open Go.Proofs Go.RowKit
attribute [-simp] List.map_set
theorem DNeeded_v (e:Ss.Env) (f:Ss.Fn) (he:e.Fits) (hf:f.Fits) (hc:Ss.check e f=true):bS 20 [qL e,jI f] (.tuple [vl V.bool (Ss.dNeed f),vint 0]):=by
 intro S;have cck:=Check_v e f he hf;have cne:=Needed_v e f hf hc;generalize Ss.check e f=ck at *
 generalize Ss.dNeed f=need at *
 obtain ⟨⟨fi,fo⟩,ts,bs⟩:=f;obtain ⟨sg,im,gl,mu,me⟩:=e;have cck':bS 24 [.agg [vl jm sg,vint im,vl vint gl,vl V.bool mu, .bool me], .agg [vl vint fi,vl vint fo,vl vint ts,vl je bs]] (.bool ck):=cck;have cne':bS 25 [.agg [vl vint fi,vl vint fo,vl vint ts,vl je bs]] (vl V.bool need):=cne;refine QB (c:=jc Tryz.f20) Tryz.func20 Tryz.ntmps20 fun hwf=>?_
 refine QY ?_;refine QH 2 0 ?_;refine QH 3 1 ?_;refine QP ?_;refine QL (cck') ?_;refine bB hc ?_;refine QN ?_
 refine bx hc ?_
 refine QP ?_;refine QL (cne') ?_;refine bQ ?_
 exact ja (X := .tuple [vl V.bool need,vint 0]) hwf (by simp) rfl
theorem jbP (S:Store):Ghost (.agg [.nils, .int .i64 0, .nils, .nils, .bool false]) S (qL Ss.envD) S:=by
 refine Ghost.agg_nl rfl fun i x y hx hy => ?_
 match i,hx,hy with
 | 0,hx,hy=>cases hx; cases hy; exact .inr ⟨rfl,rfl⟩
 | 1,hx,hy=>cases hx; cases hy; exact .inl rfl
 | 2,hx,hy=>cases hx; cases hy; exact .inr ⟨rfl,rfl⟩
 | 3,hx,hy=>cases hx; cases hy; exact .inr ⟨rfl,rfl⟩
 | 4,hx,hy=>cases hx; cases hy; exact .inl rfl
theorem small15_v:bS 37 [.int .i64 0, .list [.int .i64 127], .list [.agg [.int .i64 106, .int .u64 0, .list [.int .i64 0, .int .i64 1], .list [.int .i64 2]]]] (jI Ss.smallD):=by
 intro S;have hcv : ∀ l,(vl jp l).closed1=true:=fun _=>rfl
 have hk1 : ∀ k n,(V.int k n).closed1=true:=fun _ _=>rfl
 have hk2 : ∀ l,(V.list l).closed1=true:=fun _=>rfl
 have hr2:rep0 [V.int .i64 0] 2=[.int .i64 0, .int .i64 0]:=rfl;have hr1:rep0 [V.int .i64 0] 1=[.int .i64 0]:=rfl;have hr4:rep0 [V.int .i64 0, .int .u64 0, .nils, .nils] 1=[.int .i64 0, .int .u64 0, .nils, .nils]:=rfl;have hr6:rep0 [V.nils, .nils, .int .i64 0, .int .i64 0, .nils, .nils] 1=[.nils, .nils, .int .i64 0, .int .i64 0, .nils, .nils]:=rfl;refine qA (c:=jc Tryz.f37) Tryz.func37 rfl (by conv=>lhs; reduce) (by simp [Tryz.ntmps37]) ?_;rw [Tryz.ntmps37];intro hwf;refine QY ?_;refine QY ?_ (r:=by conv=>lhs;simp[QV,hr2,hr1,hr4,hr6,jR,jO])
 apply jE
 ·exact Reach.nilCell (k:=3) (i:=2) (by simp) (by rfl) (by rfl)
 simp only [aq,au]
 apply jE
 ·exact Reach.nilCell (k:=3) (i:=3) (by simp) (by rfl) (by rfl)
 simp only [aq,au]
 apply jE
 ·exact Reach.frzCellS (enc:=jp) (s:=4) (fun _=>rfl) JZ (k:=5) (j:=3) (i:=1) [⟨258,0,[],[]⟩,⟨106,0,[0,1],[2]⟩] (by decide) (by simp) (by simp) (by rfl) (by rfl) (by rfl)
 simp only [aq,au]
 apply jE
 ·exact Reach.frzCell (k:=5) (j:=1) (i:=0) (by decide) (by simp) (by simp) (by rfl) (by rfl) (by rfl) (by rfl) (by rfl)
 simp only [aq,au]
 apply jE
 ·exact Reach.nilCell (k:=5) (i:=4) (by simp) (by rfl) (by rfl)
 simp only [aq,au]
 apply jE
 ·exact Reach.frzCell (k:=5) (j:=4) (i:=5) (by decide) (by simp) (by simp) (by rfl) (by rfl) (by rfl) (by rfl) (by rfl)
 simp only [aq,au];refine QT ?_;refine vw_drawFrz (ZZ.mk _ (St S [] [none,none,none,none,none,some (6,[.list [.int .i64 0, .int .i64 1],vl jp [⟨258,0,[],[]⟩,⟨106,0,[0,1],[2]⟩], .int .i64 4, .int .i64 0, .list [], .list [.int .i64 0]])]) (St S [] [none,none,none,none,none,some (6,[.list [.int .i64 0, .int .i64 1],vl jp [⟨258,0,[],[]⟩,⟨106,0,[0,1],[2]⟩], .int .i64 4, .int .i64 0, .list [], .list [.int .i64 0]])]) []) [17,18,24] rfl (by kernel_rfl) (by conv=>lhs; reduce) (by conv=>lhs; reduce) (by conv=>lhs; reduce) (by kernel_rfl) (by kernel_rfl) (Kl (by simp [subU,shpU,subL,shpL])) (Store.sub_refl _) (by conv=>lhs; simp [QV,hr2,hr1,hr6,hk1,hk2]) ?_;refine QI ?_ (r:=by conv=>lhs;simp[QV,hr2]);refine QZ ?_;refine QI ?_ (r:=by conv=>lhs;simp[QV,jR,jO]);refine QM (by conv=>lhs;simp[QV,hr6,hk1,hk2,hcv]) ?_
 refine QI ?_;refine QN ?_
 apply jE
 ·exact Reach.frzCell (k:=0) (j:=7) (i:=2) (by decide) (by simp) (by simp) (by rfl) (by rfl) (by rfl) (by rfl) (by rfl)
 simp only [aq,au]
 refine bw ?_
 exact WW (by simp; rfl) (ja hwf (by simp [Ss.smallD,vl]) rfl)
theorem code15_ghost {S:Store} {oc a b:Nat} (hc:S.get oc=some (4,[.int .i64 106, .int .u64 0, .slice a 0 2, .slice b 0 1])) (ha:S.get a=some (1,[.int .i64 0, .int .i64 1])) (hb:S.get b=some (1,[.int .i64 2])) (hd:[oc,a,b].Nodup) :
  Ghost (.slice oc 0 1) S (.list [.agg [.int .i64 106, .int .u64 0, .list [.int .i64 0, .int .i64 1], .list [.int .i64 2]]]) (S.dels [oc,a,b]):=by
 have hw:OwL S (reps 1 [.c, .c, .s (List.replicate 1 .c), .s (List.replicate 1 .c)]) [.int .i64 106, .int .u64 0, .slice a 0 2, .slice b 0 1] [.int .i64 106, .int .u64 0,vl vint [0,1],vl vint [2]] [a,b]:=by
  refine .c rfl (.c rfl (OwL.slice (enc:=vint) (fun _=>rfl) (fun _=>rfl) [0,1] (by rw [qn]; exact ha) ?_));exact OwL.slice (enc:=vint) (fun _=>rfl) (fun _=>rfl) [2] (by rw [qn]; exact hb) .nil
 have:=OwL.s (S:=S) (o:=oc) (tys:=[.c, .c, .s (List.replicate 1 .c), .s (List.replicate 1 .c)]) (ys:=[.agg [.int .i64 106, .int .u64 0, .list [.int .i64 0, .int .i64 1], .list [.int .i64 2]]]) (i:=[a,b]) (j:=[]) hc (fun y hy=>by
  simp only [aL,List.not_mem_nil,or_false] at hy;subst hy; exact ⟨rfl,rfl⟩) hw .nil
 exact ghost_single (this.freeze hd S fun _ _=>rfl)
theorem Alive15_v:bS 13 [] (.bool true):=by
 intro S;have hr1:rep0 [V.int .i64 0] 1=[.int .i64 0]:=rfl;have hr2:rep0 [V.int .i64 0] 2=[.int .i64 0, .int .i64 0]:=rfl;have hr4:rep0 [V.int .i64 0, .int .u64 0, .nils, .nils] 1=[.int .i64 0, .int .u64 0, .nils, .nils]:=rfl;have cs:=small15_v;have cb:=DceP_v Ss.envD Ss.smallD Ss.envD_fits Ss.smallD_fits;have cn:=DNeeded_v Ss.envD Ss.smallD Ss.envD_fits Ss.smallD_fits Ss.smallD_check;rw [Ss.smallD_out] at cb;rw [Ss.smallD_need] at cn;have hF':jI Ss.smallD' = .agg [vl vint [127,127],vl vint [127],vl vint [127,127,127],vl je [⟨[0,1],[⟨258,0,[],[]⟩],⟨4,0,[],[0]⟩⟩]]:=rfl;obtain ⟨f1,f2,f3,f4,hF,o1,o2,o3,o4,c1,c2,c3,c4⟩ : ∃ f1 f2 f3 f4,jI Ss.smallD = .agg [f1,f2,f3,f4]/\f1.one=true/\f2.one=true/\f3.one=true/\f4.one=true/\f1.closed1=true/\f2.closed1=true/\f3.closed1=true/\f4.closed1=true:=⟨_,_,_,_,rfl,rfl,rfl,rfl,rfl,rfl,rfl,rfl,rfl⟩
 rw [hF] at cs cb cn;rw [hF'] at cb;refine QB (c:=jc Tryz.f13) Tryz.func13 Tryz.ntmps13 fun hwf=>?_
 refine QY ?_;refine QP ?_ (r:=by conv=>lhs;simp[QV,hr1,hr2,hr4]);have hg1:GhostArgs [.int .i64 0, .slice (lid S.nx 0) 0 1, .slice (lid S.nx 3) 0 1] (St S [] [some (1,[.int .i64 127]),some (1,[.int .i64 0, .int .i64 1]),some (1,[.int .i64 2]),some (4,[.int .i64 106, .int .u64 0, .slice (lid S.nx 1) 0 2, .slice (lid S.nx 2) 0 1])]) [.int .i64 0, .list [.int .i64 127], .slice (lid S.nx 3) 0 1] (St S [] [none,some (1,[.int .i64 0, .int .i64 1]),some (1,[.int .i64 2]),some (4,[.int .i64 106, .int .u64 0, .slice (lid S.nx 1) 0 2, .slice (lid S.nx 2) 0 1])]):=GhostArgs.one [.int .i64 0] [_] (frz1 (k:=0) (len:=1) (by simp) rfl rfl rfl);have hg2 := @code15_ghost (St S [] [none,some (1,[.int .i64 0, .int .i64 1]),some (1,[.int .i64 2]),some (4,[.int .i64 106, .int .u64 0, .slice (lid S.nx 1) 0 2, .slice (lid S.nx 2) 0 1])]) (lid S.nx 3) (lid S.nx 1) (lid S.nx 2) (by rw [jv]; rfl) (by rw [jv]; rfl) (by rw [jv]; rfl) (by simp [lid])
 have hdl:(St S [] [none,some (1,[.int .i64 0, .int .i64 1]),some (1,[.int .i64 2]),some (4,[.int .i64 106, .int .u64 0, .slice (lid S.nx 1) 0 2, .slice (lid S.nx 2) 0 1])]).dels [lid S.nx 3,lid S.nx 1,lid S.nx 2]=St S [] [none,none,none,none]:=by
  simp [Store.dels,jbY]
 rw [hdl] at hg2;refine qU rfl (hg1.trans (GhostArgs.one [_,_] [] hg2)) cs ?_;refine QM (by conv=>lhs;simp[QV,o1,o2,o3,o4]) ?_;refine QN ?_;refine jt 1 rfl ((refSt (k:=4) (by simp) (by rfl) (by simp [c1,c2,c3,c4]) (by simp))) (by conv=>lhs; simp [Fr.set]) ?_;simp only [aq,au];refine QP ?_ (r:=by conv=>lhs;simp[QV,o1,o2,o3,o4]);refine qU rfl (GhostArgs.one [] [_] (jbP _)) cb ?_;refine QW ?_;have hix0 : ∀ S,jB 1 S (vl V.bool [true,true,false]) (.int .i64 0)=some (.ref (.bool true)):=fun _=>rfl
 have hix2 : ∀ S,jB 1 S (vl V.bool [true,true,false]) (.int .i64 2)=some (.ref (.bool false)):=fun _=>rfl
 refine QP ?_ (r:=by conv=>lhs;simp[QV,o1,o2,o3,o4]);refine qU rfl (GhostArgs.one [] [_] (jbP _)) cn ?_;refine QW ?_
 refine bt hix0 hix2 ?_
 exact ja (X := .bool true) hwf (by simp) rfl
end Go.Vw
