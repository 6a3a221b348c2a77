import Derived.Test.YtcpncecdegmliaaGreatC23
/- Part of the proof. -/
set_option linter.unusedVariables false
set_option linter.unusedSimpArgs false
set_option maxRecDepth 10000
set_option maxHeartbeats 4000000
namespace Go.Vw
open Go.Proofs Go.RowKit
attribute [-simp] List.map_set
theorem Wi {i:Nat} {ds:List Ss.Def} {bs:List Ss.Block} (h:i<bs.length):Ss.putBlocks i ds (bs.drop i)=((Ss.put i (-1) ds bs[i].params).bind fun d=>Ss.putCode i 0 d bs[i].code).bind fun d=>Ss.putBlocks (i+1) d (bs.drop (i+1)):=by
 rw [List.drop_eq_getElem_cons h,Ss.putBlocks]
theorem putCode_one {i:Int} {k:Nat} {ds:List Ss.Def} {l:List Ss.Ins} (h:k<l.length):Ss.putCode i k ds (l.drop k)=(Ss.put i k ds l[k].outs).bind fun d=>Ss.putCode i (k+1) d (l.drop (k+1)):=by
 rw [List.drop_eq_getElem_cons h,Ss.putCode]
theorem flatC_rep0 (n:Nat):(List.replicate n [V.bool false, .int .i64 0, .int .i64 0]).flatten=js qH (List.replicate n ⟨false,0,0⟩):=by
 induction n with
 | zero=>rfl
 | succ n ih=>rw [List.replicate_succ,List.replicate_succ,List.flatten_cons,ih]; rfl
theorem qJ (f:Nat→Nat) (l:List Ss.Def):V.renL f (js qH l)=js qH l:=Ws zt f l
theorem qL (p:Nat→Bool) (l:List Ss.Def):V.idsL p (js qH l)=true:=Wt zt p l
theorem define_v (S:Store) (e:Ss.Env) (f:Ss.Fn) (ck:Nat) (hf:f.Fits) (hts:f.types.length≤1048576) (hc:S.get ck=some (11,ckC e f .nils .nils)) :
  VCalls Tryz.prog 56 [.ptr ck 0] S (fun r T => ∃ ds',ds'.length=f.types.length∧r = .bool (Ss.defsOf f).isSome∧(∀ d,Ss.defsOf f=some d→ds'=d)∧T=St S [(ck,some (11,ckC e f (.slice (lid S.nx 0) 0 f.types.length) .nils))] [some (3,js qH ds')]):=by
 obtain ⟨_,_,⟨hbl0,hbf⟩⟩:=hf;obtain ⟨⟨fi,fo⟩,ts,bs⟩:=f;obtain ⟨sg,im,gl,mu,me⟩:=e;simp only at hts hbl0 hbf hc ⊢;have hbl:bs.length<2^63:=by omega
 generalize hD:Ss.defsOf ⟨⟨fi,fo⟩,ts,bs⟩=D;refine QB (c:=jc Tryz.f56) Tryz.func56 Tryz.ntmps56 fun hwf=>?_
 have hcn:=jx hwf hc;have oc:=fun u l => @jm S u l ck hcn
 have hupd:=fun u l c => @qN S u l c ck hcn
 have gp:=fun ks=>za (n:=S.nx) ks hcn
 have gt:=fun ks=>qy (n:=S.nx) ks hcn
 have hb24:ts.length*24≤140737488355328:=by omega
 have hb0:ts.length≤140737488355328:=by omega
 rw [JM hc];refine QT ?_;refine QY ?_;refine QT ?_;refine QJ (St S [(ck,none)] [some (1,[.ptr ck 0])]) (St S [(ck,some (11,ckC ⟨sg,im,gl,mu,me⟩ ⟨⟨fi,fo⟩,ts,bs⟩ .nils .nils))] [some (1,[.ptr ck 0])]) [13] ?_ (r:=by conv=>lhs; simp [QV,oc,hc]);refine QI ?_ (r:=by conv=>lhs;simp[QV,hb24,hb0]);refine QM (by conv=>lhs;simp[QV,oc,hc]) ?_;refine QI ?_ (r:=by conv=>lhs;simp[QV,oc,hc,hupd]);refine QN ?_;have hr0:rep0 [V.bool false, .int .i64 0, .int .i64 0] ts.length=js qH (List.replicate ts.length ⟨false,0,0⟩):=flatC_rep0 _
 repeat first|refine QG ?_|refine QY ?_ (r:=by conv=>lhs;simp[QV,oc,hupd])
 refine QT ?_;refine jd [3,23,24,25] rfl (fun c σ S' => ∃ (k:Nat) (d:List Ss.Def),k≤bs.length∧c=bs.length-k∧d.length=ts.length∧Ss.putBlocks k d (bs.drop k)=D∧σ=[(3, .func 89 [.ptr (lid S.nx 0) 0]),(23,vl je bs),(24,vnat bs.length),(25,vnat k)]∧S'=St S [(ck,some (11,ckC ⟨sg,im,gl,mu,me⟩ ⟨⟨fi,fo⟩,ts,bs⟩ (.slice (lid S.nx 1) 0 ts.length) .nils))] [some (1,[.ptr ck 0]),some (3,js qH d)]) bs.length ?_ ?_
 ·exact ⟨0,List.replicate ts.length ⟨false,0,0⟩,by omega,rfl,by simp,by rw [←hD]; rfl,by simp [Fr.only],by simp [hr0]⟩
 ·rintro c σ T ⟨k,d,hk,rfl,hdl,hpd,rfl,rfl⟩
  by_cases hkt:k<bs.length
  ·have hw:=jh hkt hbl;have hst:=Wi (ds:=d) hkt;have hbk:=hbf _ (List.getElem_mem hkt);obtain ⟨⟨ps,code,⟨tk,ta,to,az⟩⟩,hx⟩ : ∃ b,bs[k]=b:=⟨_,rfl⟩
   rw [hx] at hst hbk;obtain ⟨⟨hpl,_⟩,⟨hcl,hcf⟩,_⟩:=hbk;simp only at hst hpl hcl hcf
   repeat first|refine QG ?_|refine QY ?_ (r:=by conv=>lhs;simp[QV,hkt,hx])
   refine QT ?_;refine QP ?_ (r:=by conv=>lhs;simp[QV,hkt,hx]);refine zj rfl rfl rfl (define1_v _ ⟨sg,im,gl,mu,me⟩ ⟨⟨fi,fo⟩,ts,bs⟩ .nils (lid S.nx 0) ck (lid S.nx 1) d ps k (-1) (by omega) (by omega) (by simp) (by rw [oc]; simp [uGet,hdl]) (by simp) (by simp [lid]) (by simp [lid]; omega)) ?_;rintro X S2 ⟨d1,hd1,rfl,hp1,rfl⟩;rw [Jy (by simp)];simp only [List.set_cons_succ,List.set_cons_zero];obtain ⟨z,hz⟩ : ∃ z,(Ss.put k (-1) d ps).isSome=z:=⟨_,rfl⟩
   rw [hz]
   by_cases hz1:z=true
   case neg =>
    have hz2:z=false:=by simpa using hz1
    have hD2:D=none:=by
     rw [←hpd,hst];have:Ss.put k (-1) d ps=none:=by rw [hz2] at hz; simpa using hz
     rw [this]; rfl
    refine QM (by conv=>lhs;simp[QV,hz2]) ?_;refine QN ?_;refine QO [35] ?_;refine Zr [1] hwf (by decide) (by simp [qL,gp]) (by conv=>lhs; simp) (by conv=>lhs; simp [qJ,gt]) (by conv=>lhs; simp) ?_
    repeat first|refine QG ?_|refine QY ?_
    exact zN ⟨d1,by omega,by simp [hD2],by simp [hD2],by simp⟩
   obtain ⟨d2,hq1⟩ : ∃ d2,Ss.put k (-1) d ps=some d2:=by rw [hz1] at hz; exact Option.isSome_iff_exists.1 hz
   obtain rfl:=hp1 _ hq1;rw [hq1] at hst;have hst1:Ss.putBlocks k d (bs.drop k)=(Ss.putCode k 0 d1 code).bind fun d=>Ss.putBlocks (k+1) d (bs.drop (k+1)):=hst
   refine QM (by conv=>lhs;simp[QV,hz1]) ?_;refine QN ?_
   repeat first|refine QG ?_|refine QY ?_
   refine QO [3,4,23,24,25,37,38,39] ?_;refine Zr [0,1] hwf (by decide) (by simp [qL,gp]) (by conv=>lhs; simp) (by conv=>lhs; simp [qJ,gt]) (by conv=>lhs; simp) ?_;refine QT ?_;refine jd [3,4,23,24,25,37,38,39] rfl (fun c σ S' => ∃ (j:Nat) (d:List Ss.Def),j≤code.length∧c=code.length-j∧d.length=ts.length∧Ss.putCode k j d (code.drop j)=Ss.putCode k 0 d1 code∧σ=[(3, .func 89 [.ptr (lid S.nx 0) 0]),(4,vnat k),(23,vl je bs),(24,vnat bs.length),(25,vnat k),(37,vl jp code),(38,vnat code.length),(39,vnat j)]∧S'=St S [(ck,some (11,ckC ⟨sg,im,gl,mu,me⟩ ⟨⟨fi,fo⟩,ts,bs⟩ (.slice (lid S.nx 1) 0 ts.length) .nils))] [some (1,[.ptr ck 0]),some (3,js qH d)]) code.length ?_ ?_
   ·exact ⟨0,d1,by omega,rfl,by omega,rfl,by simp [Fr.only],by simp⟩
   ·rintro c σ T ⟨j,d3,hj,rfl,hdl3,hpc,rfl,rfl⟩
    by_cases hjt:j<code.length
    ·have hwj:=jh hjt (by omega);have hsc:=putCode_one (i:=k) (ds:=d3) hjt;have hif:=hcf _ (List.getElem_mem hjt);obtain ⟨⟨xo,xn,xa,xu⟩,hx2⟩ : ∃ b,code[j]=b:=⟨_,rfl⟩
     rw [hx2] at hsc hif;obtain ⟨_,_,_,⟨hul,_⟩⟩:=hif;simp only at hsc hul
     repeat first|refine QG ?_|refine QY ?_ (r:=by conv=>lhs;simp[QV,hjt,hx2])
     refine QT ?_;refine QP ?_ (r:=by conv=>lhs;simp[QV,hjt,hx2]);refine zj rfl rfl rfl (define1_v _ ⟨sg,im,gl,mu,me⟩ ⟨⟨fi,fo⟩,ts,bs⟩ .nils (lid S.nx 0) ck (lid S.nx 1) d3 xu k j (by omega) (by omega) (by simp) (by rw [oc]; simp [uGet,hdl3]) (by simp) (by simp [lid]) (by simp [lid]; omega)) ?_;rintro X S2 ⟨d4,hd4,rfl,hp4,rfl⟩;rw [Jy (by simp)];simp only [List.set_cons_succ,List.set_cons_zero];obtain ⟨z2,hz2⟩ : ∃ z,(Ss.put k j d3 xu).isSome=z:=⟨_,rfl⟩
     rw [hz2]
     by_cases hz3:z2=true
     case neg =>
      have hz4:z2=false:=by simpa using hz3
      have hD2:D=none:=by
       have:Ss.put k j d3 xu=none:=by rw [hz4] at hz2; simpa using hz2
       rw [←hpd,hst1, ←hpc,hsc,this]; rfl
      refine QM (by conv=>lhs;simp[QV,hz4]) ?_;refine QN ?_;refine QO [50] ?_;refine Zr [1] hwf (by decide) (by simp [qL,gp]) (by conv=>lhs; simp) (by conv=>lhs; simp [qJ,gt]) (by conv=>lhs; simp) ?_
      repeat first|refine QG ?_|refine QY ?_
      exact zN ⟨d4,by omega,by simp [hD2],by simp [hD2],by simp⟩
     obtain ⟨d5,hq5⟩ : ∃ d5,Ss.put k j d3 xu=some d5:=by rw [hz3] at hz2; exact Option.isSome_iff_exists.1 hz2
     obtain rfl:=hp4 _ hq5;rw [hq5] at hsc;have hsc1:Ss.putCode k j d3 (code.drop j)=Ss.putCode k (j+1) d4 (code.drop (j+1)):=hsc;refine QM (by conv=>lhs;simp[QV,hz3]) ?_;refine QN ?_
     repeat first|refine QG ?_|refine QY ?_
     refine qo [0,1] (by conv=>lhs; simp [Fr.only]) hwf (by decide) (by simp [qJ,qL,gp,gt]) (by conv=>lhs; simp [qJ,qL,gp,gt]) (by conv=>lhs; simp [qJ,qL,gp,gt]) (by conv=>lhs; simp [qJ,qL,gp,gt]) ⟨?_,j+1,d4,hjt,rfl,by omega,by rw [←hpc,hsc1],by simp [hwj],by simp⟩;omega
    ·have e1:code.drop j=[]:=by rw [List.drop_eq_nil_iff]; omega
     rw [e1] at hpc;have hpc1:Ss.putCode k 0 d1 code=some d3:=by rw [←hpc]; rfl
     rw [hpc1] at hst1
     repeat first|refine QG ?_|refine QY ?_ (r:=by conv=>lhs;simp[QV,hjt])
     refine qo [0,1] (by conv=>lhs; simp [Fr.only]) hwf (by decide) (by simp [qJ,qL,gp,gt]) (by conv=>lhs; simp [qJ,qL,gp,gt]) (by conv=>lhs; simp [qJ,qL,gp,gt]) (by conv=>lhs; simp [qJ,qL,gp,gt]) ⟨?_,k+1,d3,hkt,rfl,by omega,by rw [←hpd,hst1]; rfl,by simp [hw],by simp⟩;omega
  ·have e1:bs.drop k=[]:=by rw [List.drop_eq_nil_iff]; omega
   rw [e1] at hpd;have hD2:D=some d:=by rw [←hpd]; rfl
   refine QT ?_;refine QY ?_ (r:=by conv=>lhs;simp[QV,hkt]);refine QT ?_;refine jH rfl rfl rfl ?_;refine QT ?_;refine jW 0 rfl rfl ?_;refine QO [25] ?_;refine Zr [1] hwf (by decide) (by simp [qL,gp]) (by conv=>lhs; simp) (by conv=>lhs; simp [qJ,gt]) (by conv=>lhs; simp) ?_
   repeat first|refine QG ?_|refine QY ?_
   exact zN ⟨d,hdl,by simp [hD2],by simp [hD2],by simp⟩
theorem rings11_v (x:Ss.Ins):VPure Tryz.prog 109 ([jp x]++[]) (.bool (decide (x.op=258))):=by
 intro S;obtain ⟨o,n,a,u⟩:=x;refine QB (c:=jc Tryz.f109) Tryz.func109 Tryz.ntmps109 fun hwf=>?_
 repeat first|refine QG ?_|refine QY ?_
 exact ja hwf (by simp) rfl
theorem tick_v (l:List Ss.Ins) (hl:l.length<2^63):VPure Tryz.prog 108 [vl jp l, .func 109 []] (.bool (l.any fun x=>decide (x.op=258))) :=
 AnyN_v l (fun x=>decide (x.op=258)) _ [] rfl hl (fun x _=>rings11_v x)
theorem rings1_v (f:Ss.Fn) (g:List (List Nat)) (hgl:g.length=f.blocks.length) (hgb:g.length<2^62) (hrow : ∀ r∈g,r.length<2^62 ∧ ∀ k∈r,k<g.length) (hcode : ∀ b∈f.blocks,b.code.length<2^63) :
  ∀ (fuel n:Nat) (st:List Nat) (r:Bool) (s:List Nat) (S:Store) (ps os pw:Nat),n<g.length→st.length=g.length→S.get ps=some (1,[.slice os 0 g.length])→S.get os=some (1,st.map vnat) →
   S.get pw=some (1,[.func 107 [.ref (jJ f), .ptr ps 0, .ref (vl (vl vnat) g), .ptr pw 0]])→ps≠os→pw≠os→Ss.ringW (f.blocks.map Ss.tickB) g fuel n st=some (r,s) →
   VCalls Tryz.prog 107 [vnat n, .ref (jJ f), .ptr ps 0, .ref (vl (vl vnat) g), .ptr pw 0] S (fun x T=>x = .bool r∧T=S.upd os (1,s.map vnat)):=by
 intro fuel
 induction fuel with
 | zero=>intro n st r s S ps os pw _ _ _ _ _ _ _ h; rw [Ss.ringW] at h; cases h
 | succ fuel ih =>
  intro n st r s S ps os pw hn hsl hps hos hpw h1 h2 hr;obtain ⟨⟨fi,fo⟩,ts,bs⟩:=f;simp only at hgl hcode hr;have hnb:n<bs.length:=by omega
  have hns:n<st.length:=by omega
  have hct:=tick_v _ (hcode _ (List.getElem_mem hnb));obtain ⟨⟨bp,bc,⟨tk,ta,to,az⟩⟩,hx⟩ : ∃ b,bs[n]=b:=⟨_,rfl⟩
  have htk:(bs.map Ss.tickB).getD n false=bc.any fun x=>decide (x.op=258):=by simp [hnb,hx,Ss.tickB]
  rw [hx] at hct;simp only at hct;rw [Ss.ringW,htk] at hr;generalize (bc.any fun x=>decide (x.op=258))=tb at *
  refine QB (c:=jc Tryz.f107) Tryz.func107 Tryz.ntmps107 fun hwf=>?_
  have psn:=jx hwf hps;have osn:=jx hwf hos;have pwn:=jx hwf hpw;have ops:=fun u l => @jm S u l ps psn
  have oos:=fun u l => @jm S u l os osn
  have opw:=fun u l => @jm S u l pw pwn
  have hupd:=fun u l c => @qN S u l c os osn
  rw [JM hos];have fin : ∀ (b:Bool) (d:List Nat) (v:V),v = .bool b→r=b→s=d→zO S.nx (fun x T=>x = .bool r∧T=S.upd os (1,s.map vnat)) v (St S [(os,some (1,d.map vnat))] []):=by
   rintro b d v rfl rfl rfl;refine zi (X := .bool r) (S':=S.upd os (1,s.map vnat)) hwf rfl rfl (by simp [JI,jag,jae]) ?_ ⟨rfl,rfl⟩;simp only [gcU,gcE,Option.map_some,ZE];exact jaC hwf osn
  refine QT ?_;refine QY ?_;refine QT ?_;refine QP ?_ (r:=by conv=>lhs;simp[QV,hnb,hx]);refine QL (hct) ?_
  by_cases ht:tb=true
  ·rw [if_pos ht] at hr
   cases hr
   refine QM (by conv=>lhs;simp[QV,ht]) ?_;refine QN ?_
   repeat first|refine QG ?_|refine QY ?_
   exact fin _ _ _ (by simp) rfl rfl
  have ht':tb=false:=by simpa using ht
  rw [if_neg ht] at hr;have hgd:g.getD n []=g[n]:=by simp [hn]
  rw [hgd] at hr;obtain ⟨hrl,hrk⟩:=hrow _ (List.getElem_mem hn);obtain ⟨row,hrow'⟩ : ∃ row,g[n]=row:=⟨_,rfl⟩
  rw [hrow'] at hr hrl hrk;refine QM (by conv=>lhs;simp[QV,ht']) ?_;refine QN ?_
  repeat first|refine QG ?_|refine QY ?_ (r:=by conv=>lhs;simp[QV,ops,oos,opw,hps,hos,hpw,h1,h2,hn,hns,hupd,hrow'])
  obtain ⟨q,hq⟩ : ∃ q,Ss.ringL (bs.map Ss.tickB) g fuel row (st.set n 1)=some q:=by
   cases hz:Ss.ringL (bs.map Ss.tickB) g fuel row (st.set n 1) with
   | none=>rw [hz] at hr; cases hr
   | some q=>exact ⟨q,rfl⟩
  rw [hq] at hr;refine QT ?_;refine jd [0,2,4,22,23,24] rfl (fun c σ S' => ∃ (k:Nat) (d:List Nat),k≤row.length∧c=row.length-k∧d.length=g.length∧Ss.ringL (bs.map Ss.tickB) g fuel (row.drop k) d=some q∧σ=[(0,vnat n),(2, .ptr ps 0),(4, .ptr pw 0),(22,vl vnat row),(23,vnat row.length),(24,vnat k)]∧S'=St S [(os,some (1,d.map vnat))] []) row.length ?_ ?_
  ·exact ⟨0,st.set n 1,by omega,rfl,by simpa using hsl,hq,by simp [Fr.only],by simp [List.map_set]⟩
  ·rintro c σ T ⟨k,d,hk,rfl,hdl,hql,rfl,rfl⟩
   by_cases hkt:k<row.length
   ·have hw:=jh hkt (by omega);rw [List.drop_eq_getElem_cons hkt,Ss.ringL] at hql;have hkk:=hrk _ (List.getElem_mem hkt);obtain ⟨m,hm⟩ : ∃ m,row[k]=m:=⟨_,rfl⟩
    rw [hm] at hql hkk;have hmd:m<d.length:=by omega
    obtain ⟨x,hxd⟩ : ∃ x,d[m]=x:=⟨_,rfl⟩
    have hgd2:d.getD m 0=x:=by simp [hmd,hxd]
    rw [hgd2] at hql
    by_cases x1:x=1
    ·rw [if_pos x1] at hql
     cases hql
     simp only at hr
     cases hr
     repeat first|refine QG ?_|refine QY ?_ (r:=by conv=>lhs;simp[QV,hkt,hm,ops,oos,hps,hos,h1,hkk,hmd,hxd,x1])
     exact fin _ _ _ (by simp) rfl rfl
    have x1' : ¬ (x:Int)=1:=by omega
    rw [if_neg x1] at hql
    by_cases x0:x=0
    ·rw [if_pos x0] at hql;obtain ⟨⟨b2,s2⟩,hw2⟩ : ∃ p,Ss.ringW (bs.map Ss.tickB) g fuel m d=some p:=by
      cases hz:Ss.ringW (bs.map Ss.tickB) g fuel m d with
      | none=>rw [hz] at hql; cases hql
      | some q=>exact ⟨q,rfl⟩
     rw [hw2] at hql;have hs2:=Ss.ringW_len _ _ _ _ _ hw2;have x0':(x:Int)=0:=by omega
     repeat first|refine QG ?_|refine QY ?_ (r:=by conv=>lhs;simp[QV,hkt,hm,ops,oos,hps,hos,h1,hkk,hmd,hxd,x1,x1',x0,x0'])
     refine QT ?_;refine QP ?_ (r:=by conv=>lhs;simp[QV,hkt,hm,ops,oos,opw,hps,hos,hpw,h1,h2,hkk,hmd,hxd,x1,x1',x0,x0']);refine zj rfl rfl rfl (ih m d b2 s2 _ ps os pw hkk hdl (by rw [ops]; simp [uGet,h1,hps]) (by rw [oos]; simp [uGet]) (by rw [opw]; simp [uGet,h2,hpw]) h1 h2 hw2) ?_;rintro X S2 ⟨rfl,rfl⟩;rw [hupd];simp only [uSet,if_true]
     by_cases hb2:b2=true
     ·rw [hb2] at hql;simp only at hql
      cases hql
      simp only at hr
      cases hr
      refine QM (by conv=>lhs;simp[QV,hb2]) ?_;refine QN ?_
      repeat first|refine QG ?_|refine QY ?_
      exact fin _ _ _ (by simp) rfl rfl
     ·have hb2':b2=false:=by simpa using hb2
      rw [hb2'] at hql;simp only at hql;refine QM (by conv=>lhs;simp[QV,hb2']) ?_;refine QN ?_
      repeat first|refine QG ?_|refine QY ?_
      show jy _ _ _ _ _ _ _;exact again ⟨Nat.sub_lt_sub_left hkt (Nat.lt_succ_self k),k+1,s2,hkt,rfl,by omega,hql,by simp [Fr.only,hw],rfl⟩
    ·rw [if_neg x0] at hql;have x0' : ¬ (x:Int)=0:=by omega
     repeat first|refine QG ?_|refine QY ?_ (r:=by conv=>lhs;simp[QV,hkt,hm,ops,oos,hps,hos,h1,hkk,hmd,hxd,x1,x1',x0,x0'])
     show jy _ _ _ _ _ _ _;exact again ⟨Nat.sub_lt_sub_left hkt (Nat.lt_succ_self k),k+1,d,hkt,rfl,hdl,hql,by simp [Fr.only,hw],rfl⟩
   ·have e1:row.drop k=[]:=by rw [List.drop_eq_nil_iff]; omega
    rw [e1,Ss.ringL] at hql
    cases hql
    simp only at hr
    cases hr
    have hnd:n<d.length:=by omega
    have e2:(d.map vnat).set n (.int .i64 2)=(d.set n 2).map vnat:=by simp [List.map_set,vnat]
    repeat first|refine QG ?_|refine QY ?_ (r:=by conv=>lhs;simp[QV,hkt,ops,oos,hps,hos,h1,hn,hnd,hupd])
    rw [e2];exact fin _ _ _ (by simp) rfl rfl
theorem Wg (f:Nat→Nat) (n:Nat) (k:IntKind) (x:Int):V.renL f (List.replicate n (V.int k x))=List.replicate n (V.int k x):=by
 rw [qe]; simp [V.ren]
theorem Wp (p:Nat→Bool) (n:Nat) (k:IntKind) (x:Int):V.idsL p (List.replicate n (V.int k x))=true:=by
 rw [qm]; simp [V.ids]
theorem rings_v (f:Ss.Fn) (g:List (List Nat)) (hgl:g.length=f.blocks.length) (hgb:g.length≤4096) (hrow : ∀ r∈g,r.length<2^62 ∧ ∀ k∈r,k<g.length) (hcode : ∀ b∈f.blocks,b.code.length<2^63) :
  VPure Tryz.prog 90 [jJ f,vl (vl vnat) g] (.bool (Ss.rings f.blocks g)):=by
 intro S;have hg0 : ∀ n, ∀ k∈g.getD n [],k<g.length:=by
  intro n k hk
  by_cases h:n<g.length
  ·rw [List.getD_eq_getElem?_getD,List.getElem?_eq_getElem h] at hk;exact (hrow _ (List.getElem_mem h)).2 k hk
  ·rw [List.getD_eq_getElem?_getD,List.getElem?_eq_none (by omega)] at hk;simp at hk
 obtain ⟨q,hq⟩:=Ss.ringM_ends (tick:=f.blocks.map Ss.tickB) (fuel:=g.length+1) hg0 (by omega) (List.range g.length) (List.replicate g.length 0) (by simp) (by simp);have hX:Ss.rings f.blocks g=q:=by simp [Ss.rings,hq]
 rw [hX];have cw:=rings1_v f g hgl (by omega) hrow hcode;obtain ⟨⟨fi,fo⟩,ts,bs⟩:=f;simp only at hq cw;have hb8:g.length*8≤140737488355328:=by omega
 have hb0:g.length≤140737488355328:=by omega
 refine QB (c:=jc Tryz.f90) Tryz.func90 Tryz.ntmps90 fun hwf=>?_
 refine QT ?_;refine QY ?_;refine QH 2 0 ?_;refine jt 3 rfl ((boxSt (k:=1) (by simp) (by rfl) (by rfl))) (by conv=>lhs; simp [Fr.set]) ?_;simp only [List.set_cons_succ,List.set_cons_zero]
 repeat first|refine QG ?_|refine QY ?_ (r:=by conv=>lhs;simp[QV,hb8,hb0])
 refine QO [5,6,13,14] ?_;refine Zr [2,3,4] hwf (by decide) (by simp [Wp,Wg]) (by conv=>lhs; simp [Wp,Wg]) (by conv=>lhs; simp [Wp,Wg]) (by conv=>lhs; simp [Wp,Wg]) ?_;refine QT ?_;refine jd [5,6,13,14] rfl (fun c σ S' => ∃ (k:Nat) (st:List Nat),k≤g.length∧c=g.length-k∧st.length=g.length∧Ss.ringM (bs.map Ss.tickB) g (g.length+1) ((List.range g.length).drop k) st=some q∧σ=[(5, .ptr (lid S.nx 1) 0),(6, .ptr (lid S.nx 2) 0),(13,vnat g.length),(14,vnat k)]∧S'=St S [] [some (1,st.map vnat),some (1,[.slice (lid S.nx 0) 0 g.length]),some (1,[.func 107 [.ref (.agg [vl vint fi,vl vint fo,vl vint ts,vl je bs]), .ptr (lid S.nx 1) 0, .ref (vl (vl vnat) g), .ptr (lid S.nx 2) 0]])]) g.length ?_ ?_
 ·exact ⟨0,List.replicate g.length 0,by omega,rfl,by simp,hq,by simp [Fr.only],by simp [vnat]⟩
 ·rintro c σ T ⟨k,st,hk,rfl,hsl,hm,rfl,rfl⟩
  by_cases hkt:k<g.length
  ·have hw:=jh hkt (by omega);rw [List.drop_eq_getElem_cons (by simpa using hkt),List.getElem_range,Ss.ringM] at hm;have hks:k<st.length:=by omega
   obtain ⟨x,hx⟩ : ∃ x,st[k]=x:=⟨_,rfl⟩
   have hgd:st.getD k 0=x:=by simp [hks,hx]
   rw [hgd] at hm
   by_cases x0:x=0
   ·rw [if_pos x0] at hm;have x0':(x:Int)=0:=by omega
    obtain ⟨⟨b,s⟩,hwk⟩ : ∃ p,Ss.ringW (bs.map Ss.tickB) g (g.length+1) k st=some p:=by
     cases hz:Ss.ringW (bs.map Ss.tickB) g (g.length+1) k st with
     | none=>rw [hz] at hm; cases hm
     | some p=>exact ⟨p,rfl⟩
    rw [hwk] at hm;have hs2:=Ss.ringW_len _ _ _ _ _ hwk
    repeat first|refine QG ?_|refine QY ?_ (r:=by conv=>lhs;simp[QV,hkt,hks,hx,x0,x0'])
    refine QT ?_;refine QP ?_ (r:=by conv=>lhs;simp[QV,hkt,hks,hx,x0,x0']);refine zj rfl rfl rfl (cw (g.length+1) k st b s _ (lid S.nx 1) (lid S.nx 0) (lid S.nx 2) hkt hsl (by simp) (by simp) (by simp) (by simp [lid]) (by simp [lid]) hwk) ?_;rintro X S2 ⟨rfl,rfl⟩;rw [Jy (by simp)];simp only [List.set_cons_succ,List.set_cons_zero]
    by_cases hb:b=true
    ·rw [hb] at hm;simp only [Option.some.injEq] at hm;refine QM (by conv=>lhs;simp[QV,hb]) ?_;refine QN ?_
     repeat first|refine QG ?_|refine QY ?_
     exact ja hwf (by simp [←hm]) rfl
    ·have hb':b=false:=by simpa using hb
     rw [hb'] at hm;simp only at hm;refine QM (by conv=>lhs;simp[QV,hb']) ?_;refine QN ?_
     repeat first|refine QG ?_|refine QY ?_
     show jy _ _ _ _ _ _ _;exact again ⟨Nat.sub_lt_sub_left hkt (Nat.lt_succ_self k),k+1,s,hkt,rfl,by omega,hm,by simp [Fr.only,hw],rfl⟩
   ·rw [if_neg x0] at hm;have x0' : ¬ (x:Int)=0:=by omega
    repeat first|refine QG ?_|refine QY ?_ (r:=by conv=>lhs;simp[QV,hkt,hks,hx,x0,x0'])
    show jy _ _ _ _ _ _ _;exact again ⟨Nat.sub_lt_sub_left hkt (Nat.lt_succ_self k),k+1,st,hkt,rfl,hsl,hm,by simp [Fr.only,hw],rfl⟩
  ·have e1:(List.range g.length).drop k=[]:=by rw [List.drop_eq_nil_iff]; simp; omega
   rw [e1,Ss.ringM] at hm
   cases hm
   repeat first|refine QG ?_|refine QY ?_ (r:=by conv=>lhs;simp[QV,hkt])
   exact ja hwf rfl rfl
theorem eqF_dec {α:Type} [DecidableEq α] (l m:List α):eqF (fun x y=>decide (x=y)) l m=decide (l=m):=eqF_eq (fun _ _=>rfl) l m
theorem Equal_v (l m:List Int) (hl:l.length<2^63):VPure Tryz.prog 91 [vl vint l,vl vint m] (.bool (decide (l=m))):=by
 intro S;rw [←eqF_dec];generalize hp:(fun x y:Int=>decide (x=y))=p
 by_cases hlm:l.length=m.length
 ·have hlm':(l.length:Int)=(m.length:Int):=by omega
  refine QB (c:=jc Tryz.f91) Tryz.func91 Tryz.ntmps91 fun hwf=>?_
  repeat first|refine QG ?_|refine QY ?_ (r:=by conv=>lhs;simp[QV,hlm,hlm'])
  refine QT ?_;refine jd [0,1,12,13] rfl (fun c σ S' => ∃ (k:Nat),k≤l.length∧c=l.length-k∧eqF p (l.drop k) (m.drop k)=eqF p l m∧σ=[(0,vl vint l),(1,vl vint m),(12,vnat m.length),(13,vnat k)]∧S'=St S [] []) l.length ?_ ?_
  ·exact ⟨0,by omega,rfl,rfl,by simp [Fr.only,hlm],rfl⟩
  ·rintro c σ T ⟨k,hk,rfl,hd,rfl,rfl⟩
   by_cases hkt:k<l.length
   ·have hkm:k<m.length:=by omega
    have hw:=jh hkt hl;have hst:eqF p (l.drop k) (m.drop k)=(p l[k] m[k]&&eqF p (l.drop (k+1)) (m.drop (k+1))):=by rw [List.drop_eq_getElem_cons hkt,List.drop_eq_getElem_cons hkm,eqF]
    obtain ⟨x,hx⟩ : ∃ x,l[k]=x:=⟨_,rfl⟩
    obtain ⟨y,hy⟩ : ∃ y,m[k]=y:=⟨_,rfl⟩
    rw [hx,hy] at hst
    by_cases hxy:x=y
    ·rw [show p x y=true by rw [←hp]; simp [hxy]] at hst
     repeat first|refine QG ?_|refine QY ?_ (r:=by conv=>lhs;simp[QV,hkt,hkm,hx,hy,hxy])
     show jy _ _ _ _ _ _ _;exact again ⟨Nat.sub_lt_sub_left hkt (Nat.lt_succ_self k),k+1,hkt,rfl,by rw [←hd,hst]; rfl,by simp [Fr.only,hw],rfl⟩
    ·rw [show p x y=false by rw [←hp]; simp [hxy]] at hst
     repeat first|refine QG ?_|refine QY ?_ (r:=by conv=>lhs;simp[QV,hkt,hkm,hx,hy,hxy])
     exact ja hwf (by rw [←hd,hst]; rfl) rfl
   ·have e:l.drop k=[]:=by rw [List.drop_eq_nil_iff]; omega
    have e':m.drop k=[]:=by rw [List.drop_eq_nil_iff]; omega
    rw [e,e'] at hd;have hkm : ¬ k<m.length:=by omega
    repeat first|refine QG ?_|refine QY ?_ (r:=by conv=>lhs;simp[QV,hkt,hkm])
    exact ja hwf (by rw [←hd]; rfl) rfl
 ·have hlm' : ¬ (l.length:Int)=(m.length:Int):=by omega
  have e:eqF p l m=false:=eqF_len hlm;rw [e];refine QB (c:=jc Tryz.f91) Tryz.func91 Tryz.ntmps91 fun hwf=>?_
  repeat first|refine QG ?_|refine QY ?_ (r:=by conv=>lhs;simp[QV,hlm,hlm'])
  exact ja hwf rfl rfl
end Go.Vw
namespace Ss
open Go.Vw in
/-- Are a function's blocks all reached, and is there no circle without a tick? -/
def shapeOk (f:Fn):Bool :=
 G.right (succs f.blocks)&&decide ((G.ordI (succs f.blocks)).length=f.blocks.length) && !rings f.blocks (G.nats (succs f.blocks))&&decide (typesOf f.types (f.blocks.getD 0 default).params=f.sig.inn) &&
  match (f.blocks.getD 0 default).code with
  | x::_=>decide (x.op=258)
  | []=>false
end Ss
namespace Go.Vw
open Go.Proofs Go.RowKit
attribute [-simp] List.map_set
theorem typesO_v (S:Store) (e:Ss.Env) (f:Ss.Fn) (dv nv:V) (ck:Nat) (l:List Int) (hc:S.get ck=some (11,ckC e f dv nv)) (hl:l.length≤1048576) (hv:Ss.InTs f.types.length l) :
  VCalls Tryz.prog 92 [.ptr ck 0,vl vint l] S (fun r T=>r=vl vint (Ss.typesOf f.types l)∧T=S):=by
 obtain ⟨⟨fi,fo⟩,ts,bs⟩:=f;simp only at hv ⊢;generalize hg:(fun v:Int=>ts.getD v.toNat 0)=g;have hX:Ss.typesOf ts l=l.map g:=by rw [Ss.typesOf,hg]
 rw [hX];refine QB (c:=jc Tryz.f92) Tryz.func92 Tryz.ntmps92 fun hwf=>?_
 have hcn:=jx hwf hc;have oc:=fun u l => @jm S u l ck hcn
 have gp:=fun ks=>za (n:=S.nx) ks hcn
 have gt:=fun ks=>qy (n:=S.nx) ks hcn
 refine QT ?_;refine QY ?_;refine QT ?_;refine QY ?_;refine zy 5 1 rfl (by conv=>lhs; simp [Fr.set]) ?_
 repeat first|refine QG ?_|refine QY ?_
 refine QT ?_;refine jd [0,5,8,9,10] rfl (fun c σ S' => ∃ (k:Nat) (out:List Int),k≤l.length∧c=l.length-k∧out=(l.take k).map g∧out.length=k∧σ=[(0, .ptr ck 0),(5, .slice (lid S.nx 0) 0 k),(8,vl vint l),(9,vnat l.length),(10,vnat k)]∧S'=St S [] [some (1,out.map vint)]) l.length ?_ ?_
 ·exact ⟨0,[],by omega,rfl,by simp,rfl,by simp [Fr.only],by simp⟩
 ·rintro c σ T ⟨k,out,hk,rfl,ho,hlen,rfl,rfl⟩
  by_cases hkt:k<l.length
  ·have hw:=jh hkt (by omega);obtain ⟨h0,h1⟩:=hv _ (List.getElem_mem hkt);obtain ⟨v,hx⟩ : ∃ v,l[k]=v:=⟨_,rfl⟩
   rw [hx] at h0 h1;obtain ⟨n,rfl⟩ : ∃ n:Nat,v=n:=⟨v.toNat,by omega⟩
   have hn:n<ts.length:=by omega
   have hgn:g (n:Int)=ts[n]:=by rw [←hg]; simp [hn]
   have htk:l.take (k+1)=l.take k++[(n:Int)]:=by rw [List.take_add_one,List.getElem?_eq_getElem hkt,hx]; rfl
   have hb:(k+1)*8≤140737488355328:=by omega
   have hb':k+1≤140737488355328:=by omega
   repeat first|refine QG ?_|refine QY ?_ (r:=by conv=>lhs;simp[QV,hkt,hx,hn,hlen,hb,hb',oc,hc])
   refine qo [2] (by conv=>lhs; simp [Fr.only]) hwf (by decide) (by simp [gp,gt]) (by conv=>lhs; simp [gp,gt]) (by conv=>lhs; simp [gp,gt]) (by conv=>lhs; simp [gp,gt]) ⟨?_,k+1,out++[ts[n]],hkt,rfl,by rw [htk,List.map_append,ho]; simp [hgn],by simp [hlen],by simp [hw],by simp⟩;omega
  ·have hke:k=l.length:=by omega
   subst hke;rw [List.take_length] at ho
   repeat first|refine QG ?_|refine QY ?_ (r:=by conv=>lhs;simp[QV,hkt])
   rw [←ho];exact jf hwf ((frz1 (by simp) (by rfl) (jq vint (fun _=>rfl) _) (by simpa using hlen)).toB _) rfl
theorem vcall_useZ {P:Program} {Z:Store} {σ:Fr} {S:Store} {K:Fr→Store→Prop} {d:Option Nat} {f:FuncId} {args:List Arg} {xs:List V} {r:List CO} {X:V} (h:YJ P Z f xs X) (ha:args.map (ev σ)=xs) (H:jB P (some (ZZ.plain Z)) r K (σ.put d X) S):jB P (some (ZZ.plain Z)) (⟨d,none, .call f args⟩::r) K σ S:=by
 rw [KJ,ha];have hw : ¬ wrcL (ZZ.plain Z).es d=true:=by cases d<;>simp [wrcL,ZZ.plain]
 show zH P (some (ZZ.plain Z)) d f xs S _;simp only [zH];rw [if_neg hw];refine ⟨X, ?_,H⟩;have e:(ZZ.plain Z).early d=false:=by cases d<;>simp [ZZ.early,ZZ.plain]
 rw [e];exact h
theorem shape_v (S:Store) (e:Ss.Env) (f:Ss.Fn) (ck od:Nat) (hf:f.Fits) (hsm:f.small=true) (hc:S.get ck=some (11,ckC e f (.slice od 0 f.types.length) .nils)) (hod:od<S.nx)
  (hps : ∀ b∈f.blocks,Ss.InTs f.types.length b.params) :
  VCalls Tryz.prog 57 [.ptr ck 0] S (fun r T => ∃ nv:V,nv.closed1=true∧r = .bool (Ss.shapeOk f)∧(Ss.shapeOk f=true→nv=vl vint (G.nearI (Ss.succs f.blocks)))∧T=S.upd ck (11,ckC e f (.slice od 0 f.types.length) nv)):=by
 have csu:=Succ_v f hf;rw [if_pos hsm] at csu;obtain ⟨hst,hsb,hsf,_⟩:=zk hsm;have hcode : ∀ b∈f.blocks,b.code.length<2^63:=fun b hb=>by have:=(hsf b hb).2.2.2; omega
 have hgf:Fits (Ss.succs f.blocks):=by
  refine ⟨by simp [Ss.succs]; omega,fun l hl => ?_⟩;obtain ⟨b,hb,rfl⟩:=List.mem_map.1 hl;have:=(hsf b hb).2.1;simp [Ss.rowOf]; omega
 have hgl:(Ss.succs f.blocks).length=f.blocks.length:=by simp [Ss.succs]
 have co:=jbz _ hgf;have cn:=YK _ hgf;have hol:=ordI_len (Ss.succs f.blocks);have cr:G.right (Ss.succs f.blocks)=true→VPure Tryz.prog 90 [jJ f,vl (vl vint) (Ss.succs f.blocks)] (.bool (Ss.rings f.blocks (G.nats (Ss.succs f.blocks)))):=by
  intro hr;have hok:=G.right_ok hr;rw [G.right_enc hr];have hnl:(G.nats (Ss.succs f.blocks)).length=f.blocks.length:=by rw [←hgl]; simp [G.nats]
  exact rings_v f _ hnl (by have:=hok.max; omega) (fun r hr'=>⟨by have:=hok.row r hr'; omega,fun k hk=>hok.elt r hr' k hk⟩) hcode
 generalize hsu:Ss.succs f.blocks=g at *
 have hX:Ss.shapeOk f=(G.right g&&decide ((G.ordI g).length=f.blocks.length) && !Ss.rings f.blocks (G.nats g)&&decide (Ss.typesOf f.types (f.blocks.getD 0 default).params=f.sig.inn) &&
  match (f.blocks.getD 0 default).code with
  | x::_=>decide (x.op=258)
  | []=>false):=by rw [Ss.shapeOk,hsu]
 generalize Ss.shapeOk f=X at *
 generalize hrg:Ss.rings f.blocks (G.nats g)=rg at *
 have hil:f.sig.inn.length<2^63:=by have:=hf.1.1.1; omega
 obtain ⟨⟨fi,fo⟩,ts,bs⟩:=f;simp only at *
 have csu':VPure Tryz.prog 19 [.agg [vl vint fi,vl vint fo,vl vint ts,vl je bs]] (vl (vl vint) g):=csu;obtain ⟨sg,im,gl,mu,me⟩:=e;refine QB (c:=jc Tryz.f57) Tryz.func57 Tryz.ntmps57 fun hwf=>?_
 have hcn:=jx hwf hc;have oc:=fun u l => @jm S u l ck hcn
 have hupd:=fun u l c => @qN S u l c ck hcn
 have gp:=fun ks=>za (n:=S.nx) ks hod
 have gt:=fun ks=>qy (n:=S.nx) ks hod
 rw [JM hc];have fin : ∀ (nv:V) (l:List (Option (Nat × List V))) (r:V),nv.closed1=true→r = .bool X→(X=true→nv=vl vint (G.nearI g)) →
   zO S.nx (fun r T => ∃ nv:V,nv.closed1=true∧r = .bool X∧(X=true→nv=vl vint (G.nearI g))∧T=S.upd ck (11,ckC ⟨sg,im,gl,mu,me⟩ ⟨⟨fi,fo⟩,ts,bs⟩ (.slice od 0 ts.length) nv)) r (St S [(ck,some (11,ckC ⟨sg,im,gl,mu,me⟩ ⟨⟨fi,fo⟩,ts,bs⟩ (.slice od 0 ts.length) nv))] l):=by
  rintro nv l r k1 rfl k2;have e1 : ∀ p,nv.ids p=true:=fun p=>by cases nv<;>first | rfl | (simp [V.closed1] at k1; done) | (simp [V.ids]; done)
  have e2 : ∀ q,nv.ren q=nv:=fun q=>by cases nv<;>first | rfl | (simp [V.closed1] at k1; done) | (simp [V.ren]; done)
  refine zi (X := .bool X) (S':=S.upd ck (11,ckC ⟨sg,im,gl,mu,me⟩ ⟨⟨fi,fo⟩,ts,bs⟩ (.slice od 0 ts.length) nv)) hwf rfl rfl (by simp [JI,jag,e1,gp]) ?_ ⟨nv,k1,rfl,k2,rfl⟩;simp only [gcU,gcE,Option.map_some];rw [jaC hwf hcn];simp [e2,gt]
 refine QT ?_;refine QY ?_;refine QT ?_;refine QP ?_ (r:=by conv=>lhs;simp[QV,oc,hc]);refine QL (csu') ?_;refine QW ?_;refine QT ?_;refine QP ?_;refine QL (co) ?_
 by_cases hr:G.right g=true
 case neg =>
  have he:G.err g=1:=by simp [G.err,hr]
  have hX0:X=false:=by rw [hX]; simp [hr]
  refine QM (by conv=>lhs;simp[QV,he]) ?_;refine QN ?_
  repeat first|refine QG ?_|refine QY ?_ (r:=by conv=>lhs;simp[QV,he])
  exact fin .nils _ _ rfl (by simp [hX0]) (by simp [hX0])
 have he:G.err g=0:=by simp [G.err,hr]
 have cr1:=cr hr;have cr':VPure Tryz.prog 90 [.agg [vl vint fi,vl vint fo,vl vint ts,vl je bs],vl (vl vint) g] (.bool rg):=cr1
 by_cases hl:(G.ordI g).length=g.length
 case neg =>
  have hl' : ¬ ((G.ordI g).length:Int)=(g.length:Int):=by omega
  have hX0:X=false:=by
   rw [hX,show decide ((G.ordI g).length=bs.length)=false by simp; omega]; simp
  refine QM (by conv=>lhs;simp[QV,he]) ?_;refine QN ?_
  repeat first|refine QG ?_|refine QY ?_ (r:=by conv=>lhs;simp[QV,he,hl,hl'])
  exact fin .nils _ _ rfl (by simp [hX0]) (by simp [hX0])
 have hl':((G.ordI g).length:Int)=(g.length:Int):=by omega
 refine QM (by conv=>lhs;simp[QV,he]) ?_;refine QN ?_
 repeat first|refine QG ?_|refine QY ?_ (r:=by conv=>lhs;simp[QV,he,hl,hl',oc])
 refine QT ?_;refine QP ?_ (r:=by conv=>lhs;simp[QV,he,hl,hl',oc]);refine QL (cr') ?_
 by_cases hrt:rg=true
 ·have hX0:X=false:=by rw [hX,hrt]; simp
  refine QM (by conv=>lhs;simp[QV,hrt]) ?_;refine QN ?_
  repeat first|refine QG ?_|refine QY ?_
  exact fin .nils _ _ rfl (by simp [hX0]) (by simp [hX0])
 have hrt':rg=false:=by simpa using hrt
 rw [hr,hrt',show decide ((G.ordI g).length=bs.length)=true by simp; omega] at hX;simp only [Bool.true_and,Bool.not_false] at hX;refine QM (by conv=>lhs;simp[QV,hrt']) ?_;refine QN ?_
 repeat first|refine QG ?_|refine QY ?_
 refine QT ?_;refine QP ?_;refine QL (cn) ?_;refine QM (by conv=>lhs;simp[QV,oc,hupd]) ?_;refine QN ?_;have hbp:0<bs.length:=by
  have h1:=(G.right_ok hr).pos;simp only [G.nats_length] at h1;omega
 obtain ⟨⟨ps,code,⟨tk,ta,to,az⟩⟩,hb0⟩ : ∃ b,bs[0]? = some b:=⟨bs[0],List.getElem?_eq_getElem hbp⟩
 have hbm:=List.mem_of_getElem? hb0;have hbd:bs.getD 0 default=⟨ps,code,⟨tk,ta,to,az⟩⟩:=by rw [List.getD_eq_getElem?_getD,hb0]; rfl
 have hpl:=(hsf _ hbm).1;have hpi:=hps _ hbm;rw [hbd] at hX;simp only at hX hpl hpi
 repeat first|refine QG ?_|refine QY ?_ (r:=by conv=>lhs;simp[QV,oc,hb0])
 have hcl:=(hsf _ hbm).2.2.2;simp only at hcl;have hZ:(St S [(ck,some (11,ckC ⟨sg,im,gl,mu,me⟩ ⟨⟨fi,fo⟩,ts,bs⟩ (.slice od 0 ts.length) (vl vint (G.nearI g))))] [some (6,[vl vint ps,vl jp code, .int .i64 tk, .int .i64 ta,vl ji to,vl vint az])]).get ck=some (11,ckC ⟨sg,im,gl,mu,me⟩ ⟨⟨fi,fo⟩,ts,bs⟩ (.slice od 0 ts.length) (vl vint (G.nearI g))):=by rw [oc]; simp [uGet]
 have ctz:YJ Tryz.prog (St S [(ck,some (11,ckC ⟨sg,im,gl,mu,me⟩ ⟨⟨fi,fo⟩,ts,bs⟩ (.slice od 0 ts.length) (vl vint (G.nearI g))))] [some (6,[vl vint ps,vl jp code, .int .i64 tk, .int .i64 ta,vl ji to,vl vint az])]) 92 [.ptr ck 0,vl vint ps] (vl vint (Ss.typesOf ts ps)):=fun T hT=>typesO_v T ⟨sg,im,gl,mu,me⟩ ⟨⟨fi,fo⟩,ts,bs⟩ _ _ ck ps (hT _ _ hZ) (by omega) hpi
 have ceq:=Equal_v (Ss.typesOf ts ps) fi (by simp [Ss.typesOf]; omega);refine QT ?_;refine QD (r:=by conv=>lhs;simp[QV,oc]) (k:=?_);refine vcall_useZ ctz (by rfl) ?_;refine QM (by conv=>lhs;simp[QV,oc]) ?_;refine QL (ceq) ?_
 by_cases ht:Ss.typesOf ts ps=fi
 case neg =>
  have hX0:X=false:=by rw [hX]; simp [ht]
  refine QM (by conv=>lhs;simp[QV,ht]) ?_;refine QN ?_
  repeat first|refine QG ?_|refine QY ?_
  exact fin _ _ _ rfl (by simp [hX0]) (by simp [hX0])
 rw [decide_eq_true ht,Bool.true_and] at hX
 cases code with
 | nil =>
  have hX0:X=false:=by rw [hX]
  refine QM (by conv=>lhs;simp[QV,ht]) ?_;refine QN ?_
  repeat first|refine QG ?_|refine QY ?_
  exact fin _ _ _ rfl (by simp [hX0]) (by simp [hX0])
 | cons x r =>
  obtain ⟨xo,xn,xa,xu⟩:=x;have hpos:(0:Int)<(r.length:Int)+1:=by omega
  by_cases h8:xo=258
  ·have hX0:X=true:=by rw [hX]; simp [h8]
   refine QM (by conv=>lhs;simp[QV,ht,hpos,h8]) ?_;refine QN ?_
   repeat first|refine QG ?_|refine QY ?_
   exact fin _ _ _ rfl (by simp [hX0]) (by simp)
  ·have hX0:X=false:=by rw [hX]; simp [h8]
   refine QM (by conv=>lhs;simp[QV,ht,hpos,h8]) ?_;refine QN ?_
   repeat first|refine QG ?_|refine QY ?_
   exact fin _ _ _ rfl (by simp [hX0]) (by simp [hX0])
end Go.Vw
