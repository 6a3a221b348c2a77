import Derived.Test.YtkfllaokjaldnaaGreatC24
import Derived.Test.YtkfllaokjaldnaaGreatC25
import Derived.Test.YtkfllaokjaldnaaGreatC16
import Derived.Test.YtkfllaokjaldnaaGreatC19
/- Part of the proof. -/
set_option linter.unusedVariables false
set_option linter.unusedSimpArgs false
set_option maxRecDepth 10000
set_option maxHeartbeats 4000000
namespace Go.Vw
open Go.Proofs Go.RowKit
attribute [-simp] List.map_set
theorem LicmOwn_v (e:Ss.Env) (f:Ss.Fn) (he:e.Fits) (hf:f.Fits):VPure Tryz.prog 6 [zk e,ql f] (.bool true):=by
 intro S;have cck:=jcF e f he hf;rw [Ss.check_agrees hf] at cck;have cal:=Alive14_v;obtain ⟨al,hal⟩ : ∃ al,al=true:=⟨_,rfl⟩
 rw [←hal] at cal;have ccp:=RCopyP_v f hf;have cbr:=fun S=>LicRun_v S e f he hf
 have cbp:=LicP_v e f he hf;have cbq:=RLicP_v e f he hf;have csf:=RSame_v f f hf hf;have csg:=RSame_v _ _ (Ss.licOut_fits e hf) (Ss.licOut_fits e hf);have hgs:=Ss.licOut_small e f;have hcs := @Ss.check_small e f;have hgf0:Ss.check e f=true→(Ss.licF f).Fits:=fun h=>Ss.licF_fits h hf
 cases hck:Ss.check e f with
 | false =>
  rw [hck] at cck;obtain ⟨⟨fi,fo⟩,ts,bs⟩:=f;obtain ⟨sg,im,gl,mu,me⟩:=e;obtain ⟨ck,hc⟩ : ∃ ck,ck=false:=⟨_,rfl⟩
  rw [←hc] at cck;have cck':VPure Tryz.prog 13 [.agg [vl jC sg,vint im,vl vint gl,vl V.bool mu, .bool me], .agg [vl vint fi,vl vint fo,vl vint ts,vl jb bs]] (.bool ck):=cck;refine QB (c:=jd Tryz.f6) Tryz.func6 Tryz.ntmps6 fun hwf=>?_
  refine QT ?_;refine QY ?_;refine QH 2 0 ?_;refine QH 3 1 ?_;refine QT ?_;refine QP ?_;refine QL (cck') ?_;refine QM (by conv=>lhs;simp[QV,hc]) ?_;refine QN ?_
  repeat first|refine QG ?_|refine QY ?_
  refine QT ?_;refine QP ?_;refine QL (cal) ?_;refine QM (by conv=>lhs;simp[QV,hal]) ?_;refine QN ?_
  repeat first|refine QG ?_|refine QY ?_
  exact ja (X := .bool true) hwf (by simp) rfl
 | true =>
  rw [hck] at cck;have hs:f.small=true:=hcs hck;have hgf:=hgf0 hck;clear hgf0;have ccp2:=ccp hs;have cbr2:=fun S=>cbr S hck
  rw [Ss.licOut_t hck] at cbp cbq csg hgs;simp only at cbp cbq csg hgs;have e3:(f.small&&f.small&&decide (f=f))=true:=by simp [hs]
  have e4:((Ss.licF f).small&&(Ss.licF f).small&&decide True)=true:=by simp [hgs]
  rw [e3] at csf;rw [e4] at csg;obtain ⟨sm,hsm⟩ : ∃ sm,sm=true:=⟨_,rfl⟩
  rw [←hsm] at csf csg;have hsm2:=(Ss.small_iff _).1 hgs;have cbr3 : ∀ S,VCalls Tryz.prog 9 [zk e,ql f] S fun r T => ∃ r',r = .tuple [r',vint 0]∧jaW S (Ss.licF f) r' T:=cbr2
  clear cbr cbr2 ccp hcs;generalize Ss.licF f=g at *
  obtain ⟨⟨fi,fo⟩,ts,bs⟩:=f;obtain ⟨⟨gi,go⟩,gt,gb⟩:=g;obtain ⟨sg,im,gl,mu,me⟩:=e;simp only at *
  obtain ⟨hh,hbk,hcnt⟩:=hsm2;simp only [Ss.Fn.heads,Bool.and_eq_true,decide_eq_true_eq] at hh;obtain ⟨ck,hc⟩ : ∃ ck,ck=true:=⟨_,rfl⟩
  rw [←hc] at cck;have cck':VPure Tryz.prog 13 [.agg [vl jC sg,vint im,vl vint gl,vl V.bool mu, .bool me], .agg [vl vint fi,vl vint fo,vl vint ts,vl jb bs]] (.bool ck):=cck;have ccp':VPure Tryz.prog 18 [.agg [vl vint fi,vl vint fo,vl vint ts,vl jb bs]] (.agg [vl vint fi,vl vint fo,vl vint ts,vl jb bs]):=ccp2;have cbr' : ∀ S,VCalls Tryz.prog 9 [.agg [vl jC sg,vint im,vl vint gl,vl V.bool mu, .bool me], .agg [vl vint fi,vl vint fo,vl vint ts,vl jb bs]] S fun r T => ∃ r',r = .tuple [r',vint 0]∧jaW S ⟨⟨gi,go⟩,gt,gb⟩ r' T:=cbr3
  have cbp':VPure Tryz.prog 9 [.agg [vl jC sg,vint im,vl vint gl,vl V.bool mu, .bool me], .agg [vl vint fi,vl vint fo,vl vint ts,vl jb bs]] (.tuple [.agg [vl vint gi,vl vint go,vl vint gt,vl jb gb],vint 0]):=cbp;have cbq':VPure Tryz.prog 10 [.agg [vl jC sg,vint im,vl vint gl,vl V.bool mu, .bool me], .agg [vl vint fi,vl vint fo,vl vint ts,vl jb bs]] (.tuple [.agg [vl vint gi,vl vint go,vl vint gt,vl jb gb],vint 0]):=cbq;have csf':VPure Tryz.prog 11 [.agg [vl vint fi,vl vint fo,vl vint ts,vl jb bs], .agg [vl vint fi,vl vint fo,vl vint ts,vl jb bs]] (.bool sm):=csf;have csg':VPure Tryz.prog 11 [.agg [vl vint gi,vl vint go,vl vint gt,vl jb gb], .agg [vl vint gi,vl vint go,vl vint gt,vl jb gb]] (.bool sm):=csg;refine QB (c:=jd Tryz.f6) Tryz.func6 Tryz.ntmps6 fun hwf=>?_
  refine QT ?_;refine QY ?_;refine QH 2 0 ?_;refine QH 3 1 ?_;refine QT ?_;refine QP ?_;refine QL (cck') ?_;refine QM (by conv=>lhs;simp[QV,hc]) ?_;refine QN ?_
  repeat first|refine QG ?_|refine QY ?_
  refine QT ?_;refine QP ?_;refine QL (ccp') ?_;refine QW ?_;refine QH 5 2 ?_;refine QO [2,3,5] ?_;refine QK [] ?_;refine QT ?_;refine QP ?_;refine jT rfl (cbr' _) ?_;rintro X T ⟨r',rfl,hag0,hwT,ot,ob,cells,ids,rfl,hotg,hob,how,hnd,hids⟩;rw [qF hwf] at hag0 hids;refine Wy hwT ?_;refine QW ?_;refine zy (b':=T.nx) hag0.1 ?_;have hwf0:=hwf;clear hwf;have hwf:=hwT;have obP:=fun ks=>zz (n:=T.nx) ks (hids ob (by simp)).2
  have ob1:=fun u l => @jk T u l _ (hids ob (by simp)).2
  simp only at hob hotg how
  repeat first|refine QG ?_|refine QY ?_ (r:=by conv=>lhs;simp[QV,ob1,hob])
  have hidO : ∀ o∈ob::ids,S.nx≤o∧o<T.nx:=fun o ho=>hids o (by simp only [List.mem_cons] at ho ⊢; exact .inr ho)
  have hid0 : ∀ o∈ob::ids,S.nx≤o∧o<T.nx:=hidO
  have hoto:=hids ot (by simp);have hfb : ∀ b∈gb,b.Fits:=hgf.2.2.2
  have hbl:gb.length<2^62:=by omega
  have hlimb : ∀ z∈je jb gb,Lim z:=fun z hz=>by
   obtain ⟨b,hb,hz⟩:=List.mem_flatMap.1 hz;exact lim_block (hfb b hb) z hz
  refine QO [2,3,5,6,36,37] ?_;refine QT ?_;refine jc [2,3,5,6,36,37] rfl (fun c σ S' => ∃ (T1:Store) (k:Nat),Shq S T ob gb.length ids ot T1∧k≤gb.length∧c=gb.length-k∧σ=[(2, .ref (.agg [vl jC sg,vint im,vl vint gl,vl V.bool mu, .bool me])),(3, .ref (.agg [vl vint fi,vl vint fo,vl vint ts,vl jb bs])),(5, .ref (.agg [vl vint fi,vl vint fo,vl vint ts,vl jb bs])),(6, .ptr (lid T1.nx 0) 0),(36,vnat gb.length),(37,vnat k)]∧S'=St T1 [] [some (4,[vl vint gi,vl vint go, .slice ot 0 gt.length, .slice ob 0 gb.length])]) gb.length ?_ ?_
  ·exact ⟨T,0,⟨⟨rfl,hwT,hag0.2,⟨cells,_,hob,how⟩,how.lim hlimb⟩,rfl⟩,by omega,rfl,by simp [Fr.only],rfl⟩
  rintro c σ T' ⟨T1,k,hsh,hk,rfl,rfl,rfl⟩;have hwf1:=hwf;clear hwf;have hwf:=hsh.1.wf;have hn1:=hsh.1.nx;refine zy (b':=T1.nx) (by omega) ?_
  by_cases hkt:k<gb.length
  case neg =>
   have hot1:T1.get ot=some (1,gt.map vint):=hsh.2.trans hotg;have bt1:=fun u l => @jk T1 u l ot (by omega)
   repeat first|refine QG ?_|refine QY ?_ (r:=by conv=>lhs;simp[QV,hkt,bt1,hot1])
   refine QO [2,3,5,6,164,165] ?_;refine QT ?_;refine jc [2,3,5,6,164,165] rfl (fun c σ S' => ∃ (T2:Store) (i:Nat),Tyq S T ot gt.length T2∧i≤gt.length∧c=gt.length-i∧σ=[(2, .ref (.agg [vl jC sg,vint im,vl vint gl,vl V.bool mu, .bool me])),(3, .ref (.agg [vl vint fi,vl vint fo,vl vint ts,vl jb bs])),(5, .ref (.agg [vl vint fi,vl vint fo,vl vint ts,vl jb bs])),(6, .ptr (lid T2.nx 0) 0),(164,vnat gt.length),(165,vnat i)]∧S'=St T2 [] [some (4,[vl vint gi,vl vint go, .slice ot 0 gt.length, .slice ob 0 gb.length])]) gt.length ?_ ?_
   ·exact ⟨T1,0,⟨hsh.1.nx,hsh.1.wf,hsh.1.old,_,hot1,by simp⟩,by omega,rfl,by simp [Fr.only,Fr.look],rfl⟩
   rintro c σ T' ⟨T2,i,hty,hi,rfl,rfl,rfl⟩;have hwf2:=hwf;clear hwf;have hwf:=hty.wf;have hn2:=hty.nx;refine zy (b':=T2.nx) (by omega) ?_
   by_cases hit:i<gt.length
   case pos =>
    have hwi:=ji hit (by omega);obtain ⟨ct,hct,hctl⟩:=hty.own;have bt2:=fun u l => @jk T2 u l ot (by omega)
    have hic:i<ct.length:=by omega
    repeat first|refine QG ?_|refine QY ?_ (r:=by conv=>lhs;simp[QV,hit,bt2,hct,hic,hwi])
    show jp _ _ _ _ _ _ _;exact again ⟨Nat.sub_lt_sub_left hit (Nat.lt_succ_self i),T2.upd ot (1,ct.set i (V.int .i64 0)),i+1,hty.write hoto.1 hoto.2 hct rfl,hit,rfl,by simp [Fr.only,Fr.look]; rfl,Wt (by omega)⟩
   have hfin : ∀ l,Agree S (St T2 [] l):=fun l=>by
    refine ⟨by have:=hag0.1; rw [jE,lid]; omega,fun o ho => ?_⟩;have:=hag0.1;rw [jk (by omega)];exact hty.old o ho
   repeat first|refine QG ?_|refine QY ?_ (r:=by conv=>lhs;simp[QV,hit])
   refine QT ?_;refine QP ?_;refine QL (cbp') ?_;refine QW ?_;refine QH 17 1 ?_;refine QT ?_;refine QP ?_;refine QL (cbq') ?_;refine QW ?_;refine QH 19 2 ?_;refine QT ?_;refine QP ?_;refine QL (csf') ?_;refine QM (by conv=>lhs;simp[QV,hsm]) ?_;refine QL (csg') ?_;refine QM (by conv=>lhs;simp[QV,hsm]) ?_;refine QL (cal) ?_;refine QM (by conv=>lhs;simp[QV,hal]) ?_;refine QN ?_
   repeat first|refine QG ?_|refine QY ?_
   exact done_agree hwf0 (hfin _) (by simp) rfl
  have hw:=ji hkt (by omega);obtain ⟨cells1,op1,np1,oc,nc,oe1,ne1,u0,cc1,ce1,hob1,hcl10,hcl11,hcl12,hcl12c,hcl14,hop1,hocm,hoc1,hoem,hoe1,hncb,hneb,hin1,hed1⟩:=hsh.1.full hkt;have b1:=fun u l => @jk T1 u l ob (by have:=hidO ob (by simp); omega)
  have b2:=fun u l => @jk T1 u l oc (by have:=hidO oc (by simp [hocm]); omega)
  repeat first|refine QG ?_|refine QY ?_ (r:=by conv=>lhs;simp[QV,hkt,b1,hob1,hcl11,b2,hoc1])
  refine QO [2,3,5,6,9,36,37,48,49] ?_;refine QT ?_;refine jc [2,3,5,6,9,36,37,48,49] rfl (fun c σ S' => ∃ (T2:Store) (j:Nat),Shq S T ob gb.length ids ot T2∧At T2 ob (k*6+1) (.slice oc 0 nc)∧j≤nc∧c=nc-j∧σ=[(2, .ref (.agg [vl jC sg,vint im,vl vint gl,vl V.bool mu, .bool me])),(3, .ref (.agg [vl vint fi,vl vint fo,vl vint ts,vl jb bs])),(5, .ref (.agg [vl vint fi,vl vint fo,vl vint ts,vl jb bs])),(6, .ptr (lid T2.nx 0) 0),(9, .ptr ob (k*6)),(36,vnat gb.length),(37,vnat k),(48,vnat nc),(49,vnat j)]∧S'=St T2 [] [some (4,[vl vint gi,vl vint go, .slice ot 0 gt.length, .slice ob 0 gb.length])]) nc ?_ ?_
  ·exact ⟨T1,0,hsh,⟨_,_,hob1,hcl11⟩,by omega,rfl,by simp [Fr.only,Fr.look],rfl⟩
  rintro c σ T' ⟨T2,j,hs2,hat2,hj,rfl,rfl,rfl⟩;have hwf2x:=hwf;clear hwf;have hwf:=hs2.1.wf;have hn2:=hs2.1.nx;refine zy (b':=T2.nx) (by omega) ?_;obtain ⟨cells2,op2,np2,oc2,nc2,oe2,ne2,u2,cc2,ce2,hob2,hcl20,hcl21,hcl22,hcl22c,hcl24,hop2,hocm2,hoc2,hoem2,hoe2,hncb2,hneb2,hin2,hed2⟩:=hs2.1.full hkt;have bb2:=fun u l => @jk T2 u l ob (by have:=hidO ob (by simp); omega)
  have bc2:=fun u l => @jk T2 u l oc2 (by have:=hidO oc2 (by simp [hocm2]); omega)
  have be2:=fun u l => @jk T2 u l oe2 (by have:=hidO oe2 (by simp [hoem2]); omega)
  have hcl24':cells2[k*6+2+2]? = some (.slice oe2 0 ne2):=hcl24;have heq:=hat2.same hob2 hcl21;simp only [V.slice.injEq,true_and] at heq;obtain ⟨rfl,rfl⟩:=heq
  by_cases hjt:j<nc2
  case pos =>
   have hwj:=ji hjt (by omega);obtain ⟨oa,na,ou,nu,hca2,hoa2,hcu2,hou2⟩:=hin2 j hjt;obtain ⟨ca2m,ca2n,ca2,ca2g,ca2l,ca2c⟩:=hoa2;have bca2:=fun u l => @jk T2 u l oa (by have:=hidO oa (by simp [ca2m]); omega)
   have hidca2:=(hid0 oa (by simp [ca2m])).2
   repeat first|refine QG ?_|refine QY ?_ (r:=by conv=>lhs;simp[QV,hkt,hjt,bb2,hob2,hcl21,bc2,hoc2,hca2,bca2,ca2g])
   refine QO [2,3,5,6,9,10,36,37,48,49,60,61] ?_;refine QT ?_;refine jc [2,3,5,6,9,10,36,37,48,49,60,61] rfl (fun c σ S' => ∃ (T3:Store) (q:Nat),Shq S T ob gb.length ids ot T3∧At T3 ob (k*6+1) (.slice oc2 0 nc2)∧At T3 oc2 (j*4+2) (.slice oa 0 na)∧q≤na∧c=na-q∧σ=[(2, .ref (.agg [vl jC sg,vint im,vl vint gl,vl V.bool mu, .bool me])),(3, .ref (.agg [vl vint fi,vl vint fo,vl vint ts,vl jb bs])),(5, .ref (.agg [vl vint fi,vl vint fo,vl vint ts,vl jb bs])),(6, .ptr (lid T3.nx 0) 0),(9, .ptr ob (k*6)),(10,vnat j),(36,vnat gb.length),(37,vnat k),(48,vnat nc2),(49,vnat j),(60,vnat na),(61,vnat q)]∧S'=St T3 [] [some (4,[vl vint gi,vl vint go, .slice ot 0 gt.length, .slice ob 0 gb.length])]) na ?_ ?_
   ·exact ⟨T2,0,hs2,hat2,⟨_,_,hoc2,hca2⟩,by omega,rfl,by simp [Fr.only,Fr.look],rfl⟩
   rintro c σ T' ⟨T3,q,hs3,hat3,hau3,hq,rfl,rfl,rfl⟩;have hwf3x:=hwf;clear hwf;have hwf:=hs3.1.wf;have hn3:=hs3.1.nx;refine zy (b':=T3.nx) (by omega) ?_;obtain ⟨cells3,op3,np3,oc3,nc3,oe3,ne3,u3,cc3,ce3,hob3,hcl30,hcl31,hcl32,hcl32c,hcl34,hop3,hocm3,hoc3,hoem3,hoe3,hncb3,hneb3,hin3,hed3⟩:=hs3.1.full hkt;have bb3:=fun u l => @jk T3 u l ob (by have:=hidO ob (by simp); omega)
   have bc3:=fun u l => @jk T3 u l oc3 (by have:=hidO oc3 (by simp [hocm3]); omega)
   have be3:=fun u l => @jk T3 u l oe3 (by have:=hidO oe3 (by simp [hoem3]); omega)
   have hcl34':cells3[k*6+2+2]? = some (.slice oe3 0 ne3):=hcl34;have heq:=hat3.same hob3 hcl31;simp only [V.slice.injEq,true_and] at heq;obtain ⟨rfl,rfl⟩:=heq;obtain ⟨oa3,na3,ou3,nu3,hca3,hoa3,hcu3,hou3⟩:=hin3 j hjt;have heq:=hau3.same hoc3 hca3;simp only [V.slice.injEq,true_and] at heq;obtain ⟨rfl,rfl⟩:=heq;obtain ⟨ca3m,ca3n,ca3,ca3g,ca3l,ca3c⟩:=hoa3;have bca3:=fun u l => @jk T3 u l oa3 (by have:=hidO oa3 (by simp [ca3m]); omega)
   have hidca3:=(hid0 oa3 (by simp [ca3m])).2;obtain ⟨cu3m,cu3n,cu3,cu3g,cu3l,cu3c⟩:=hou3;have bcu3:=fun u l => @jk T3 u l ou3 (by have:=hidO ou3 (by simp [cu3m]); omega)
   have hidcu3:=(hid0 ou3 (by simp [cu3m])).2
   by_cases hqt:q<na3
   case pos =>
    have hwq:=ji hqt (by omega);have hqc:q<ca3.length:=by omega
    repeat first|refine QG ?_|refine QY ?_ (r:=by conv=>lhs;simp[QV,hkt,hqt,hjt,bb3,hob3,hcl31,bc3,hoc3,hca3,bca3,ca3g,hqc,hwq])
    show jp _ _ _ _ _ _ _;exact again ⟨Nat.sub_lt_sub_left hqt (Nat.lt_succ_self q),T3.upd oa3 (1,ca3.set q (V.int .i64 (-1))),q+1,hs3.write hnd hid0 (by simp [ca3m]) ca3g (List.getElem?_eq_getElem hqc) (ca3c _ (List.getElem_mem hqc)) rfl,hat3.write ca3g (List.getElem?_eq_getElem hqc) (ca3c _ (List.getElem_mem hqc)),hau3.write ca3g (List.getElem?_eq_getElem hqc) (ca3c _ (List.getElem_mem hqc)),hqt,rfl,by simp [Fr.only,Fr.look]; rfl,Wt (by omega)⟩
   repeat first|refine QG ?_|refine QY ?_ (r:=by conv=>lhs;simp[QV,hkt,hjt,hqt,bb3,hob3,hcl31,bc3,hoc3,hcu3,bcu3,cu3g])
   refine QO [2,3,5,6,9,10,36,37,48,49,83,84] ?_;refine QT ?_;refine jc [2,3,5,6,9,10,36,37,48,49,83,84] rfl (fun c σ S' => ∃ (T4:Store) (r:Nat),Shq S T ob gb.length ids ot T4∧At T4 ob (k*6+1) (.slice oc3 0 nc3)∧At T4 oc3 (j*4+3) (.slice ou3 0 nu3)∧r≤nu3∧c=nu3-r∧σ=[(2, .ref (.agg [vl jC sg,vint im,vl vint gl,vl V.bool mu, .bool me])),(3, .ref (.agg [vl vint fi,vl vint fo,vl vint ts,vl jb bs])),(5, .ref (.agg [vl vint fi,vl vint fo,vl vint ts,vl jb bs])),(6, .ptr (lid T4.nx 0) 0),(9, .ptr ob (k*6)),(10,vnat j),(36,vnat gb.length),(37,vnat k),(48,vnat nc3),(49,vnat j),(83,vnat nu3),(84,vnat r)]∧S'=St T4 [] [some (4,[vl vint gi,vl vint go, .slice ot 0 gt.length, .slice ob 0 gb.length])]) nu3 ?_ ?_
   ·exact ⟨T3,0,hs3,hat3,⟨_,_,hoc3,hcu3⟩,by omega,rfl,by simp [Fr.only,Fr.look],rfl⟩
   rintro c σ T' ⟨T4,r,hs4,hat4,hau4,hr,rfl,rfl,rfl⟩;have hwf4x:=hwf;clear hwf;have hwf:=hs4.1.wf;have hn4:=hs4.1.nx;refine zy (b':=T4.nx) (by omega) ?_;obtain ⟨cells4,op4,np4,oc4,nc4,oe4,ne4,u4,cc4,ce4,hob4,hcl40,hcl41,hcl42,hcl42c,hcl44,hop4,hocm4,hoc4,hoem4,hoe4,hncb4,hneb4,hin4,hed4⟩:=hs4.1.full hkt;have bb4:=fun u l => @jk T4 u l ob (by have:=hidO ob (by simp); omega)
   have bc4:=fun u l => @jk T4 u l oc4 (by have:=hidO oc4 (by simp [hocm4]); omega)
   have be4:=fun u l => @jk T4 u l oe4 (by have:=hidO oe4 (by simp [hoem4]); omega)
   have hcl44':cells4[k*6+2+2]? = some (.slice oe4 0 ne4):=hcl44;have heq:=hat4.same hob4 hcl41;simp only [V.slice.injEq,true_and] at heq;obtain ⟨rfl,rfl⟩:=heq;obtain ⟨oa4,na4,ou4,nu4,hca4,hoa4,hcu4,hou4⟩:=hin4 j hjt;have heq:=hau4.same hoc4 hcu4;simp only [V.slice.injEq,true_and] at heq;obtain ⟨rfl,rfl⟩:=heq;obtain ⟨cu4m,cu4n,cu4,cu4g,cu4l,cu4c⟩:=hou4;have bcu4:=fun u l => @jk T4 u l ou4 (by have:=hidO ou4 (by simp [cu4m]); omega)
   have hidcu4:=(hid0 ou4 (by simp [cu4m])).2
   by_cases hrt:r<nu4
   case pos =>
    have hwq:=ji hrt (by omega);have hqc:r<cu4.length:=by omega
    repeat first|refine QG ?_|refine QY ?_ (r:=by conv=>lhs;simp[QV,hkt,hrt,hjt,bb4,hob4,hcl41,bc4,hoc4,hcu4,bcu4,cu4g,hqc,hwq])
    show jp _ _ _ _ _ _ _;exact again ⟨Nat.sub_lt_sub_left hrt (Nat.lt_succ_self r),T4.upd ou4 (1,cu4.set r (V.int .i64 (-1))),r+1,hs4.write hnd hid0 (by simp [cu4m]) cu4g (List.getElem?_eq_getElem hqc) (cu4c _ (List.getElem_mem hqc)) rfl,hat4.write cu4g (List.getElem?_eq_getElem hqc) (cu4c _ (List.getElem_mem hqc)),hau4.write cu4g (List.getElem?_eq_getElem hqc) (cu4c _ (List.getElem_mem hqc)),hrt,rfl,by simp [Fr.only,Fr.look]; rfl,Wt (by omega)⟩
   repeat first|refine QG ?_|refine QY ?_ (r:=by conv=>lhs;simp[QV,hkt,hjt,hrt,hwj])
   show jp _ _ _ _ _ _ _;exact again ⟨Nat.sub_lt_sub_left hjt (Nat.lt_succ_self j),T4,j+1,hs4,hat4,hjt,rfl,by simp [Fr.only,Fr.look],rfl⟩
  obtain ⟨cp2m,cp2n,cp2,cp2g,cp2l,cp2c⟩:=hop2;have bcp2:=fun u l => @jk T2 u l op2 (by have:=hidO op2 (by simp [cp2m]); omega)
  have hidcp2:=(hid0 op2 (by simp [cp2m])).2
  repeat first|refine QG ?_|refine QY ?_ (r:=by conv=>lhs;simp[QV,hkt,hjt,bb2,hob2,hcl20,bcp2,cp2g])
  refine QO [2,3,5,6,9,36,37,103,104] ?_;refine QT ?_;refine jc [2,3,5,6,9,36,37,103,104] rfl (fun c σ S' => ∃ (T5:Store) (p:Nat),Shq S T ob gb.length ids ot T5∧At T5 ob (k*6) (.slice op2 0 np2)∧p≤np2∧c=np2-p∧σ=[(2, .ref (.agg [vl jC sg,vint im,vl vint gl,vl V.bool mu, .bool me])),(3, .ref (.agg [vl vint fi,vl vint fo,vl vint ts,vl jb bs])),(5, .ref (.agg [vl vint fi,vl vint fo,vl vint ts,vl jb bs])),(6, .ptr (lid T5.nx 0) 0),(9, .ptr ob (k*6)),(36,vnat gb.length),(37,vnat k),(103,vnat np2),(104,vnat p)]∧S'=St T5 [] [some (4,[vl vint gi,vl vint go, .slice ot 0 gt.length, .slice ob 0 gb.length])]) np2 ?_ ?_
  ·exact ⟨T2,0,hs2,⟨_,_,hob2,hcl20⟩,by omega,rfl,by simp [Fr.only,Fr.look],rfl⟩
  rintro c σ T' ⟨T5,p,hs5,hat5,hp,rfl,rfl,rfl⟩;have hwf5x:=hwf;clear hwf;have hwf:=hs5.1.wf;have hn5:=hs5.1.nx;refine zy (b':=T5.nx) (by omega) ?_;obtain ⟨cells5,op5,np5,oc5,nc5,oe5,ne5,u5,cc5,ce5,hob5,hcl50,hcl51,hcl52,hcl52c,hcl54,hop5,hocm5,hoc5,hoem5,hoe5,hncb5,hneb5,hin5,hed5⟩:=hs5.1.full hkt;have bb5:=fun u l => @jk T5 u l ob (by have:=hidO ob (by simp); omega)
  have bc5:=fun u l => @jk T5 u l oc5 (by have:=hidO oc5 (by simp [hocm5]); omega)
  have be5:=fun u l => @jk T5 u l oe5 (by have:=hidO oe5 (by simp [hoem5]); omega)
  have hcl54':cells5[k*6+2+2]? = some (.slice oe5 0 ne5):=hcl54;have heq:=hat5.same hob5 hcl50;simp only [V.slice.injEq,true_and] at heq;obtain ⟨rfl,rfl⟩:=heq;obtain ⟨cp5m,cp5n,cp5,cp5g,cp5l,cp5c⟩:=hop5;have bcp5:=fun u l => @jk T5 u l op5 (by have:=hidO op5 (by simp [cp5m]); omega)
  have hidcp5:=(hid0 op5 (by simp [cp5m])).2
  by_cases hpt:p<np5
  case pos =>
   have hwq:=ji hpt (by omega);have hqc:p<cp5.length:=by omega
   repeat first|refine QG ?_|refine QY ?_ (r:=by conv=>lhs;simp[QV,hkt,hpt,bb5,hob5,hcl50,bcp5,cp5g,hqc,hwq])
   show jp _ _ _ _ _ _ _;exact again ⟨Nat.sub_lt_sub_left hpt (Nat.lt_succ_self p),T5.upd op5 (1,cp5.set p (V.int .i64 (-1))),p+1,hs5.write hnd hid0 (by simp [cp5m]) cp5g (List.getElem?_eq_getElem hqc) (cp5c _ (List.getElem_mem hqc)) rfl,hat5.write cp5g (List.getElem?_eq_getElem hqc) (cp5c _ (List.getElem_mem hqc)),hpt,rfl,by simp [Fr.only,Fr.look]; rfl,Wt (by omega)⟩
  repeat first|refine QG ?_|refine QY ?_ (r:=by conv=>lhs;simp[QV,hkt,hpt,bb5,hob5,hcl54,hcl54',be5,hoe5])
  refine QO [2,3,5,6,9,36,37,119,120] ?_;refine QT ?_;refine jc [2,3,5,6,9,36,37,119,120] rfl (fun c σ S' => ∃ (T6:Store) (t:Nat),Shq S T ob gb.length ids ot T6∧At T6 ob (k*6+4) (.slice oe5 0 ne5)∧t≤ne5∧c=ne5-t∧σ=[(2, .ref (.agg [vl jC sg,vint im,vl vint gl,vl V.bool mu, .bool me])),(3, .ref (.agg [vl vint fi,vl vint fo,vl vint ts,vl jb bs])),(5, .ref (.agg [vl vint fi,vl vint fo,vl vint ts,vl jb bs])),(6, .ptr (lid T6.nx 0) 0),(9, .ptr ob (k*6)),(36,vnat gb.length),(37,vnat k),(119,vnat ne5),(120,vnat t)]∧S'=St T6 [] [some (4,[vl vint gi,vl vint go, .slice ot 0 gt.length, .slice ob 0 gb.length])]) ne5 ?_ ?_
  ·exact ⟨T5,0,hs5,⟨_,_,hob5,hcl54⟩,by omega,rfl,by simp [Fr.only,Fr.look],rfl⟩
  rintro c σ T' ⟨T6,t,hs6,hat6,ht,rfl,rfl,rfl⟩;have hwf6x:=hwf;clear hwf;have hwf:=hs6.1.wf;have hn6:=hs6.1.nx;refine zy (b':=T6.nx) (by omega) ?_;obtain ⟨cells6,op6,np6,oc6,nc6,oe6,ne6,u6,cc6,ce6,hob6,hcl60,hcl61,hcl62,hcl62c,hcl64,hop6,hocm6,hoc6,hoem6,hoe6,hncb6,hneb6,hin6,hed6⟩:=hs6.1.full hkt;have bb6:=fun u l => @jk T6 u l ob (by have:=hidO ob (by simp); omega)
  have bc6:=fun u l => @jk T6 u l oc6 (by have:=hidO oc6 (by simp [hocm6]); omega)
  have be6:=fun u l => @jk T6 u l oe6 (by have:=hidO oe6 (by simp [hoem6]); omega)
  have hcl64':cells6[k*6+2+2]? = some (.slice oe6 0 ne6):=hcl64;have heq:=hat6.same hob6 hcl64;simp only [V.slice.injEq,true_and] at heq;obtain ⟨rfl,rfl⟩:=heq;have hku:=(List.getElem?_eq_some_iff.1 hcl62).1
  by_cases htt:t<ne6
  case neg =>
   repeat first|refine QG ?_|refine QY ?_ (r:=by conv=>lhs;simp[QV,hkt,htt,bb6,hob6,hku,hw])
   show jp _ _ _ _ _ _ _;exact again ⟨Nat.sub_lt_sub_left hkt (Nat.lt_succ_self k),T6.upd ob (6,cells6.set (k*6+2) (V.int .i64 77)),k+1,hs6.write hnd hid0 (by simp) hob6 hcl62 hcl62c rfl,hkt,rfl,by simp [Fr.only,Fr.look]; rfl,Wt (by have:=(hid0 ob (by simp)).2; omega)⟩
  have hwt:=ji htt (by omega);obtain ⟨ut,oa,na,hct0,hct0c,hct1,hoa6⟩:=hed6 t htt;obtain ⟨ca6m,ca6n,ca6,ca6g,ca6l,ca6c⟩:=hoa6;have bca6:=fun u l => @jk T6 u l oa (by have:=hidO oa (by simp [ca6m]); omega)
  have hidca6:=(hid0 oa (by simp [ca6m])).2
  repeat first|refine QG ?_|refine QY ?_ (r:=by conv=>lhs;simp[QV,hkt,htt,bb6,hob6,hcl64,hcl64',be6,hoe6,hct1,bca6,ca6g])
  refine QO [2,3,5,6,9,14,36,37,119,120,132,133] ?_;refine QT ?_;refine jc [2,3,5,6,9,14,36,37,119,120,132,133] rfl (fun c σ S' => ∃ (T7:Store) (q:Nat),Shq S T ob gb.length ids ot T7∧At T7 ob (k*6+4) (.slice oe6 0 ne6)∧At T7 oe6 (t*2+1) (.slice oa 0 na)∧q≤na∧c=na-q∧σ=[(2, .ref (.agg [vl jC sg,vint im,vl vint gl,vl V.bool mu, .bool me])),(3, .ref (.agg [vl vint fi,vl vint fo,vl vint ts,vl jb bs])),(5, .ref (.agg [vl vint fi,vl vint fo,vl vint ts,vl jb bs])),(6, .ptr (lid T7.nx 0) 0),(9, .ptr ob (k*6)),(14,vnat t),(36,vnat gb.length),(37,vnat k),(119,vnat ne6),(120,vnat t),(132,vnat na),(133,vnat q)]∧S'=St T7 [] [some (4,[vl vint gi,vl vint go, .slice ot 0 gt.length, .slice ob 0 gb.length])]) na ?_ ?_
  ·exact ⟨T6,0,hs6,hat6,⟨_,_,hoe6,hct1⟩,by omega,rfl,by simp [Fr.only,Fr.look],rfl⟩
  rintro c σ T' ⟨T7,q,hs7,hat7,hau7,hq,rfl,rfl,rfl⟩;have hwf7x:=hwf;clear hwf;have hwf:=hs7.1.wf;have hn7:=hs7.1.nx;refine zy (b':=T7.nx) (by omega) ?_;obtain ⟨cells7,op7,np7,oc7,nc7,oe7,ne7,u7,cc7,ce7,hob7,hcl70,hcl71,hcl72,hcl72c,hcl74,hop7,hocm7,hoc7,hoem7,hoe7,hncb7,hneb7,hin7,hed7⟩:=hs7.1.full hkt;have bb7:=fun u l => @jk T7 u l ob (by have:=hidO ob (by simp); omega)
  have bc7:=fun u l => @jk T7 u l oc7 (by have:=hidO oc7 (by simp [hocm7]); omega)
  have be7:=fun u l => @jk T7 u l oe7 (by have:=hidO oe7 (by simp [hoem7]); omega)
  have hcl74':cells7[k*6+2+2]? = some (.slice oe7 0 ne7):=hcl74;have heq:=hat7.same hob7 hcl74;simp only [V.slice.injEq,true_and] at heq;obtain ⟨rfl,rfl⟩:=heq;obtain ⟨ut7,oa7,na7,hct70,hct70c,hct71,hoa7⟩:=hed7 t htt;have heq:=hau7.same hoe7 hct71;simp only [V.slice.injEq,true_and] at heq;obtain ⟨rfl,rfl⟩:=heq;obtain ⟨ca7m,ca7n,ca7,ca7g,ca7l,ca7c⟩:=hoa7;have bca7:=fun u l => @jk T7 u l oa7 (by have:=hidO oa7 (by simp [ca7m]); omega)
  have hidca7:=(hid0 oa7 (by simp [ca7m])).2;have htc:=(List.getElem?_eq_some_iff.1 hct70).1
  by_cases hqt:q<na7
  case pos =>
   have hwq:=ji hqt (by omega);have hqc:q<ca7.length:=by omega
   repeat first|refine QG ?_|refine QY ?_ (r:=by conv=>lhs;simp[QV,hkt,hqt,htt,bb7,hob7,hcl74,hcl74',be7,hoe7,hct71,bca7,ca7g,hqc,hwq])
   show jp _ _ _ _ _ _ _;exact again ⟨Nat.sub_lt_sub_left hqt (Nat.lt_succ_self q),T7.upd oa7 (1,ca7.set q (V.int .i64 (-1))),q+1,hs7.write hnd hid0 (by simp [ca7m]) ca7g (List.getElem?_eq_getElem hqc) (ca7c _ (List.getElem_mem hqc)) rfl,hat7.write ca7g (List.getElem?_eq_getElem hqc) (ca7c _ (List.getElem_mem hqc)),hau7.write ca7g (List.getElem?_eq_getElem hqc) (ca7c _ (List.getElem_mem hqc)),hqt,rfl,by simp [Fr.only,Fr.look]; rfl,Wt (by omega)⟩
  repeat first|refine QG ?_|refine QY ?_ (r:=by conv=>lhs;simp[QV,hkt,htt,hqt,bb7,hob7,hcl74,hcl74',be7,hoe7,htc,hwt])
  show jp _ _ _ _ _ _ _;exact again ⟨Nat.sub_lt_sub_left htt (Nat.lt_succ_self t),T7.upd oe7 (2,ce7.set (t*2) (V.int .i64 (-1))),t+1,hs7.write hnd hid0 (by simp [hoem7]) hoe7 hct70 hct70c rfl,hat7.write hoe7 hct70 hct70c,htt,rfl,by simp [Fr.only,Fr.look]; rfl,Wt (by have:=(hid0 oe7 (by simp [hoem7])).2; omega)⟩
end Go.Vw
