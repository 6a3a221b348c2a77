import Derived.Test.YtkfllaokjaldnaaGreatC39
/-
  Part of the proof (texts CChk3).
-/
set_option linter.unusedVariables false
set_option linter.unusedSimpArgs false
namespace Go.Vw
open Go.Proofs Go.RowKit
set_option maxRecDepth 10000
set_option maxHeartbeats 16000000
theorem jaF {e:Ss.Env} {f:Ss.Fn} {ds:List Ss.Def} {near:List Int} {i:Int} {k:Nat} {l:List Ss.Ins} (h:k<l.length):Ss.rcheckCode e f ds near i k (l.drop k)=(Ss.rinsOk e f ds near i k l[k]&&Ss.rcheckCode e f ds near i (k+1) (l.drop (k+1))):=by
 rw [List.drop_eq_getElem_cons h,Ss.rcheckCode]
theorem YU {e:Ss.Env} {f:Ss.Fn} {ds:List Ss.Def} {near:List Int} {i:Nat} {l:List Ss.Block} (h:i<l.length):Ss.rcheckBlocks e f ds near i (l.drop i)=(Ss.rcheckBlock e f ds near i l[i]&&Ss.rcheckBlocks e f ds near (i+1) (l.drop (i+1))):=by
 rw [List.drop_eq_getElem_cons h,Ss.rcheckBlocks]
theorem RCheck_v (e:Ss.Env) (f:Ss.Fn) (he:e.Fits) (hf:f.Fits):VPure Tryz.prog 13 [zG e,qL f] (.bool (Ss.rcheck e f)):=by
 intro S;have cer:=REnvRight_v e he;have csm:=WX f hf;have hsb := @qx f;have csu:=fun h=>RSucc_v f hf h
 have cdf:=Defs_v f hf;have cci:=circlesP_v f hf;have ckt:VPure Tryz.prog 42 [vl vint f.types, .int .i64 2048] (.bool (Ss.kinds 2048 f.types)):=Zc 2048 f.types (by have:=hf.2.1.1; omega);have csr:=rsig_v f.sig hf.1;have hH:Ss.checkHead e f=(e.right&&f.small&&decide (f.blocks.length≤256)&&Ss.kinds 2048 f.types&&f.sig.right&&f.blocks.all fun b=>decide (b.params.length≤256)):=rfl;have hX:Ss.rcheck e f=(Ss.checkHead e f&&decide (1≤f.blocks.length)&&match Ss.defsOf f with
  | none=>false
  | some ds=>G.right (Ss.succs f.blocks)&&((G.without (G.nats (Ss.succs f.blocks)) none).all id&&(Ss.rshape f&&Ss.rcheckBlocks e f ds (G.nearI (Ss.succs f.blocks)) 0 f.blocks))):=rfl
 have hks:Ss.kinds 2048 f.types=true→f.types.length≤2048:=by
  intro h; simp only [Ss.kinds,Bool.and_eq_true,decide_eq_true_eq] at h; exact h.1
 have her:e.right=true→e.muts.length=e.globals.length:=by
  intro h; simp only [Ss.Env.right,Bool.and_eq_true,decide_eq_true_eq] at h; exact h.1.1.2
 rw [hX,hH];clear hX hH;generalize e.right=er at *
 generalize hsm:f.small=sm at *
 generalize Ss.kinds 2048 f.types=kt at *
 generalize f.sig.right=sr at *
 have hsl:=he.1.1;have hgl:=he.2.2.1.1;obtain ⟨sg,im,gl,mu,me⟩:=e;obtain ⟨⟨fi,fo⟩,ts,bs⟩:=f;simp only at *
 have cer':VPure Tryz.prog 41 [.agg [vl jS sg, .int .i64 im,vl vint gl,vl V.bool mu, .bool me]] (.bool er):=cer;have csm':VPure Tryz.prog 35 [.agg [vl vint fi,vl vint fo,vl vint ts,vl jd bs]] (.bool sm):=csm;have csr':VPure Tryz.prog 43 [.agg [vl vint fi,vl vint fo]] (.bool sr):=csr;generalize hZ:(match Ss.defsOf ⟨⟨fi,fo⟩,ts,bs⟩ with
  | none=>false
  | some ds=>G.right (Ss.succs bs)&&((G.without (G.nats (Ss.succs bs)) none).all id&&(Ss.rshape ⟨⟨fi,fo⟩,ts,bs⟩&&Ss.rcheckBlocks ⟨sg,im,gl,mu,me⟩ ⟨⟨fi,fo⟩,ts,bs⟩ ds (G.nearI (Ss.succs bs)) 0 bs)))=Z
 generalize hP:(fun b:Ss.Block=>decide (b.params.length≤256))=P;refine jb (c:=jg Tryz.f13) Tryz.func13 rfl rfl (by simp [Tryz.ntmps13]) ?_;rw [Tryz.ntmps13];intro hwf
 repeat first|refine QG ?_|refine QY ?_
 repeat refine QS ?_
 refine QP ?_;refine jc (cer') (by rfl) ?_
 by_cases h1:er=true
 case neg =>
  have h1':er=false:=by simpa using h1
  refine QM (by conv=>lhs;simp[-List.map_set,QV,h1']) ?_;refine QN ?_
  repeat first|refine QG ?_|refine QY ?_
  exact ja hwf (by simp [h1']) rfl
 refine QM (by conv=>lhs;simp[-List.map_set,QV,h1]) ?_;refine jc (csm') (by rfl) ?_
 by_cases h2:sm=true
 case neg =>
  have h2':sm=false:=by simpa using h2
  refine QM (by conv=>lhs;simp[-List.map_set,QV,h2']) ?_;refine QN ?_
  repeat first|refine QG ?_|refine QY ?_
  exact ja hwf (by simp [h2']) rfl
 by_cases h3:(bs.length:Int)<1
 ·refine QM (by conv=>lhs;simp[-List.map_set,QV,h2,h3]) ?_;refine QN ?_
  repeat first|refine QG ?_|refine QY ?_
  exact ja hwf (by rw [decide_eq_false (show ¬ 1≤bs.length by omega)]; simp) rfl
 by_cases h3b:(256:Int)<(bs.length:Int)
 ·refine QM (by conv=>lhs;simp[-List.map_set,QV,h2,h3,h3b]) ?_;refine QN ?_
  repeat first|refine QG ?_|refine QY ?_
  exact ja hwf (by rw [show decide (bs.length≤256)=false by simp; omega]; simp) rfl
 have h3':bs.length≤256:=by omega
 have h3n:1≤bs.length:=by omega
 refine QM (by conv=>lhs;simp[-List.map_set,QV,h2,h3,h3b]) ?_;refine jc (ckt) (by rfl) ?_
 by_cases h4:kt=true
 case neg =>
  have h4':kt=false:=by simpa using h4
  refine QM (by conv=>lhs;simp[-List.map_set,QV,h4']) ?_;refine QN ?_
  repeat first|refine QG ?_|refine QY ?_
  exact ja hwf (by simp [h4']) rfl
 refine QM (by conv=>lhs;simp[-List.map_set,QV,h4]) ?_;refine jc (csr') (by rfl) ?_
 by_cases h5:sr=true
 case neg =>
  have h5':sr=false:=by simpa using h5
  refine QM (by conv=>lhs;simp[-List.map_set,QV,h5']) ?_;refine QN ?_
  repeat first|refine QG ?_|refine QY ?_
  exact ja hwf (by simp [h5']) rfl
 rw [h1,h2,h4,h5,decide_eq_true h3',decide_eq_true h3n];simp only [Bool.true_and,Bool.and_true];have htl:=hks h4;obtain ⟨_,_,hsf,_⟩:=hsb h2;refine QM (by conv=>lhs;simp[-List.map_set,QV,h5]) ?_;refine QN ?_
 repeat first|refine QG ?_|refine QY ?_
 repeat refine QS ?_
 refine je [2,3,5] rfl (fun c σ S' => ∃ (k:Nat),k≤bs.length∧c=bs.length-k∧(bs.drop k).all P=bs.all P∧σ=[(2, .ptr (lid S.nx 0) 0),(3, .ptr (lid S.nx 1) 0),(5,vnat k)]∧S'=St S [] [some (5,[vl jS sg,vint im,vl vint gl,vl V.bool mu, .bool me]),some (4,[vl vint fi,vl vint fo,vl vint ts,vl jd bs])]) bs.length ?_ ?_
 ·exact ⟨0,by omega,rfl,rfl,by simp [Fr.only],rfl⟩
 ·rintro c σ T ⟨k,hk,rfl,hd,rfl,rfl⟩
  by_cases hkt:k<bs.length
  ·have hw:=jn hkt (by omega);have hst:=Ss.drop_all P hkt;obtain ⟨⟨ps,code,⟨tk,ta,to,az⟩⟩,hx⟩ : ∃ b,bs[k]=b:=⟨_,rfl⟩
   have hPx:P ⟨ps,code,⟨tk,ta,to,az⟩⟩=decide (ps.length≤256):=by rw [←hP]
   rw [hx,hPx] at hst
   by_cases h6:(256:Int)<(ps.length:Int)
   ·rw [decide_eq_false (by omega),Bool.false_and,hd] at hst;rw [hst]
    repeat first|refine QG ?_|refine QY ?_ (r:=by conv=>lhs;simp[-List.map_set,QV,hkt,hx,h6])
    exact ja hwf (by simp) rfl
   ·rw [decide_eq_true (by omega),Bool.true_and,hd] at hst
    repeat first|refine QG ?_|refine QY ?_ (r:=by conv=>lhs;simp[-List.map_set,QV,hkt,hx,h6,hw])
    show jz _ _ _ _ _ _ _;exact again ⟨by omega,k+1,by omega,rfl,hst.symm,by simp [Fr.only],rfl⟩
  rw [Ss.drop_all_end _ hkt] at hd;rw [←hd,Bool.true_and];have hke:k=bs.length:=by omega
  subst hke;have csu':VPure Tryz.prog 20 [.agg [vl vint fi,vl vint fo,vl vint ts,vl jd bs]] (vl (vl vint) (Ss.succs bs)):=csu h2;have cdf':VPure Tryz.prog 44 [.agg [vl vint fi,vl vint fo,vl vint ts,vl jd bs]] (rdefsV (Ss.defsOf ⟨⟨fi,fo⟩,ts,bs⟩)):=cdf (by omega)
  cases hdf:Ss.defsOf ⟨⟨fi,fo⟩,ts,bs⟩ with
  | none =>
   rw [hdf] at hZ cdf';simp only at hZ;subst hZ;obtain ⟨z,hz⟩ : ∃ z,z=false:=⟨_,rfl⟩
   have cdf2:VPure Tryz.prog 44 [.agg [vl vint fi,vl vint fo,vl vint ts,vl jd bs]] (.tuple [.list [], .bool z]):=by rw [hz]; exact cdf'
   repeat first|refine QG ?_|refine QY ?_ (r:=by conv=>lhs;simp[-List.map_set,QV,hkt])
   repeat refine QS ?_
   refine QP ?_;refine jc (csu') (by rfl) ?_;refine QW ?_
   repeat refine QS ?_
   refine QP ?_;refine jc (cdf2) (by rfl) ?_;refine QM (by conv=>lhs;simp[-List.map_set,QV,hz]) ?_;refine QN ?_
   repeat first|refine QG ?_|refine QY ?_ (r:=by conv=>lhs;simp[-List.map_set,QV,hz])
   exact ja hwf rfl rfl
  | some ds =>
   rw [hdf] at hZ cdf';simp only at hZ;obtain ⟨hdl,hdin⟩:=Ss.defs_in hdf;have hnn:=Ss.defs_nn hdf;simp only at hdl hdin;obtain ⟨z,hz⟩ : ∃ z,z=true:=⟨_,rfl⟩
   have cdf2:VPure Tryz.prog 44 [.agg [vl vint fi,vl vint fo,vl vint ts,vl jd bs]] (.tuple [vl qm ds, .bool z]):=by rw [hz]; exact cdf'
   have hgl63:(Ss.succs bs).length<2^63:=by simp [Ss.succs]; omega
   have hgr63 : ∀ r∈Ss.succs bs,r.length<2^62:=by
    intro r hr;obtain ⟨b,hb,rfl⟩:=List.mem_map.1 hr;have:=(hsf b hb).2.1;simp [Ss.rowOf]; omega
   have crt:=RRight_v (Ss.succs bs) hgl63 (fun r hr=>by have:=hgr63 r hr; omega);have cwo:=WithoutI_v (Ss.succs bs);have cne:=RNearI_v (Ss.succs bs) hgl63 (fun r hr=>by have:=hgr63 r hr; omega)
   repeat first|refine QG ?_|refine QY ?_ (r:=by conv=>lhs;simp[-List.map_set,QV,hkt])
   repeat refine QS ?_
   refine QP ?_;refine jc (csu') (by rfl) ?_;refine QW ?_
   repeat refine QS ?_
   refine QP ?_;refine jc (cdf2) (by rfl) ?_;refine QW ?_
   repeat refine QS ?_
   refine QP ?_ (r:=by conv=>lhs;simp[-List.map_set,QV,hz]);refine jc (crt) (by rfl) ?_
   by_cases h6:G.right (Ss.succs bs)=true
   case neg =>
    have h6':G.right (Ss.succs bs)=false:=by simpa using h6
    rw [h6',Bool.false_and] at hZ;subst hZ;refine QM (by conv=>lhs;simp[-List.map_set,QV,h6']) ?_;refine QN ?_
    repeat first|refine QG ?_|refine QY ?_
    exact ja hwf rfl rfl
   have cwo':=cwo h6;have cne':=cne h6;rw [h6,Bool.true_and] at hZ;generalize hrd:G.without (G.nats (Ss.succs bs)) none=reached at *
   refine QM (by conv=>lhs;simp[-List.map_set,QV,h6]) ?_;refine QN ?_
   repeat first|refine QG ?_|refine QY ?_
   repeat refine QS ?_
   refine QP ?_;refine jp rfl cwo' ?_;refine QW ?_
   repeat first|refine QG ?_|refine QY ?_
   have hrl:reached.length<2^63:=by
    have:=G.without_length (G.right_ok h6) none;rw [hrd] at this;rw [this]; simpa [G.nats] using hgl63
   repeat refine QS ?_
   refine je [2,3,6,7,9,10] rfl (fun c σ S' => ∃ (k:Nat),k≤reached.length∧c=reached.length-k∧(reached.drop k).all id=reached.all id∧σ=[(2, .ptr (lid S.nx 0) 0),(3, .ptr (lid S.nx 1) 0),(6,vl (vl vint) (Ss.succs bs)),(7,vl qm ds),(9,vl V.bool reached),(10,vnat k)]∧S'=St S [] [some (5,[vl jS sg,vint im,vl vint gl,vl V.bool mu, .bool me]),some (4,[vl vint fi,vl vint fo,vl vint ts,vl jd bs])]) reached.length ?_ ?_
   ·exact ⟨0,by omega,rfl,rfl,by simp [Fr.only],rfl⟩
   ·rintro c σ T ⟨k,hk,rfl,hd,rfl,rfl⟩
    by_cases hkt:k<reached.length
    ·have hw:=jn hkt (by omega);have hst:=Ss.drop_all id hkt;obtain ⟨y,hy⟩ : ∃ y,reached[k]=y:=⟨_,rfl⟩
     rw [hy] at hst
     by_cases h7:y=true
     ·rw [h7,id,Bool.true_and,hd] at hst
      repeat first|refine QG ?_|refine QY ?_ (r:=by conv=>lhs;simp[-List.map_set,QV,hkt,hy,h7,hw])
      show jz _ _ _ _ _ _ _;exact again ⟨by omega,k+1,by omega,rfl,hst.symm,by simp [Fr.only],rfl⟩
     ·have h7':y=false:=by simpa using h7
      rw [h7',id,Bool.false_and,hd] at hst;rw [hst,Bool.false_and] at hZ;subst hZ
      repeat first|refine QG ?_|refine QY ?_ (r:=by conv=>lhs;simp[-List.map_set,QV,hkt,hy,h7'])
      exact ja hwf rfl rfl
    rw [Ss.drop_all_end _ hkt] at hd;rw [←hd,Bool.true_and] at hZ;have hke:k=reached.length:=by omega
    subst hke;have hGok:=G.right_ok h6;have hGe:(Ss.succs bs).map (vl vint)=(G.nats (Ss.succs bs)).map (vl vnat):=by
     have:=G.right_enc h6;simpa only [vl,V.list.injEq] using this
    have hcirc:=cci h2 _ hGe (fun r hr=>⟨by have:=hGok.row r hr; omega,hGok.elt r hr⟩);have cci':VPure Tryz.prog 49 [.agg [vl vint fi,vl vint fo,vl vint ts,vl jd bs]] (.bool (Ss.circ (Ss.msk bs (G.nats (Ss.succs bs))))):=hcirc;have hto:=Ss.right_to (f:=⟨⟨fi,fo⟩,ts,bs⟩) h6;simp only at hto;have hnl:=G.nearI_len (Ss.succs bs);have h0:0<bs.length:=by omega
    obtain ⟨⟨ps,code,⟨tk,ta,to,az⟩⟩,hx0⟩ : ∃ b,bs[0]=b:=⟨_,rfl⟩
    have hm0:=List.getElem_mem h0;rw [hx0] at hm0;have hb0:=hsf _ hm0;have hin0:=(hdin _ hm0).1;simp only at hb0 hin0;have hrs:Ss.rshape ⟨⟨fi,fo⟩,ts,bs⟩=(decide (Ss.typesOf ts ps=fi)&&(Ss.firstTick code && !Ss.circ (Ss.msk bs (G.nats (Ss.succs bs))))):=by
     have e:bs.getD 0 default=⟨ps,code,⟨tk,ta,to,az⟩⟩:=by simp [h0,hx0]
     simp only [Ss.rshape,e]
    rw [hrs] at hZ;generalize Ss.circ (Ss.msk bs (G.nats (Ss.succs bs)))=ci at *
    generalize hnr:G.nearI (Ss.succs bs)=near at *
    have cty:=jbH ⟨sg,im,gl,mu,me⟩ ⟨⟨fi,fo⟩,ts,bs⟩ ds near ps (by omega) hin0;simp only at cty;have htl0:(Ss.typesOf ts ps).length<2^63:=by simp [Ss.typesOf]; omega
    generalize Ss.typesOf ts ps=tq at *
    have cin:=JC tq fi htl0
    repeat first|refine QG ?_|refine QY ?_ (r:=by conv=>lhs;simp[-List.map_set,QV,hkt])
    repeat refine QS ?_
    refine QP ?_;refine jc (cne') (by rfl) ?_;refine QW ?_
    repeat first|refine QG ?_|refine QY ?_
    refine QH 13 2 ?_
    repeat refine QS ?_
    refine QD (r:=by conv=>lhs;simp[-List.map_set,QV,h0,hx0]) (k:=?_);refine jc (cty) (by rfl) ?_;refine QZ ?_;refine jc (cin) (by rfl) ?_
    by_cases h8:tq=fi
    case neg =>
     rw [decide_eq_false h8,Bool.false_and,Bool.false_and] at hZ;subst hZ;refine QM (by conv=>lhs;simp[-List.map_set,QV,h8]) ?_;refine QN ?_
     repeat first|refine QG ?_|refine QY ?_
     exact ja hwf rfl rfl
    rw [decide_eq_true h8,Bool.true_and] at hZ
    cases code with
    | nil =>
     have hft:Ss.firstTick []=false:=rfl;rw [hft,Bool.false_and,Bool.false_and] at hZ;subst hZ;refine QM (by conv=>lhs;simp[-List.map_set,QV,h8,h0,hx0]) ?_;refine QN ?_
     repeat first|refine QG ?_|refine QY ?_
     exact ja hwf rfl rfl
    | cons x0 cr =>
    obtain ⟨xo,xn,xa,xu⟩:=x0;have hft:Ss.firstTick (⟨xo,xn,xa,xu⟩::cr)=decide (xo=258):=rfl;rw [hft] at hZ;have hcpos : ¬ (cr.length:Int)+1=0:=by omega
    by_cases h9:xo=258
    case neg =>
     rw [decide_eq_false h9,Bool.false_and,Bool.false_and] at hZ;subst hZ;refine QM (by conv=>lhs;simp[-List.map_set,QV,h8,h0,hx0,h9,hcpos]) ?_;refine QN ?_
     repeat first|refine QG ?_|refine QY ?_
     exact ja hwf rfl rfl
    rw [decide_eq_true h9,Bool.true_and] at hZ;refine QM (by conv=>lhs;simp[-List.map_set,QV,h8,h0,hx0,h9,hcpos]) ?_;refine jc (cci') (by rfl) ?_
    by_cases h10:ci=true
    ·rw [h10,Bool.not_true,Bool.false_and] at hZ;subst hZ;refine QM (by conv=>lhs;simp[-List.map_set,QV,h10]) ?_;refine QN ?_
     repeat first|refine QG ?_|refine QY ?_
     exact ja hwf rfl rfl
    have h10':ci=false:=by simpa using h10
    rw [h10',Bool.not_false,Bool.true_and] at hZ;refine QM (by conv=>lhs;simp[-List.map_set,QV,h10']) ?_;refine QN ?_
    repeat first|refine QG ?_|refine QY ?_
    refine jI [2,3,13,14] (by conv=>lhs; simp [Fr.only,Fr.look]) ?_;refine zI [0,1] hwf (by decide) (by simp [-List.map_set]) (by conv=>lhs; simp [-List.map_set]) (by conv=>lhs; simp [-List.map_set]) (by conv=>lhs; simp [-List.map_set]) ?_;clear cwo cne cne' cci' cdf2 cdf' csu' cdf cci cer' csm' csr' crt cty cin;have hbF:=hf.2.2.2;simp only at hbF;have cns : ∀ (i k:Nat) (b:Ss.Block) (x:Ss.Ins),bs[i]? = some b→b.code[k]? = some x→VPure Tryz.prog 50 [ckR ⟨sg,im,gl,mu,me⟩ ⟨⟨fi,fo⟩,ts,bs⟩ ds near,vnat i,vnat k] (.bool (Ss.rinsOk ⟨sg,im,gl,mu,me⟩ ⟨⟨fi,fo⟩,ts,bs⟩ ds near i k x)):=by
     intro i k b x hb hx;have hbm:=List.mem_of_getElem? hb;have hxm:=List.mem_of_getElem? hx;have hsmb:=((Ss.small_iff _).1 (hsm.trans h2)).2.1 b hbm;simp only [Ss.Block.small,Bool.and_eq_true,List.all_eq_true,Ss.Ins.small,decide_eq_true_eq] at hsmb;have hxl:=(hsmb.1.2 x hxm).2;exact rins_v ⟨sg,im,gl,mu,me⟩ ⟨⟨fi,fo⟩,ts,bs⟩ ds near i k b x hsl hgl (her h1) hdl (by simp only; omega) (by omega) hnn hb hx ((hbF b hbm).2.1.2 x hxm) (by omega) ((hdin b hbm).2 x hxm)
    have ctm : ∀ (i:Nat) (b:Ss.Block),bs[i]? = some b→VPure Tryz.prog 51 [ckR ⟨sg,im,gl,mu,me⟩ ⟨⟨fi,fo⟩,ts,bs⟩ ds near,vnat i] (.bool (Ss.rtermOk ⟨⟨fi,fo⟩,ts,bs⟩ ds near i b.code.length b.term)):=fun i b hb =>
     rterm_v ⟨sg,im,gl,mu,me⟩ ⟨⟨fi,fo⟩,ts,bs⟩ ds near i b hdl (by simp only; omega) (by omega) hnn hb (hbF b (List.mem_of_getElem? hb))
    have ced : ∀ (i:Nat) (b:Ss.Block),bs[i]? = some b→VPure Tryz.prog 52 [ckR ⟨sg,im,gl,mu,me⟩ ⟨⟨fi,fo⟩,ts,bs⟩ ds near,vnat i] (.bool (b.term.to.all (Ss.redgeOk ⟨⟨fi,fo⟩,ts,bs⟩ ds near i b.code.length))):=fun i b hb =>
     redges_v ⟨sg,im,gl,mu,me⟩ ⟨⟨fi,fo⟩,ts,bs⟩ ds near i b hdl (by simp only; omega) (by omega) hnn hb (hbF b (List.mem_of_getElem? hb)) (by simp only; omega) (hto b (List.mem_of_getElem? hb)) (fun b hb=>⟨by have:=(hsf b hb).1; omega,(hdin b hb).1⟩)
    clear h0 hx0 hm0 hb0 hin0 hrs hcirc
    repeat refine QS ?_
    refine je [2,3,13,14] rfl (fun c σ S' => ∃ (k:Nat),k≤bs.length∧c=bs.length-k∧Ss.rcheckBlocks ⟨sg,im,gl,mu,me⟩ ⟨⟨fi,fo⟩,ts,bs⟩ ds near k (bs.drop k)=Z∧σ=[(2, .ptr (lid S.nx 0) 0),(3, .ptr (lid S.nx 1) 0),(13,ckR ⟨sg,im,gl,mu,me⟩ ⟨⟨fi,fo⟩,ts,bs⟩ ds near),(14,vnat k)]∧S'=St S [] [some (5,[vl jS sg,vint im,vl vint gl,vl V.bool mu, .bool me]),some (4,[vl vint fi,vl vint fo,vl vint ts,vl jd bs])]) bs.length ?_ ?_
    ·exact ⟨0,by omega,rfl,hZ,by simp [Fr.only],rfl⟩
    ·rintro c σ T ⟨k,hk,rfl,hcb,rfl,rfl⟩
     by_cases hkt:k<bs.length
     case neg =>
      have e1:bs.drop k=[]:=by rw [List.drop_eq_nil_iff]; omega
      rw [e1,Ss.rcheckBlocks] at hcb
      repeat first|refine QG ?_|refine QY ?_ (r:=by conv=>lhs;simp[-List.map_set,QV,hkt])
      exact ja hwf (by simp [←hcb]) rfl
     have hw:=jn hkt (by omega);have hst:=YU (e:=⟨sg,im,gl,mu,me⟩) (f:=⟨⟨fi,fo⟩,ts,bs⟩) (ds:=ds) (near:=near) hkt;have hsome:bs[k]? = some bs[k]:=List.getElem?_eq_getElem hkt;have hcl:=(hsf _ (List.getElem_mem hkt)).2.2.2;have cti:=ctm k _ hsome;have cei:=ced k _ hsome;have cii:=fun j x=>cns k j _ x hsome
     obtain ⟨⟨ps,code,⟨tk,ta,to,az⟩⟩,hx⟩ : ∃ b,bs[k]=b:=⟨_,rfl⟩
     rw [hx] at hst hcl cti cii cei;simp only at hst hcl cii cti cei;have hrb:Ss.rcheckBlock ⟨sg,im,gl,mu,me⟩ ⟨⟨fi,fo⟩,ts,bs⟩ ds near k ⟨ps,code,⟨tk,ta,to,az⟩⟩=(Ss.rcheckCode ⟨sg,im,gl,mu,me⟩ ⟨⟨fi,fo⟩,ts,bs⟩ ds near k 0 code&&(Ss.rtermOk ⟨⟨fi,fo⟩,ts,bs⟩ ds near k code.length ⟨tk,ta,to,az⟩&&to.all (Ss.redgeOk ⟨⟨fi,fo⟩,ts,bs⟩ ds near k code.length))):=rfl;rw [hst,hrb] at hcb;clear hst hrb;generalize Ss.rtermOk ⟨⟨fi,fo⟩,ts,bs⟩ ds near k code.length ⟨tk,ta,to,az⟩=tm at *
     generalize to.all (Ss.redgeOk ⟨⟨fi,fo⟩,ts,bs⟩ ds near k code.length)=ed at *
     repeat first|refine QG ?_|refine QY ?_ (r:=by conv=>lhs;simp[-List.map_set,QV,hkt,hx])
     repeat refine QS ?_
     refine je [2,3,13,14,15] rfl (fun c σ S' => ∃ (j:Nat),j≤code.length∧c=code.length-j∧Ss.rcheckCode ⟨sg,im,gl,mu,me⟩ ⟨⟨fi,fo⟩,ts,bs⟩ ds near k j (code.drop j)=Ss.rcheckCode ⟨sg,im,gl,mu,me⟩ ⟨⟨fi,fo⟩,ts,bs⟩ ds near k 0 code∧σ=[(2, .ptr (lid S.nx 0) 0),(3, .ptr (lid S.nx 1) 0),(13,ckR ⟨sg,im,gl,mu,me⟩ ⟨⟨fi,fo⟩,ts,bs⟩ ds near),(14,vnat k),(15,vnat j)]∧S'=St S [] [some (5,[vl jS sg,vint im,vl vint gl,vl V.bool mu, .bool me]),some (4,[vl vint fi,vl vint fo,vl vint ts,vl jd bs])]) code.length ?_ ?_
     ·exact ⟨0,by omega,rfl,rfl,by simp [Fr.only],rfl⟩
     ·rintro c σ T ⟨j,hj,rfl,hcc,rfl,rfl⟩
      by_cases hjt:j<code.length
      ·have hwj:=jn hjt (by omega);have hsc:=jaF (e:=⟨sg,im,gl,mu,me⟩) (f:=⟨⟨fi,fo⟩,ts,bs⟩) (ds:=ds) (near:=near) (i:=k) hjt;have cij:=cii j _ (List.getElem?_eq_getElem hjt);generalize Ss.rinsOk ⟨sg,im,gl,mu,me⟩ ⟨⟨fi,fo⟩,ts,bs⟩ ds near k j code[j]=io at *
       repeat first|refine QG ?_|refine QY ?_ (r:=by conv=>lhs;simp[-List.map_set,QV,hkt,hx,hjt])
       repeat refine QS ?_
       refine QP ?_;refine jc (cij) (by rfl) ?_
       by_cases hio:io=true
       ·refine QM (by conv=>lhs;simp[-List.map_set,QV,hio]) ?_;refine QN ?_
        repeat first|refine QG ?_|refine QY ?_ (r:=by conv=>lhs;simp[-List.map_set,QV,hwj])
        show jz _ _ _ _ _ _ _;exact again ⟨by omega,j+1,by omega,rfl,by rw [←hcc,hsc,hio,Bool.true_and],by simp [Fr.only,hwj],by simp⟩
       ·have hio':io=false:=by simpa using hio
        refine QM (by conv=>lhs;simp[-List.map_set,QV,hio']) ?_;refine QN ?_
        repeat first|refine QG ?_|refine QY ?_
        exact ja hwf (by rw [←hcb, ←hcc,hsc,hio']; simp) rfl
      ·have e1:code.drop j=[]:=by rw [List.drop_eq_nil_iff]; omega
       rw [e1,Ss.rcheckCode] at hcc;rw [←hcc,Bool.true_and] at hcb
       repeat first|refine QG ?_|refine QY ?_ (r:=by conv=>lhs;simp[-List.map_set,QV,hkt,hx,hjt])
       repeat refine QS ?_
       refine QP ?_;refine jc (cti) (by rfl) ?_
       by_cases htm:tm=true
       ·refine QM (by conv=>lhs;simp[-List.map_set,QV,htm]) ?_;refine jc (cei) (by rfl) ?_
        by_cases hed:ed=true
        ·refine QM (by conv=>lhs;simp[-List.map_set,QV,hed]) ?_;refine QN ?_
         repeat first|refine QG ?_|refine QY ?_ (r:=by conv=>lhs;simp[-List.map_set,QV,hw])
         show jz _ _ _ _ _ _ _;exact again ⟨by omega,k+1,by omega,rfl,by rw [←hcb,htm,hed,Bool.true_and,Bool.true_and],by simp [Fr.only,hw],by simp⟩
        ·have hed':ed=false:=by simpa using hed
         refine QM (by conv=>lhs;simp[-List.map_set,QV,hed']) ?_;refine QN ?_
         repeat first|refine QG ?_|refine QY ?_
         exact ja hwf (by rw [←hcb,htm,hed']; simp) rfl
       ·have htm':tm=false:=by simpa using htm
        refine QM (by conv=>lhs;simp[-List.map_set,QV,htm']) ?_;refine QN ?_
        repeat first|refine QG ?_|refine QY ?_
        exact ja hwf (by rw [←hcb,htm']; simp) rfl
end Go.Vw
