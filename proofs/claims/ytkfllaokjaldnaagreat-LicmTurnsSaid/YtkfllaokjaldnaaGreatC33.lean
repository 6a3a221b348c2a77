import Derived.Test.YtkfllaokjaldnaaGreatC31
import Derived.Test.YtkfllaokjaldnaaGreatC27
import Derived.Test.YtkfllaokjaldnaaGreatC32
import Derived.Test.YtkfllaokjaldnaaGreatC30
import Derived.Test.YtkfllaokjaldnaaGreatC23
import Derived.Test.YtkfllaokjaldnaaGreatC26
import Derived.Test.YtkfllaokjaldnaaGreatC24
import Derived.Test.YtkfllaokjaldnaaGreatC25
/-
  Part of the proof (texts CChk3, BRRun, EInv, DRound, DMark).
-/
set_option linter.unusedVariables false
set_option linter.unusedSimpArgs false
namespace Go.Vw
open Go.Proofs Go.RowKit
set_option maxRecDepth 10000
set_option maxHeartbeats 16000000
theorem jaT {e:Ss.Env} {f:Ss.Fn} {ds:List Ss.Def} {near:List Int} {i:Int} {k:Nat} {l:List Ss.Ins} (h:k<l.length):Ss.rcheckCode e f ds near i k (l.drop k)=(Ss.rinsOk e f ds near i k l[k]&&Ss.rcheckCode e f ds near i (k+1) (l.drop (k+1))):=by
 rw [List.drop_eq_getElem_cons h,Ss.rcheckCode]
theorem Zj {e:Ss.Env} {f:Ss.Fn} {ds:List Ss.Def} {near:List Int} {i:Nat} {l:List Ss.Block} (h:i<l.length):Ss.rcheckBlocks e f ds near i (l.drop i)=(Ss.rcheckBlock e f ds near i l[i]&&Ss.rcheckBlocks e f ds near (i+1) (l.drop (i+1))):=by
 rw [List.drop_eq_getElem_cons h,Ss.rcheckBlocks]
theorem RCheck_v (e:Ss.Env) (f:Ss.Fn) (he:e.Fits) (hf:f.Fits):VPure Tryz.prog 13 [zl e,qD f] (.bool (Ss.rcheck e f)):=by
 intro S;have cer:=REnvRight_v e he;have csm:=KQ f hf;have hsb := @qd f;have csu:=fun h=>RSucc_v f hf h
 have cdf:=Defs_v f hf;have cci:=circlesP_v f hf;have ckt:VPure Tryz.prog 42 [vl vint f.types, .int .i64 2048] (.bool (Ss.kinds 2048 f.types)):=Zr 2048 f.types (by have:=hf.2.1.1; omega);have csr:=rsig_v f.sig hf.1;have hH:Ss.checkHead e f=(e.right&&f.small&&decide (f.blocks.length≤256)&&Ss.kinds 2048 f.types&&f.sig.right&&f.blocks.all fun b=>decide (b.params.length≤256)):=rfl;have hX:Ss.rcheck e f=(Ss.checkHead e f&&decide (1≤f.blocks.length)&&match Ss.defsOf f with
  | none=>false
  | some ds=>G.right (Ss.succs f.blocks)&&((G.without (G.nats (Ss.succs f.blocks)) none).all id&&(Ss.rshape f&&Ss.rcheckBlocks e f ds (G.nearI (Ss.succs f.blocks)) 0 f.blocks))):=rfl
 have hks:Ss.kinds 2048 f.types=true→f.types.length≤2048:=by
  intro h; simp only [Ss.kinds,Bool.and_eq_true,decide_eq_true_eq] at h; exact h.1
 have her:e.right=true→e.muts.length=e.globals.length:=by
  intro h; simp only [Ss.Env.right,Bool.and_eq_true,decide_eq_true_eq] at h; exact h.1.1.2
 rw [hX,hH];clear hX hH;generalize e.right=er at *
 generalize hsm:f.small=sm at *
 generalize Ss.kinds 2048 f.types=kt at *
 generalize f.sig.right=sr at *
 have hsl:=he.1.1;have hgl:=he.2.2.1.1;obtain ⟨sg,im,gl,mu,me⟩:=e;obtain ⟨⟨fi,fo⟩,ts,bs⟩:=f;simp only at *
 have cer':VPure Tryz.prog 41 [.agg [vl jR sg, .int .i64 im,vl vint gl,vl V.bool mu, .bool me]] (.bool er):=cer;have csm':VPure Tryz.prog 35 [.agg [vl vint fi,vl vint fo,vl vint ts,vl jd bs]] (.bool sm):=csm;have csr':VPure Tryz.prog 43 [.agg [vl vint fi,vl vint fo]] (.bool sr):=csr;generalize hZ:(match Ss.defsOf ⟨⟨fi,fo⟩,ts,bs⟩ with
  | none=>false
  | some ds=>G.right (Ss.succs bs)&&((G.without (G.nats (Ss.succs bs)) none).all id&&(Ss.rshape ⟨⟨fi,fo⟩,ts,bs⟩&&Ss.rcheckBlocks ⟨sg,im,gl,mu,me⟩ ⟨⟨fi,fo⟩,ts,bs⟩ ds (G.nearI (Ss.succs bs)) 0 bs)))=Z
 generalize hP:(fun b:Ss.Block=>decide (b.params.length≤256))=P;refine jb (c:=jg Tryz.f13) Tryz.func13 rfl rfl (by simp [Tryz.ntmps13]) ?_;rw [Tryz.ntmps13];intro hwf
 repeat first|refine QG ?_|refine QY ?_
 repeat refine QS ?_
 refine QP ?_;refine jc (cer') (by rfl) ?_
 by_cases h1:er=true
 case neg =>
  have h1':er=false:=by simpa using h1
  refine QM (by conv=>lhs;simp[-List.map_set,QV,h1']) ?_;refine QN ?_
  repeat first|refine QG ?_|refine QY ?_
  exact ja hwf (by simp [h1']) rfl
 refine QM (by conv=>lhs;simp[-List.map_set,QV,h1]) ?_;refine jc (csm') (by rfl) ?_
 by_cases h2:sm=true
 case neg =>
  have h2':sm=false:=by simpa using h2
  refine QM (by conv=>lhs;simp[-List.map_set,QV,h2']) ?_;refine QN ?_
  repeat first|refine QG ?_|refine QY ?_
  exact ja hwf (by simp [h2']) rfl
 by_cases h3:(bs.length:Int)<1
 ·refine QM (by conv=>lhs;simp[-List.map_set,QV,h2,h3]) ?_;refine QN ?_
  repeat first|refine QG ?_|refine QY ?_
  exact ja hwf (by rw [decide_eq_false (show ¬ 1≤bs.length by omega)]; simp) rfl
 by_cases h3b:(256:Int)<(bs.length:Int)
 ·refine QM (by conv=>lhs;simp[-List.map_set,QV,h2,h3,h3b]) ?_;refine QN ?_
  repeat first|refine QG ?_|refine QY ?_
  exact ja hwf (by rw [show decide (bs.length≤256)=false by simp; omega]; simp) rfl
 have h3':bs.length≤256:=by omega
 have h3n:1≤bs.length:=by omega
 refine QM (by conv=>lhs;simp[-List.map_set,QV,h2,h3,h3b]) ?_;refine jc (ckt) (by rfl) ?_
 by_cases h4:kt=true
 case neg =>
  have h4':kt=false:=by simpa using h4
  refine QM (by conv=>lhs;simp[-List.map_set,QV,h4']) ?_;refine QN ?_
  repeat first|refine QG ?_|refine QY ?_
  exact ja hwf (by simp [h4']) rfl
 refine QM (by conv=>lhs;simp[-List.map_set,QV,h4]) ?_;refine jc (csr') (by rfl) ?_
 by_cases h5:sr=true
 case neg =>
  have h5':sr=false:=by simpa using h5
  refine QM (by conv=>lhs;simp[-List.map_set,QV,h5']) ?_;refine QN ?_
  repeat first|refine QG ?_|refine QY ?_
  exact ja hwf (by simp [h5']) rfl
 rw [h1,h2,h4,h5,decide_eq_true h3',decide_eq_true h3n];simp only [Bool.true_and,Bool.and_true];have htl:=hks h4;obtain ⟨_,_,hsf,_⟩:=hsb h2;refine QM (by conv=>lhs;simp[-List.map_set,QV,h5]) ?_;refine QN ?_
 repeat first|refine QG ?_|refine QY ?_
 repeat refine QS ?_
 refine je [2,3,5] rfl (fun c σ S' => ∃ (k:Nat),k≤bs.length∧c=bs.length-k∧(bs.drop k).all P=bs.all P∧σ=[(2, .ptr (lid S.nx 0) 0),(3, .ptr (lid S.nx 1) 0),(5,vnat k)]∧S'=St S [] [some (5,[vl jR sg,vint im,vl vint gl,vl V.bool mu, .bool me]),some (4,[vl vint fi,vl vint fo,vl vint ts,vl jd bs])]) bs.length ?_ ?_
 ·exact ⟨0,by omega,rfl,rfl,by simp [Fr.only],rfl⟩
 ·rintro c σ T ⟨k,hk,rfl,hd,rfl,rfl⟩
  by_cases hkt:k<bs.length
  ·have hw:=jo hkt (by omega);have hst:=Ss.drop_all P hkt;obtain ⟨⟨ps,code,⟨tk,ta,to,az⟩⟩,hx⟩ : ∃ b,bs[k]=b:=⟨_,rfl⟩
   have hPx:P ⟨ps,code,⟨tk,ta,to,az⟩⟩=decide (ps.length≤256):=by rw [←hP]
   rw [hx,hPx] at hst
   by_cases h6:(256:Int)<(ps.length:Int)
   ·rw [decide_eq_false (by omega),Bool.false_and,hd] at hst;rw [hst]
    repeat first|refine QG ?_|refine QY ?_ (r:=by conv=>lhs;simp[-List.map_set,QV,hkt,hx,h6])
    exact ja hwf (by simp) rfl
   ·rw [decide_eq_true (by omega),Bool.true_and,hd] at hst
    repeat first|refine QG ?_|refine QY ?_ (r:=by conv=>lhs;simp[-List.map_set,QV,hkt,hx,h6,hw])
    show jx _ _ _ _ _ _ _;exact again ⟨by omega,k+1,by omega,rfl,hst.symm,by simp [Fr.only],rfl⟩
  rw [Ss.drop_all_end _ hkt] at hd;rw [←hd,Bool.true_and];have hke:k=bs.length:=by omega
  subst hke;have csu':VPure Tryz.prog 20 [.agg [vl vint fi,vl vint fo,vl vint ts,vl jd bs]] (vl (vl vint) (Ss.succs bs)):=csu h2;have cdf':VPure Tryz.prog 44 [.agg [vl vint fi,vl vint fo,vl vint ts,vl jd bs]] (rdefsV (Ss.defsOf ⟨⟨fi,fo⟩,ts,bs⟩)):=cdf (by omega)
  cases hdf:Ss.defsOf ⟨⟨fi,fo⟩,ts,bs⟩ with
  | none =>
   rw [hdf] at hZ cdf';simp only at hZ;subst hZ;obtain ⟨z,hz⟩ : ∃ z,z=false:=⟨_,rfl⟩
   have cdf2:VPure Tryz.prog 44 [.agg [vl vint fi,vl vint fo,vl vint ts,vl jd bs]] (.tuple [.list [], .bool z]):=by rw [hz]; exact cdf'
   repeat first|refine QG ?_|refine QY ?_ (r:=by conv=>lhs;simp[-List.map_set,QV,hkt])
   repeat refine QS ?_
   refine QP ?_;refine jc (csu') (by rfl) ?_;refine QW ?_
   repeat refine QS ?_
   refine QP ?_;refine jc (cdf2) (by rfl) ?_;refine QM (by conv=>lhs;simp[-List.map_set,QV,hz]) ?_;refine QN ?_
   repeat first|refine QG ?_|refine QY ?_ (r:=by conv=>lhs;simp[-List.map_set,QV,hz])
   exact ja hwf rfl rfl
  | some ds =>
   rw [hdf] at hZ cdf';simp only at hZ;obtain ⟨hdl,hdin⟩:=Ss.defs_in hdf;have hnn:=Ss.defs_nn hdf;simp only at hdl hdin;obtain ⟨z,hz⟩ : ∃ z,z=true:=⟨_,rfl⟩
   have cdf2:VPure Tryz.prog 44 [.agg [vl vint fi,vl vint fo,vl vint ts,vl jd bs]] (.tuple [vl jY ds, .bool z]):=by rw [hz]; exact cdf'
   have hgl63:(Ss.succs bs).length<2^63:=by simp [Ss.succs]; omega
   have hgr63 : ∀ r∈Ss.succs bs,r.length<2^62:=by
    intro r hr;obtain ⟨b,hb,rfl⟩:=List.mem_map.1 hr;have:=(hsf b hb).2.1;simp [Ss.rowOf]; omega
   have crt:=Zz (Ss.succs bs) hgl63 (fun r hr=>by have:=hgr63 r hr; omega);have cwo:=WithoutI_v (Ss.succs bs);have cne:=RNearI_v (Ss.succs bs) hgl63 (fun r hr=>by have:=hgr63 r hr; omega)
   repeat first|refine QG ?_|refine QY ?_ (r:=by conv=>lhs;simp[-List.map_set,QV,hkt])
   repeat refine QS ?_
   refine QP ?_;refine jc (csu') (by rfl) ?_;refine QW ?_
   repeat refine QS ?_
   refine QP ?_;refine jc (cdf2) (by rfl) ?_;refine QW ?_
   repeat refine QS ?_
   refine QP ?_ (r:=by conv=>lhs;simp[-List.map_set,QV,hz]);refine jc (crt) (by rfl) ?_
   by_cases h6:G.right (Ss.succs bs)=true
   case neg =>
    have h6':G.right (Ss.succs bs)=false:=by simpa using h6
    rw [h6',Bool.false_and] at hZ;subst hZ;refine QM (by conv=>lhs;simp[-List.map_set,QV,h6']) ?_;refine QN ?_
    repeat first|refine QG ?_|refine QY ?_
    exact ja hwf rfl rfl
   have cwo':=cwo h6;have cne':=cne h6;rw [h6,Bool.true_and] at hZ;generalize hrd:G.without (G.nats (Ss.succs bs)) none=reached at *
   refine QM (by conv=>lhs;simp[-List.map_set,QV,h6]) ?_;refine QN ?_
   repeat first|refine QG ?_|refine QY ?_
   repeat refine QS ?_
   refine QP ?_;refine jn rfl cwo' ?_;refine QW ?_
   repeat first|refine QG ?_|refine QY ?_
   have hrl:reached.length<2^63:=by
    have:=G.without_length (G.right_ok h6) none;rw [hrd] at this;rw [this]; simpa [G.nats] using hgl63
   repeat refine QS ?_
   refine je [2,3,6,7,9,10] rfl (fun c σ S' => ∃ (k:Nat),k≤reached.length∧c=reached.length-k∧(reached.drop k).all id=reached.all id∧σ=[(2, .ptr (lid S.nx 0) 0),(3, .ptr (lid S.nx 1) 0),(6,vl (vl vint) (Ss.succs bs)),(7,vl jY ds),(9,vl V.bool reached),(10,vnat k)]∧S'=St S [] [some (5,[vl jR sg,vint im,vl vint gl,vl V.bool mu, .bool me]),some (4,[vl vint fi,vl vint fo,vl vint ts,vl jd bs])]) reached.length ?_ ?_
   ·exact ⟨0,by omega,rfl,rfl,by simp [Fr.only],rfl⟩
   ·rintro c σ T ⟨k,hk,rfl,hd,rfl,rfl⟩
    by_cases hkt:k<reached.length
    ·have hw:=jo hkt (by omega);have hst:=Ss.drop_all id hkt;obtain ⟨y,hy⟩ : ∃ y,reached[k]=y:=⟨_,rfl⟩
     rw [hy] at hst
     by_cases h7:y=true
     ·rw [h7,id,Bool.true_and,hd] at hst
      repeat first|refine QG ?_|refine QY ?_ (r:=by conv=>lhs;simp[-List.map_set,QV,hkt,hy,h7,hw])
      show jx _ _ _ _ _ _ _;exact again ⟨by omega,k+1,by omega,rfl,hst.symm,by simp [Fr.only],rfl⟩
     ·have h7':y=false:=by simpa using h7
      rw [h7',id,Bool.false_and,hd] at hst;rw [hst,Bool.false_and] at hZ;subst hZ
      repeat first|refine QG ?_|refine QY ?_ (r:=by conv=>lhs;simp[-List.map_set,QV,hkt,hy,h7'])
      exact ja hwf rfl rfl
    rw [Ss.drop_all_end _ hkt] at hd;rw [←hd,Bool.true_and] at hZ;have hke:k=reached.length:=by omega
    subst hke;have hGok:=G.right_ok h6;have hGe:(Ss.succs bs).map (vl vint)=(G.nats (Ss.succs bs)).map (vl vnat):=by
     have:=G.right_enc h6;simpa only [vl,V.list.injEq] using this
    have hcirc:=cci h2 _ hGe (fun r hr=>⟨by have:=hGok.row r hr; omega,hGok.elt r hr⟩);have cci':VPure Tryz.prog 49 [.agg [vl vint fi,vl vint fo,vl vint ts,vl jd bs]] (.bool (Ss.circ (Ss.msk bs (G.nats (Ss.succs bs))))):=hcirc;have hto:=Ss.right_to (f:=⟨⟨fi,fo⟩,ts,bs⟩) h6;simp only at hto;have hnl:=G.nearI_len (Ss.succs bs);have h0:0<bs.length:=by omega
    obtain ⟨⟨ps,code,⟨tk,ta,to,az⟩⟩,hx0⟩ : ∃ b,bs[0]=b:=⟨_,rfl⟩
    have hm0:=List.getElem_mem h0;rw [hx0] at hm0;have hb0:=hsf _ hm0;have hin0:=(hdin _ hm0).1;simp only at hb0 hin0;have hrs:Ss.rshape ⟨⟨fi,fo⟩,ts,bs⟩=(decide (Ss.typesOf ts ps=fi)&&(Ss.firstTick code && !Ss.circ (Ss.msk bs (G.nats (Ss.succs bs))))):=by
     have e:bs.getD 0 default=⟨ps,code,⟨tk,ta,to,az⟩⟩:=by simp [h0,hx0]
     simp only [Ss.rshape,e]
    rw [hrs] at hZ;generalize Ss.circ (Ss.msk bs (G.nats (Ss.succs bs)))=ci at *
    generalize hnr:G.nearI (Ss.succs bs)=near at *
    have cty:=jbW ⟨sg,im,gl,mu,me⟩ ⟨⟨fi,fo⟩,ts,bs⟩ ds near ps (by omega) hin0;simp only at cty;have htl0:(Ss.typesOf ts ps).length<2^63:=by simp [Ss.typesOf]; omega
    generalize Ss.typesOf ts ps=tq at *
    have cin:=JB tq fi htl0
    repeat first|refine QG ?_|refine QY ?_ (r:=by conv=>lhs;simp[-List.map_set,QV,hkt])
    repeat refine QS ?_
    refine QP ?_;refine jc (cne') (by rfl) ?_;refine QW ?_
    repeat first|refine QG ?_|refine QY ?_
    refine QH 13 2 ?_
    repeat refine QS ?_
    refine QD (r:=by conv=>lhs;simp[-List.map_set,QV,h0,hx0]) (k:=?_);refine jc (cty) (by rfl) ?_;refine QZ ?_;refine jc (cin) (by rfl) ?_
    by_cases h8:tq=fi
    case neg =>
     rw [decide_eq_false h8,Bool.false_and,Bool.false_and] at hZ;subst hZ;refine QM (by conv=>lhs;simp[-List.map_set,QV,h8]) ?_;refine QN ?_
     repeat first|refine QG ?_|refine QY ?_
     exact ja hwf rfl rfl
    rw [decide_eq_true h8,Bool.true_and] at hZ
    cases code with
    | nil =>
     have hft:Ss.firstTick []=false:=rfl;rw [hft,Bool.false_and,Bool.false_and] at hZ;subst hZ;refine QM (by conv=>lhs;simp[-List.map_set,QV,h8,h0,hx0]) ?_;refine QN ?_
     repeat first|refine QG ?_|refine QY ?_
     exact ja hwf rfl rfl
    | cons x0 cr =>
    obtain ⟨xo,xn,xa,xu⟩:=x0;have hft:Ss.firstTick (⟨xo,xn,xa,xu⟩::cr)=decide (xo=258):=rfl;rw [hft] at hZ;have hcpos : ¬ (cr.length:Int)+1=0:=by omega
    by_cases h9:xo=258
    case neg =>
     rw [decide_eq_false h9,Bool.false_and,Bool.false_and] at hZ;subst hZ;refine QM (by conv=>lhs;simp[-List.map_set,QV,h8,h0,hx0,h9,hcpos]) ?_;refine QN ?_
     repeat first|refine QG ?_|refine QY ?_
     exact ja hwf rfl rfl
    rw [decide_eq_true h9,Bool.true_and] at hZ;refine QM (by conv=>lhs;simp[-List.map_set,QV,h8,h0,hx0,h9,hcpos]) ?_;refine jc (cci') (by rfl) ?_
    by_cases h10:ci=true
    ·rw [h10,Bool.not_true,Bool.false_and] at hZ;subst hZ;refine QM (by conv=>lhs;simp[-List.map_set,QV,h10]) ?_;refine QN ?_
     repeat first|refine QG ?_|refine QY ?_
     exact ja hwf rfl rfl
    have h10':ci=false:=by simpa using h10
    rw [h10',Bool.not_false,Bool.true_and] at hZ;refine QM (by conv=>lhs;simp[-List.map_set,QV,h10']) ?_;refine QN ?_
    repeat first|refine QG ?_|refine QY ?_
    refine jE [2,3,13,14] (by conv=>lhs; simp [Fr.only,Fr.look]) ?_;refine zp [0,1] hwf (by decide) (by simp [-List.map_set]) (by conv=>lhs; simp [-List.map_set]) (by conv=>lhs; simp [-List.map_set]) (by conv=>lhs; simp [-List.map_set]) ?_;clear cwo cne cne' cci' cdf2 cdf' csu' cdf cci cer' csm' csr' crt cty cin;have hbF:=hf.2.2.2;simp only at hbF;have cns : ∀ (i k:Nat) (b:Ss.Block) (x:Ss.Ins),bs[i]? = some b→b.code[k]? = some x→VPure Tryz.prog 50 [ckR ⟨sg,im,gl,mu,me⟩ ⟨⟨fi,fo⟩,ts,bs⟩ ds near,vnat i,vnat k] (.bool (Ss.rinsOk ⟨sg,im,gl,mu,me⟩ ⟨⟨fi,fo⟩,ts,bs⟩ ds near i k x)):=by
     intro i k b x hb hx;have hbm:=List.mem_of_getElem? hb;have hxm:=List.mem_of_getElem? hx;have hsmb:=((Ss.small_iff _).1 (hsm.trans h2)).2.1 b hbm;simp only [Ss.Block.small,Bool.and_eq_true,List.all_eq_true,Ss.Ins.small,decide_eq_true_eq] at hsmb;have hxl:=(hsmb.1.2 x hxm).2;exact rins_v ⟨sg,im,gl,mu,me⟩ ⟨⟨fi,fo⟩,ts,bs⟩ ds near i k b x hsl hgl (her h1) hdl (by simp only; omega) (by omega) hnn hb hx ((hbF b hbm).2.1.2 x hxm) (by omega) ((hdin b hbm).2 x hxm)
    have ctm : ∀ (i:Nat) (b:Ss.Block),bs[i]? = some b→VPure Tryz.prog 51 [ckR ⟨sg,im,gl,mu,me⟩ ⟨⟨fi,fo⟩,ts,bs⟩ ds near,vnat i] (.bool (Ss.rtermOk ⟨⟨fi,fo⟩,ts,bs⟩ ds near i b.code.length b.term)):=fun i b hb =>
     rterm_v ⟨sg,im,gl,mu,me⟩ ⟨⟨fi,fo⟩,ts,bs⟩ ds near i b hdl (by simp only; omega) (by omega) hnn hb (hbF b (List.mem_of_getElem? hb))
    have ced : ∀ (i:Nat) (b:Ss.Block),bs[i]? = some b→VPure Tryz.prog 52 [ckR ⟨sg,im,gl,mu,me⟩ ⟨⟨fi,fo⟩,ts,bs⟩ ds near,vnat i] (.bool (b.term.to.all (Ss.redgeOk ⟨⟨fi,fo⟩,ts,bs⟩ ds near i b.code.length))):=fun i b hb =>
     redges_v ⟨sg,im,gl,mu,me⟩ ⟨⟨fi,fo⟩,ts,bs⟩ ds near i b hdl (by simp only; omega) (by omega) hnn hb (hbF b (List.mem_of_getElem? hb)) (by simp only; omega) (hto b (List.mem_of_getElem? hb)) (fun b hb=>⟨by have:=(hsf b hb).1; omega,(hdin b hb).1⟩)
    clear h0 hx0 hm0 hb0 hin0 hrs hcirc
    repeat refine QS ?_
    refine je [2,3,13,14] rfl (fun c σ S' => ∃ (k:Nat),k≤bs.length∧c=bs.length-k∧Ss.rcheckBlocks ⟨sg,im,gl,mu,me⟩ ⟨⟨fi,fo⟩,ts,bs⟩ ds near k (bs.drop k)=Z∧σ=[(2, .ptr (lid S.nx 0) 0),(3, .ptr (lid S.nx 1) 0),(13,ckR ⟨sg,im,gl,mu,me⟩ ⟨⟨fi,fo⟩,ts,bs⟩ ds near),(14,vnat k)]∧S'=St S [] [some (5,[vl jR sg,vint im,vl vint gl,vl V.bool mu, .bool me]),some (4,[vl vint fi,vl vint fo,vl vint ts,vl jd bs])]) bs.length ?_ ?_
    ·exact ⟨0,by omega,rfl,hZ,by simp [Fr.only],rfl⟩
    ·rintro c σ T ⟨k,hk,rfl,hcb,rfl,rfl⟩
     by_cases hkt:k<bs.length
     case neg =>
      have e1:bs.drop k=[]:=by rw [List.drop_eq_nil_iff]; omega
      rw [e1,Ss.rcheckBlocks] at hcb
      repeat first|refine QG ?_|refine QY ?_ (r:=by conv=>lhs;simp[-List.map_set,QV,hkt])
      exact ja hwf (by simp [←hcb]) rfl
     have hw:=jo hkt (by omega);have hst:=Zj (e:=⟨sg,im,gl,mu,me⟩) (f:=⟨⟨fi,fo⟩,ts,bs⟩) (ds:=ds) (near:=near) hkt;have hsome:bs[k]? = some bs[k]:=List.getElem?_eq_getElem hkt;have hcl:=(hsf _ (List.getElem_mem hkt)).2.2.2;have cti:=ctm k _ hsome;have cei:=ced k _ hsome;have cii:=fun j x=>cns k j _ x hsome
     obtain ⟨⟨ps,code,⟨tk,ta,to,az⟩⟩,hx⟩ : ∃ b,bs[k]=b:=⟨_,rfl⟩
     rw [hx] at hst hcl cti cii cei;simp only at hst hcl cii cti cei;have hrb:Ss.rcheckBlock ⟨sg,im,gl,mu,me⟩ ⟨⟨fi,fo⟩,ts,bs⟩ ds near k ⟨ps,code,⟨tk,ta,to,az⟩⟩=(Ss.rcheckCode ⟨sg,im,gl,mu,me⟩ ⟨⟨fi,fo⟩,ts,bs⟩ ds near k 0 code&&(Ss.rtermOk ⟨⟨fi,fo⟩,ts,bs⟩ ds near k code.length ⟨tk,ta,to,az⟩&&to.all (Ss.redgeOk ⟨⟨fi,fo⟩,ts,bs⟩ ds near k code.length))):=rfl;rw [hst,hrb] at hcb;clear hst hrb;generalize Ss.rtermOk ⟨⟨fi,fo⟩,ts,bs⟩ ds near k code.length ⟨tk,ta,to,az⟩=tm at *
     generalize to.all (Ss.redgeOk ⟨⟨fi,fo⟩,ts,bs⟩ ds near k code.length)=ed at *
     repeat first|refine QG ?_|refine QY ?_ (r:=by conv=>lhs;simp[-List.map_set,QV,hkt,hx])
     repeat refine QS ?_
     refine je [2,3,13,14,15] rfl (fun c σ S' => ∃ (j:Nat),j≤code.length∧c=code.length-j∧Ss.rcheckCode ⟨sg,im,gl,mu,me⟩ ⟨⟨fi,fo⟩,ts,bs⟩ ds near k j (code.drop j)=Ss.rcheckCode ⟨sg,im,gl,mu,me⟩ ⟨⟨fi,fo⟩,ts,bs⟩ ds near k 0 code∧σ=[(2, .ptr (lid S.nx 0) 0),(3, .ptr (lid S.nx 1) 0),(13,ckR ⟨sg,im,gl,mu,me⟩ ⟨⟨fi,fo⟩,ts,bs⟩ ds near),(14,vnat k),(15,vnat j)]∧S'=St S [] [some (5,[vl jR sg,vint im,vl vint gl,vl V.bool mu, .bool me]),some (4,[vl vint fi,vl vint fo,vl vint ts,vl jd bs])]) code.length ?_ ?_
     ·exact ⟨0,by omega,rfl,rfl,by simp [Fr.only],rfl⟩
     ·rintro c σ T ⟨j,hj,rfl,hcc,rfl,rfl⟩
      by_cases hjt:j<code.length
      ·have hwj:=jo hjt (by omega);have hsc:=jaT (e:=⟨sg,im,gl,mu,me⟩) (f:=⟨⟨fi,fo⟩,ts,bs⟩) (ds:=ds) (near:=near) (i:=k) hjt;have cij:=cii j _ (List.getElem?_eq_getElem hjt);generalize Ss.rinsOk ⟨sg,im,gl,mu,me⟩ ⟨⟨fi,fo⟩,ts,bs⟩ ds near k j code[j]=io at *
       repeat first|refine QG ?_|refine QY ?_ (r:=by conv=>lhs;simp[-List.map_set,QV,hkt,hx,hjt])
       repeat refine QS ?_
       refine QP ?_;refine jc (cij) (by rfl) ?_
       by_cases hio:io=true
       ·refine QM (by conv=>lhs;simp[-List.map_set,QV,hio]) ?_;refine QN ?_
        repeat first|refine QG ?_|refine QY ?_ (r:=by conv=>lhs;simp[-List.map_set,QV,hwj])
        show jx _ _ _ _ _ _ _;exact again ⟨by omega,j+1,by omega,rfl,by rw [←hcc,hsc,hio,Bool.true_and],by simp [Fr.only,hwj],by simp⟩
       ·have hio':io=false:=by simpa using hio
        refine QM (by conv=>lhs;simp[-List.map_set,QV,hio']) ?_;refine QN ?_
        repeat first|refine QG ?_|refine QY ?_
        exact ja hwf (by rw [←hcb, ←hcc,hsc,hio']; simp) rfl
      ·have e1:code.drop j=[]:=by rw [List.drop_eq_nil_iff]; omega
       rw [e1,Ss.rcheckCode] at hcc;rw [←hcc,Bool.true_and] at hcb
       repeat first|refine QG ?_|refine QY ?_ (r:=by conv=>lhs;simp[-List.map_set,QV,hkt,hx,hjt])
       repeat refine QS ?_
       refine QP ?_;refine jc (cti) (by rfl) ?_
       by_cases htm:tm=true
       ·refine QM (by conv=>lhs;simp[-List.map_set,QV,htm]) ?_;refine jc (cei) (by rfl) ?_
        by_cases hed:ed=true
        ·refine QM (by conv=>lhs;simp[-List.map_set,QV,hed]) ?_;refine QN ?_
         repeat first|refine QG ?_|refine QY ?_ (r:=by conv=>lhs;simp[-List.map_set,QV,hw])
         show jx _ _ _ _ _ _ _;exact again ⟨by omega,k+1,by omega,rfl,by rw [←hcb,htm,hed,Bool.true_and,Bool.true_and],by simp [Fr.only,hw],by simp⟩
        ·have hed':ed=false:=by simpa using hed
         refine QM (by conv=>lhs;simp[-List.map_set,QV,hed']) ?_;refine QN ?_
         repeat first|refine QG ?_|refine QY ?_
         exact ja hwf (by rw [←hcb,htm,hed']; simp) rfl
       ·have htm':tm=false:=by simpa using htm
        refine QM (by conv=>lhs;simp[-List.map_set,QV,htm']) ?_;refine QN ?_
        repeat first|refine QG ?_|refine QY ?_
        exact ja hwf (by rw [←hcb,htm']; simp) rfl
end Go.Vw

namespace Go.Vw
open Go.Proofs Go.RowKit
set_option maxRecDepth 10000
set_option maxHeartbeats 4000000
def encKept (p:Ss.Ins × Int):V := .agg [vint p.1.op,vu p.1.n,vl vint p.1.args,vl vint p.1.outs,vint p.2]
theorem qA {α:Type} (enc:α→V) (l:List α):jh enc l=(l.map fun x=>(enc x).cells).flatten:=by rw [jh,List.flatMap_def]
structure RInv (S:Store) (p4 pg ot ob:Nat) (hd:List V) (ts:List Int) (bs:List Ss.Block) (T:Store) (cells:List V) (ids:List Nat):Prop where
 old:Agree S T
 c4:T.get p4=some (4,[V.nils,V.nils,V.nils,V.nils])
 cg:T.get pg=some (4,hd)
 ct:T.get ot=some (1,ts.map vint)
 cb:T.get ob=some (6,cells)
 own:OwL T (reps bs.length blkT) cells (jh jd bs) ids
 nd:(p4::pg::ot::ob::ids).Nodup
 lt : ∀ o∈p4::pg::ot::ob::ids,S.nx≤o
 args : ∀ b∈bs, ∀ x∈b.code,x.op=257→x.args≠[]
 len : ∀ b∈bs,b.code.length≤4096
theorem jab (near:List Int) (n:Int) : ∀ (code:List Ss.Ins) (all:Ss.Kept),(Ss.rcode near n all code).1.length≤code.length
 | [],all=>by simp [Ss.rcode]
 | x::r,all=>by
  rw [Ss.rcode]; split
  ·have:=jab near n r all; simp; omega
  ·have:=jab near n r (if x.op=257 then all++[(x,n)] else all); simp; omega
theorem RInv.put {S:Store} {p4 pg ot ob:Nat} {hd:List V} {ts:List Int} {bs:List Ss.Block} {T:Store} {cells:List V} {ids:List Nat} (h:RInv S p4 pg ot ob hd ts bs T cells ids) (hwT:T.Wf) {n:Nat} (hn:n<bs.length) :
  ∃ (oc:Nat),cells[n*6+1]? = some (.slice oc 0 bs[n].code.length)∧T.get oc=some (4,jh jm bs[n].code)∧oc<T.nx∧ob<T.nx∧oc≠ob ∧ ∀ (code':List Ss.Ins),(∀ x∈code',x∈bs[n].code)→code'.length≤4096 → ∃ ids',
   RInv S p4 pg ot ob hd ts (bs.set n ⟨bs[n].params,code',bs[n].term⟩) (St T [(ob,some (6,cells.set (n*6+1) (.slice (lid T.nx 0) 0 code'.length)))] [some (4,jh jm code')]) (cells.set (n*6+1) (.slice (lid T.nx 0) 0 code'.length)) ids':=by
 obtain ⟨old,c4,cg,ct,cb,own,nd,lt,args,len⟩:=h;have olt : ∀ {o c},T.get o=some c→o<T.nx:=fun h=>jA hwT h
 have hmem:bs[n]∈bs:=List.getElem_mem hn;obtain ⟨c1,c2,oc,i1,i2,rfl,hl,rfl,hoc,k1,k2⟩:=blk_split own rfl hn (List.getElem?_eq_getElem hn);have nd2:=nd;simp only [List.nodup_cons,List.mem_cons,not_or] at nd2;obtain ⟨⟨a1,a2,a3,a4⟩,⟨b1,b2,b3⟩,⟨e1,e2⟩,f1,nd3⟩:=nd2;have hcb:oc≠ob:=fun e=>f1 (by rw [←e]; simp)
 have icl : ∀ o∈i1++oc::i2,o<T.nx:=fun o ho=>by
  have:=own.alive o ho
  cases hg:T.get o with
  | none=>rw [hg] at this; cases this
  | some c=>exact olt hg
 have lb:=olt cb;refine ⟨oc,Wi (m:=6) (p:=1) hl rfl,hoc,olt hoc,lb,hcb,fun code' hsub hlen'=>⟨i1++lid T.nx 0::i2, ?_⟩⟩;have hset:(c1++([vl vint bs[n].params,V.slice oc 0 bs[n].code.length,vint bs[n].term.kind,vint bs[n].term.arg,vl jk bs[n].term.to,vl vint bs[n].term.args]++c2)).set (n*6+1) (.slice (lid T.nx 0) 0 code'.length) =
   c1++([vl vint bs[n].params,V.slice (lid T.nx 0) 0 code'.length,vint bs[n].term.kind,vint bs[n].term.arg,vl jk bs[n].term.to,vl vint bs[n].term.args]++c2):=by
  rw [←hl,List.set_append_right _ _ (by omega),Nat.add_sub_cancel_left]; rfl
 rw [hset];have gT : ∀ o u l,o<T.nx→o≠ob→(St T [(ob,u)] l).get o=T.get o:=fun o u l h1 h2=>by
  rw [jt h1]; simp [uGet,h2]
 have hnid:lid T.nx 0∉i1++oc::i2:=fun hm=>by have:=icl _ hm; simp [lid] at this
 refine ⟨⟨by rw [jQ,lid]; have:=old.1; simp; omega,fun o ho => ?_⟩, ?_, ?_, ?_, ?_, ?_, ?_, ?_, ?_, ?_⟩
 ·have:=lt ob (by simp);rw [gT o _ _ (by have:=old.1; omega) (by omega)]; exact old.2 o ho
 ·rw [gT _ _ _ (olt c4) a3]; exact c4
 ·rw [gT _ _ _ (olt cg) b2]; exact cg
 ·rw [gT _ _ _ (olt ct) e1]; exact ct
 ·rw [jt lb]; simp [uGet]
 ·simp only [List.length_set];refine blk_join (b:=⟨bs[n].params,code',bs[n].term⟩) (k1.mono fun o ho=>gT o _ _ (icl o (by simp [ho])) (fun e=>f1 (by rw [←e]; simp [ho]))) (k2.mono fun o ho=>gT o _ _ (icl o (by simp [ho])) (fun e=>f1 (by rw [←e]; simp [ho]))) rfl hn ?_;rw [jC]; rfl
 ·obtain ⟨m1,m2,m3⟩:=List.nodup_append.1 nd3;have m4:=(List.nodup_cons.1 m2)
  have hcn:lid T.nx 0=T.nx:=by simp [lid]
  have hmm : ∀ o,o<T.nx→o∉i1++oc::i2→o∉i1++lid T.nx 0::i2:=fun o h1 h2 h3=>by
   simp only [List.mem_append,List.mem_cons,not_or] at h2 h3;rcases h3 with h3 | h3 | h3
   ·exact h2.1 h3
   ·omega
   ·exact h2.2.2 h3
  refine List.nodup_cons.2 ⟨?_,List.nodup_cons.2 ⟨?_,List.nodup_cons.2 ⟨?_,List.nodup_cons.2 ⟨hmm ob lb f1, ?_⟩⟩⟩⟩
  ·simp only [List.mem_cons,not_or];exact ⟨a1,a2,a3,hmm _ (olt c4) a4⟩
  ·simp only [List.mem_cons,not_or];exact ⟨b1,b2,hmm _ (olt cg) b3⟩
  ·simp only [List.mem_cons,not_or];exact ⟨e1,hmm _ (olt ct) e2⟩
  ·refine List.nodup_append.2 ⟨m1,List.nodup_cons.2 ⟨fun hm=>hnid (by simp [hm]),m4.2⟩,fun a ha b hb => ?_⟩;rcases List.mem_cons.1 hb with rfl | hb
   ·exact fun e=>hnid (by rw [←e]; simp [ha])
   ·exact m3 a ha b (by simp [hb])
 ·intro o ho;simp only [List.mem_cons,List.mem_append] at ho;rcases ho with h | h | h | h | h | h | h
  ·exact lt o (by simp [h])
  ·exact lt o (by simp [h])
  ·exact lt o (by simp [h])
  ·exact lt o (by simp [h])
  ·exact lt o (by simp [h])
  ·have:=old.1; simp only [lid] at h; omega
  ·exact lt o (by simp [h])
 ·intro b hb x hx;rcases List.mem_or_eq_of_mem_set hb with hb | rfl
  ·exact args b hb x hx
  ·exact args _ hmem x (hsub x hx)
 ·intro b hb;rcases List.mem_or_eq_of_mem_set hb with hb | rfl
  ·exact len b hb
  ·exact hlen'
theorem RInv.step {S:Store} {p4 pg ot ob:Nat} {hd:List V} {ts near:List Int} {bs:List Ss.Block} {T:Store} {cells:List V} {ids:List Nat} (h:RInv S p4 pg ot ob hd ts bs T cells ids) (hwT:T.Wf) {n:Nat} (hn:n<bs.length) :
  ∃ (oc:Nat),cells[n*6+1]? = some (.slice oc 0 bs[n].code.length)∧T.get oc=some (4,jh jm bs[n].code)∧oc<T.nx∧ob<T.nx∧oc≠ob ∧ ∀ (all:Ss.Kept), ∃ ids',
   RInv S p4 pg ot ob hd ts (Ss.rstep near (bs,all) n).1 (St T [(ob,some (6,cells.set (n*6+1) (.slice (lid T.nx 0) 0 (Ss.rcode near n all bs[n].code).1.length)))] [some (4,jh jm (Ss.rcode near n all bs[n].code).1)]) (cells.set (n*6+1) (.slice (lid T.nx 0) 0 (Ss.rcode near n all bs[n].code).1.length)) ids':=by
 obtain ⟨oc,h1,h2,h3,h4,h5,h6⟩:=h.put hwT hn;have hgd:bs.getD n default=bs[n]:=by rw [List.getD_eq_getElem?_getD,List.getElem?_eq_getElem hn]; rfl
 refine ⟨oc,h1,h2,h3,h4,h5,fun all => ?_⟩;obtain ⟨ids',h7⟩:=h6 (Ss.rcode near n all bs[n].code).1 (fun x hx=>Ss.code_sub _ _ _ _ x hx) (Nat.le_trans (jab _ _ _ _) (h.len _ (List.getElem_mem hn)));refine ⟨ids', ?_⟩;simp only [Ss.rstep,hgd];exact h7
end Go.Vw

namespace Go.Vw
open Go.Proofs Go.RowKit
set_option maxRecDepth 10000
theorem jbF {T:Store} {b:Ss.Block} {r:List V} {ii:List Nat} (h:OwL T blkE r (jd b).cells ii) : ∃ oc oe,r=[vl vint b.params, .slice oc 0 b.code.length,vint b.term.kind,vint b.term.arg, .slice oe 0 b.term.to.length,vl vint b.term.args]∧ii=[oc,oe]∧T.get oc=some (4,jh jm b.code)∧T.get oe=some (2,jh jk b.term.to):=by
 rw [jK] at h;generalize hA:vl jm b.code=A at h;generalize hB:vl jk b.term.to=B at h
 cases h with
 | c h0 h=>cases h with
  | @s _ _ _ _ ca ys i j oc ho hs d h=>cases h with
   | c h1 h=>cases h with
    | c h2 h=>cases h with
     | @s _ _ _ _ cb zs i2 j2 oe ho2 hs2 d2 h=>cases h with
      | c h3 h=>cases h with
       | nil =>
        have e1:ys=b.code.map jm:=by
         have:V.list (b.code.map jm)=V.list ys:=hA;exact (V.list.inj this).symm
        have e2:zs=b.term.to.map jk:=by
         have:V.list (b.term.to.map jk)=V.list zs:=hB;exact (V.list.inj this).symm
        subst e1; subst e2;have c1:=zt (n:=(b.code.map jm).length*4) (by rw [←WC]; exact d);have c2:=zt (n:=(b.term.to.map jk).length*2) (by rw [←WC]; exact d2);rw [qT] at c1 c2;refine ⟨oc,oe,by simp, ?_, ?_, ?_⟩
        ·rw [c1.2,c2.2]; rfl
        ·rw [ho,c1.1]; rfl
        ·rw [ho2,c2.1]; rfl
theorem WZ {T:Store} {b:Ss.Block} {oc oe:Nat} (h1:T.get oc=some (4,jh jm b.code)) (h2:T.get oe=some (2,jh jk b.term.to)) :
  OwL T blkE [vl vint b.params, .slice oc 0 b.code.length,vint b.term.kind,vint b.term.arg, .slice oe 0 b.term.to.length,vl vint b.term.args] (jd b).cells [oc,oe]:=by
 rw [jK];exact .c rfl (OwL.slice (fun _=>by rw [jV]; rfl) qC b.code h1 (.c rfl (.c rfl (OwL.slice (fun _=>by rw [qP]; rfl) qF b.term.to h2 (.c rfl .nil)))))
structure EInv (S H:Store) (hs:List Nat) (ob:Nat) (bs:List Ss.Block) (T:Store) (rs:List (List V)) (ids:List Nat):Prop where
 old:Agree S T
 hd : ∀ o∈hs,T.get o=H.get o
 al : ∀ o∈hs,(H.get o).isSome=true
 cb:T.get ob=some (6,rs.flatten)
 own:Rows T blkE jd bs rs ids
 nd:(hs++ob::ids).Nodup
 lt : ∀ o∈hs++ob::ids,S.nx≤o
theorem EInv.all_lt {S H:Store} {hs:List Nat} {ob:Nat} {bs:List Ss.Block} {T:Store} {rs:List (List V)} {ids:List Nat} (h:EInv S H hs ob bs T rs ids) (hw:T.Wf) : ∀ o∈hs++ob::ids,o<T.nx:=fun o ho=>by
 refine some_lt hw ?_;rcases List.mem_append.1 ho with ho | ho
 ·rw [h.hd o ho]; exact h.al o ho
 ·rcases List.mem_cons.1 ho with rfl | ho
  ·rw [h.cb]; rfl
  ·exact h.own.owl.alive o ho
theorem EInv.at {S H:Store} {hs:List Nat} {ob:Nat} {bs:List Ss.Block} {T:Store} {rs:List (List V)} {ids:List Nat} (h:EInv S H hs ob bs T rs ids) (hw:T.Wf) {i:Nat} (hi:i<bs.length) :
  ∃ (oc oe:Nat),rs.flatten[i*6+1]? = some (.slice oc 0 bs[i].code.length)∧rs.flatten[i*6+4]? = some (.slice oe 0 bs[i].term.to.length)∧T.get oc=some (4,jh jm bs[i].code)∧T.get oe=some (2,jh jk bs[i].term.to)∧(hs++ob::[oc,oe]).Nodup ∧
   (∀ (T':Store) (oc':Nat) (code':List Ss.Ins),T.nx≤oc'→T.nx≤T'.nx→(∀ o,o<T.nx→o≠ob→T'.get o=T.get o)→T'.get ob=some (6,rs.flatten.set (i*6+1) (.slice oc' 0 code'.length))→T'.get oc'=some (4,jh jm code') → ∃ rs' ids',rs'.flatten=rs.flatten.set (i*6+1) (.slice oc' 0 code'.length)∧EInv S H hs ob (bs.set i ⟨bs[i].params,code',bs[i].term⟩) T' rs' ids') ∧
   (∀ (T':Store) (l:List Int),T.nx≤T'.nx→(∀ o,o<T.nx→o≠ob→T'.get o=T.get o)→T'.get ob=some (6,rs.flatten.set (i*6) (vl vint l)) → ∃ rs' ids',rs'.flatten=rs.flatten.set (i*6) (vl vint l)∧EInv S H hs ob (bs.set i ⟨l,bs[i].code,bs[i].term⟩) T' rs' ids') ∧
   (∀ (T':Store) (to':List Ss.Edge),to'.length=bs[i].term.to.length→T.nx≤T'.nx→(∀ o,o<T.nx→o≠oe→T'.get o=T.get o)→T'.get oe=some (2,jh jk to')→EInv S H hs ob (bs.set i ⟨bs[i].params,bs[i].code,⟨bs[i].term.kind,bs[i].term.arg,to',bs[i].term.args⟩⟩) T' rs ids):=by
 have hlt:=h.all_lt hw;obtain ⟨old,hd,al,cb,own,nd,lt⟩:=h;obtain ⟨r1,r,r2,i1,ii,i2,rfl,hl,rfl,hb,hput⟩:=own.at (List.getElem?_eq_getElem hi);have hr6:=own.len.2;obtain ⟨oc,oe,rfl,rfl,hoc,hoe⟩:=jbF hb;have h6 : ∀ s∈r1,s.length=6:=fun s hs=>hr6 s (by simp [hs])
 have sub:List.Sublist [oc,oe] (i1++([oc,oe]++i2)):=(List.sublist_append_left _ _).trans (List.sublist_append_right _ _);have hnd3:(hs++ob::[oc,oe]).Nodup:=List.Sublist.nodup ((List.Sublist.refl hs).append (sub.cons_cons ob)) nd;have gen : ∀ (T':Store) (r':List V) (b':Ss.Block) (oc' oe':Nat),T.nx≤T'.nx→(∀ o,o<T.nx→o≠ob→o≠oc→o≠oe→T'.get o=T.get o)→T'.get ob=some (6,(r1++r'::r2).flatten)→OwL T' blkE r' (jd b').cells [oc',oe']→(oc'=oc∨T.nx≤oc')→oe'=oe→EInv S H hs ob (bs.set i b') T' (r1++r'::r2) (i1++([oc',oe']++i2)):=by
  intro T' r' b' oc' oe' hnx hk hcb how ho1 ho2;subst ho2;have cnt : ∀ o,(hs++ob::(i1++([oc,oe']++i2))).count o≤1:=fun o=>List.nodup_iff_count.1 nd o
  simp only [List.count_append,List.count_cons,List.count_nil] at cnt;have pos : ∀ {o:Nat} {l:List Nat},o∈l→1≤l.count o:=fun h=>List.count_pos_iff.2 h
  have nob : ∀ o,o∈hs∨o∈i1∨o∈i2→o≠ob∧o≠oc∧o≠oe':=by
   intro o ho;have c:=cnt o;refine ⟨?_, ?_, ?_⟩ <;>
   ·rintro rfl;simp only [beq_self_eq_true,if_true] at c;rcases ho with ho | ho | ho<;>(have:=pos ho; omega)
  have keep : ∀ o,o∈hs∨o∈i1∨o∈i2→T'.get o=T.get o:=fun o ho=>by
   obtain ⟨a1,a2,a3⟩:=nob o ho;refine hk o (hlt o ?_) a1 a2 a3;rcases ho with ho | ho | ho<;>simp [ho]
  refine ⟨⟨Nat.le_trans old.1 hnx,fun o ho => ?_⟩,fun o ho=>(keep o (.inl ho)).trans (hd o ho),al,hcb,hput T' r' b' [oc',oe'] (fun o ho=>keep o ?_) how, ?_,fun o ho => ?_⟩
  ·have l1:=lt ob (by simp);have l2:=lt oc (by simp);have l3:=lt oe' (by simp);rw [hk o (Nat.lt_of_lt_of_le ho old.1) (by omega) (by omega) (by omega)];exact old.2 o ho
  ·rcases List.mem_append.1 ho with ho | ho
   ·exact .inr (.inl ho)
   ·exact .inr (.inr ho)
  ·refine List.nodup_iff_count.2 fun o => ?_
   simp only [List.count_append,List.count_cons,List.count_nil];have c:=cnt o;rcases ho1 with rfl | hge
   ·exact c
   ·by_cases e:oc'=o
    ·subst e;have z1:hs.count oc'=0:=List.count_eq_zero.2 fun h=>by have:=hlt oc' (by simp [h]); omega
     have z2:i1.count oc'=0:=List.count_eq_zero.2 fun h=>by have:=hlt oc' (by simp [h]); omega
     have z3:i2.count oc'=0:=List.count_eq_zero.2 fun h=>by have:=hlt oc' (by simp [h]); omega
     have z4:(ob==oc')=false:=by have:=hlt ob (by simp); simp only [beq_eq_false_iff_ne]; omega
     have z5:(oe'==oc')=false:=by have:=hlt oe' (by simp); simp only [beq_eq_false_iff_ne]; omega
     rw [z1,z2,z3,z4,z5]; simp
    ·have:(oc'==o)=false:=by simpa using e
     rw [this];simp only [Bool.false_eq_true,if_false];omega
  ·simp only [List.mem_append,List.mem_cons,List.not_mem_nil,or_false] at ho;rcases ho with ho | ho | ho | (ho | ho) | ho
   ·exact lt o (by simp [ho])
   ·exact lt o (by simp [ho])
   ·exact lt o (by simp [ho])
   ·rcases ho1 with h | h
    ·exact lt o (by simp [ho,h])
    ·have:=old.1; omega
   ·exact lt o (by simp [ho])
   ·exact lt o (by simp [ho])
 have ne1:ob≠oc∧ob≠oe∧oc≠oe:=by
  have h2:=(List.nodup_append.1 hnd3).2.1;simp only [List.nodup_cons,List.mem_cons,List.not_mem_nil,or_false,not_or] at h2;exact ⟨h2.1.1,h2.1.2,h2.2.1⟩
 have lc:=jA hw hoc;have le:=jA hw hoe;refine ⟨oc,oe,Jo h6 hl (q:=1) rfl,Jo h6 hl (q:=4) rfl,hoc,hoe,hnd3, ?_, ?_, ?_⟩
 ·intro T' oc' code' hge hnx hk hcb hgc;have hfs:=Kb (m:=6) (r:=[vl vint bs[i].params, .slice oc 0 bs[i].code.length,vint bs[i].term.kind,vint bs[i].term.arg, .slice oe 0 bs[i].term.to.length,vl vint bs[i].term.args]) (r2:=r2) (q:=1) (w := .slice oc' 0 code'.length) h6 hl (by simp);rw [hfs] at hcb;refine ⟨_,_,hfs.symm,gen T' _ ⟨bs[i].params,code',bs[i].term⟩ oc' oe hnx (fun o h1 h2 _ _=>hk o h1 h2) hcb ?_ (.inr hge) rfl⟩;exact WZ (b:=⟨bs[i].params,code',bs[i].term⟩) hgc ((hk oe le (Ne.symm ne1.2.1)).trans hoe)
 ·intro T' l hnx hk hcb;have hfs:=Kb (m:=6) (r:=[vl vint bs[i].params, .slice oc 0 bs[i].code.length,vint bs[i].term.kind,vint bs[i].term.arg, .slice oe 0 bs[i].term.to.length,vl vint bs[i].term.args]) (r2:=r2) (q:=0) (w:=vl vint l) h6 hl (by simp);rw [show i*6+0=i*6 from rfl] at hfs;rw [hfs] at hcb;refine ⟨_,_,hfs.symm,gen T' _ ⟨l,bs[i].code,bs[i].term⟩ oc oe hnx (fun o h1 h2 _ _=>hk o h1 h2) hcb ?_ (.inl rfl) rfl⟩;exact WZ (b:=⟨l,bs[i].code,bs[i].term⟩) ((hk oc lc (Ne.symm ne1.1)).trans hoc) ((hk oe le (Ne.symm ne1.2.1)).trans hoe)
 ·intro T' to' hlen hnx hk hge;have hb':=WZ (T:=T') (b:=⟨bs[i].params,bs[i].code,⟨bs[i].term.kind,bs[i].term.arg,to',bs[i].term.args⟩⟩) ((hk oc lc ne1.2.2).trans hoc) hge;simp only [hlen] at hb';exact gen T' _ ⟨bs[i].params,bs[i].code,⟨bs[i].term.kind,bs[i].term.arg,to',bs[i].term.args⟩⟩ oc oe hnx (fun o h1 _ _ h4=>hk o h1 h4) ((hk ob (hlt ob (by simp)) ne1.2.1).trans cb) hb' (.inl rfl) rfl
end Go.Vw

namespace Ss
def marks (need:List Bool) (l:List Int):List Bool:=l.foldl (fun o v=>o.set v.toNat true) need
def rIns (o:List Bool) (x:Ins):List Bool:=if pure x.op then (if on o (x.outs.getD 0 0) then marks o x.args else o) else marks (marks o x.outs) x.args
def rPar (o:List Bool) (q:Int × Int):List Bool:=if on o q.1 then o.set q.2.toNat true else o
def rEdge (bs:List Block) (o:List Bool) (e:Edge):List Bool:=((bs.getD e.to.toNat default).params.zip e.args).foldl rPar o
def rTerm (o:List Bool) (t:Term):List Bool:=if branches t then (marks o t.args).set t.arg.toNat true else marks o t.args
def rBlock (bs:List Block) (o:List Bool) (b:Block):List Bool:=b.term.to.foldl (rEdge bs) (rTerm (b.code.foldl rIns o) b.term)
def rRound (f:Fn) (o:List Bool):List Bool:=f.blocks.foldl (rBlock f.blocks) o
def rTurns (f:Fn):Nat→List Bool→List Bool
 | 0,o=>o
 | k+1,o=>if rRound f o=o then o else rTurns f k (rRound f o)
def Inc (a b:List Bool):Prop:=a.length=b.length ∧ ∀ i:Nat,a[i]? = some true→b[i]? = some true
theorem Inc.refl (a:List Bool):Inc a a:=⟨rfl,fun _ h=>h⟩
theorem Inc.trans {a b c:List Bool} (h:Inc a b) (k:Inc b c):Inc a c:=⟨h.1.trans k.1,fun i hi=>k.2 i (h.2 i hi)⟩
def rootsB (b:Block):List Int:=(b.code.flatMap fun x=>if pure x.op then [] else x.args++x.outs)++(b.term.args++if branches b.term then [b.term.arg] else [])
def roots (f:Fn):List Int:=(f.blocks.getD 0 default).params++f.blocks.flatMap rootsB
end Ss

namespace Go.Vw
open Go.Proofs Go.RowKit
set_option maxRecDepth 10000
set_option maxHeartbeats 2000000
def zE:Store:=⟨fun _=>none,0⟩
end Go.Vw
