import Derived.Test.YtkfllaokjaldnaaGreatC38
import Derived.Test.YtkfllaokjaldnaaGreatC35
import Derived.Test.YtkfllaokjaldnaaGreatC36
import Derived.Test.YtkfllaokjaldnaaGreatC39
/-
  Part of the proof (texts CChk3, LLNone).
-/
set_option linter.unusedVariables false
set_option linter.unusedSimpArgs false
namespace Go.Vw
open Go.Proofs Go.RowKit
set_option maxRecDepth 10000
set_option maxHeartbeats 16000000
theorem jat {e:Ss.Env} {f:Ss.Fn} {ds:List Ss.Def} {near:List Int} {i:Int} {k:Nat} {l:List Ss.Ins} (h:k<l.length):Ss.rcheckCode e f ds near i k (l.drop k)=(Ss.rinsOk e f ds near i k l[k]&&Ss.rcheckCode e f ds near i (k+1) (l.drop (k+1))):=by
 rw [List.drop_eq_getElem_cons h,Ss.rcheckCode]
theorem YM {e:Ss.Env} {f:Ss.Fn} {ds:List Ss.Def} {near:List Int} {i:Nat} {l:List Ss.Block} (h:i<l.length):Ss.rcheckBlocks e f ds near i (l.drop i)=(Ss.rcheckBlock e f ds near i l[i]&&Ss.rcheckBlocks e f ds near (i+1) (l.drop (i+1))):=by
 rw [List.drop_eq_getElem_cons h,Ss.rcheckBlocks]
theorem RCheck_v (e:Ss.Env) (f:Ss.Fn) (he:e.Fits) (hf:f.Fits):VPure Tryz.prog 13 [zm e,qW f] (.bool (Ss.rcheck e f)):=by
 intro S
 have cer:=REnvRight_v e he
 have csm:=jca f hf
 have hsb := @jZ f
 have csu:=fun h=>RSucc_v f hf h
 have cdf:=Defs_v f hf
 have cci:=circlesP_v f hf
 have ckt:VPure Tryz.prog 42 [vl vint f.types, .int .i64 2048] (.bool (Ss.kinds 2048 f.types)):=YU 2048 f.types (by have:=hf.2.1.1; omega)
 have csr:=rsig_v f.sig hf.1
 have hH:Ss.checkHead e f=(e.right&&f.small&&decide (f.blocks.length≤256)&&Ss.kinds 2048 f.types&&f.sig.right&&f.blocks.all fun b=>decide (b.params.length≤256)):=rfl
 have hX:Ss.rcheck e f=(Ss.checkHead e f&&decide (1≤f.blocks.length)&&match Ss.defsOf f with
  | none=>false
  | some ds=>G.right (Ss.succs f.blocks)&&((G.without (G.nats (Ss.succs f.blocks)) none).all id&&(Ss.rshape f&&Ss.rcheckBlocks e f ds (G.nearI (Ss.succs f.blocks)) 0 f.blocks))):=rfl
 have hks:Ss.kinds 2048 f.types=true→f.types.length≤2048:=by
  intro h; simp only [Ss.kinds,Bool.and_eq_true,decide_eq_true_eq] at h; exact h.1
 have her:e.right=true→e.muts.length=e.globals.length:=by
  intro h; simp only [Ss.Env.right,Bool.and_eq_true,decide_eq_true_eq] at h; exact h.1.1.2
 rw [hX,hH]
 clear hX hH
 generalize e.right=er at *
 generalize hsm:f.small=sm at *
 generalize Ss.kinds 2048 f.types=kt at *
 generalize f.sig.right=sr at *
 have hsl:=he.1.1
 have hgl:=he.2.2.1.1
 obtain ⟨sg,im,gl,mu,me⟩:=e
 obtain ⟨⟨fi,fo⟩,ts,bs⟩:=f
 simp only at *
 have cer':VPure Tryz.prog 41 [.agg [vl jO sg, .int .i64 im,vl vint gl,vl V.bool mu, .bool me]] (.bool er):=cer
 have csm':VPure Tryz.prog 35 [.agg [vl vint fi,vl vint fo,vl vint ts,vl je bs]] (.bool sm):=csm
 have csr':VPure Tryz.prog 43 [.agg [vl vint fi,vl vint fo]] (.bool sr):=csr
 generalize hZ:(match Ss.defsOf ⟨⟨fi,fo⟩,ts,bs⟩ with
  | none=>false
  | some ds=>G.right (Ss.succs bs)&&((G.without (G.nats (Ss.succs bs)) none).all id&&(Ss.rshape ⟨⟨fi,fo⟩,ts,bs⟩&&Ss.rcheckBlocks ⟨sg,im,gl,mu,me⟩ ⟨⟨fi,fo⟩,ts,bs⟩ ds (G.nearI (Ss.succs bs)) 0 bs)))=Z
 generalize hP:(fun b:Ss.Block=>decide (b.params.length≤256))=P
 refine jb (c:=jf Tryz.f13) Tryz.func13 rfl rfl (by simp [Tryz.ntmps13]) ?_
 rw [Tryz.ntmps13]
 intro hwf
 repeat (first|refine QG ?_|refine QY ?_)
 repeat refine QS ?_
 refine QP ?_
 refine jc (cer') (by rfl) ?_
 by_cases h1:er=true
 case neg =>
  have h1':er=false:=by simpa using h1
  refine QM (by conv=>lhs;simp[-List.map_set,QV,h1']) ?_
  refine QN ?_
  repeat (first|refine QG ?_|refine QY ?_)
  exact ja hwf (by simp [h1']) rfl
 refine QM (by conv=>lhs;simp[-List.map_set,QV,h1]) ?_
 refine jc (csm') (by rfl) ?_
 by_cases h2:sm=true
 case neg =>
  have h2':sm=false:=by simpa using h2
  refine QM (by conv=>lhs;simp[-List.map_set,QV,h2']) ?_
  refine QN ?_
  repeat (first|refine QG ?_|refine QY ?_)
  exact ja hwf (by simp [h2']) rfl
 by_cases h3:(bs.length:Int)<1
 ·refine QM (by conv=>lhs;simp[-List.map_set,QV,h2,h3]) ?_
  refine QN ?_
  repeat (first|refine QG ?_|refine QY ?_)
  exact ja hwf (by rw [decide_eq_false (show ¬ 1≤bs.length by omega)]; simp) rfl
 by_cases h3b:(256:Int)<(bs.length:Int)
 ·refine QM (by conv=>lhs;simp[-List.map_set,QV,h2,h3,h3b]) ?_
  refine QN ?_
  repeat (first|refine QG ?_|refine QY ?_)
  exact ja hwf (by rw [show decide (bs.length≤256)=false by simp; omega]; simp) rfl
 have h3':bs.length≤256:=by omega
 have h3n:1≤bs.length:=by omega
 refine QM (by conv=>lhs;simp[-List.map_set,QV,h2,h3,h3b]) ?_
 refine jc (ckt) (by rfl) ?_
 by_cases h4:kt=true
 case neg =>
  have h4':kt=false:=by simpa using h4
  refine QM (by conv=>lhs;simp[-List.map_set,QV,h4']) ?_
  refine QN ?_
  repeat (first|refine QG ?_|refine QY ?_)
  exact ja hwf (by simp [h4']) rfl
 refine QM (by conv=>lhs;simp[-List.map_set,QV,h4]) ?_
 refine jc (csr') (by rfl) ?_
 by_cases h5:sr=true
 case neg =>
  have h5':sr=false:=by simpa using h5
  refine QM (by conv=>lhs;simp[-List.map_set,QV,h5']) ?_
  refine QN ?_
  repeat (first|refine QG ?_|refine QY ?_)
  exact ja hwf (by simp [h5']) rfl
 rw [h1,h2,h4,h5,decide_eq_true h3',decide_eq_true h3n]
 simp only [Bool.true_and,Bool.and_true]
 have htl:=hks h4
 obtain ⟨_,_,hsf,_⟩:=hsb h2
 refine QM (by conv=>lhs;simp[-List.map_set,QV,h5]) ?_
 refine QN ?_
 repeat (first|refine QG ?_|refine QY ?_)
 repeat refine QS ?_
 refine jd [2,3,5] rfl (fun c σ S' => ∃ (k:Nat),k≤bs.length∧c=bs.length-k∧(bs.drop k).all P=bs.all P∧σ=[(2, .ptr (lid S.nx 0) 0),(3, .ptr (lid S.nx 1) 0),(5,vnat k)]∧S'=St S [] [some (5,[vl jO sg,vint im,vl vint gl,vl V.bool mu, .bool me]),some (4,[vl vint fi,vl vint fo,vl vint ts,vl je bs])]) bs.length ?_ ?_
 ·exact ⟨0,by omega,rfl,rfl,by simp [Fr.only],rfl⟩
 ·rintro c σ T ⟨k,hk,rfl,hd,rfl,rfl⟩
  by_cases hkt:k<bs.length
  ·have hw:=jn hkt (by omega)
   have hst:=Ss.drop_all P hkt
   obtain ⟨⟨ps,code,⟨tk,ta,to,az⟩⟩,hx⟩ : ∃ b,bs[k]=b:=⟨_,rfl⟩
   have hPx:P ⟨ps,code,⟨tk,ta,to,az⟩⟩=decide (ps.length≤256):=by rw [←hP]
   rw [hx,hPx] at hst
   by_cases h6:(256:Int)<(ps.length:Int)
   ·rw [decide_eq_false (by omega),Bool.false_and,hd] at hst
    rw [hst]
    repeat (first|refine QG ?_|refine QY ?_ (r:=by conv=>lhs;simp[-List.map_set,QV,hkt,hx,h6]))
    exact ja hwf (by simp) rfl
   ·rw [decide_eq_true (by omega),Bool.true_and,hd] at hst
    repeat (first|refine QG ?_|refine QY ?_ (r:=by conv=>lhs;simp[-List.map_set,QV,hkt,hx,h6,hw]))
    show jv _ _ _ _ _ _ _
    exact again ⟨by omega,k+1,by omega,rfl,hst.symm,by simp [Fr.only],rfl⟩
  rw [Ss.drop_all_end _ hkt] at hd
  rw [←hd,Bool.true_and]
  have hke:k=bs.length:=by omega
  subst hke
  have csu':VPure Tryz.prog 20 [.agg [vl vint fi,vl vint fo,vl vint ts,vl je bs]] (vl (vl vint) (Ss.succs bs)):=csu h2
  have cdf':VPure Tryz.prog 44 [.agg [vl vint fi,vl vint fo,vl vint ts,vl je bs]] (rdefsV (Ss.defsOf ⟨⟨fi,fo⟩,ts,bs⟩)):=cdf (by omega)
  cases hdf:Ss.defsOf ⟨⟨fi,fo⟩,ts,bs⟩ with
  | none =>
   rw [hdf] at hZ cdf'
   simp only at hZ
   subst hZ
   obtain ⟨z,hz⟩ : ∃ z,z=false:=⟨_,rfl⟩
   have cdf2:VPure Tryz.prog 44 [.agg [vl vint fi,vl vint fo,vl vint ts,vl je bs]] (.tuple [.list [], .bool z]):=by rw [hz]; exact cdf'
   repeat (first|refine QG ?_|refine QY ?_ (r:=by conv=>lhs;simp[-List.map_set,QV,hkt]))
   repeat refine QS ?_
   refine QP ?_
   refine jc (csu') (by rfl) ?_
   refine QM (by conv=>lhs;simp[-List.map_set,QV]) ?_
   refine QN ?_
   repeat refine QS ?_
   refine QP ?_
   refine jc (cdf2) (by rfl) ?_
   refine QM (by conv=>lhs;simp[-List.map_set,QV,hz]) ?_
   refine QN ?_
   repeat (first|refine QG ?_|refine QY ?_ (r:=by conv=>lhs;simp[-List.map_set,QV,hz]))
   exact ja hwf rfl rfl
  | some ds =>
   rw [hdf] at hZ cdf'
   simp only at hZ
   obtain ⟨hdl,hdin⟩:=Ss.defs_in hdf
   have hnn:=Ss.defs_nn hdf
   simp only at hdl hdin
   obtain ⟨z,hz⟩ : ∃ z,z=true:=⟨_,rfl⟩
   have cdf2:VPure Tryz.prog 44 [.agg [vl vint fi,vl vint fo,vl vint ts,vl je bs]] (.tuple [vl jR ds, .bool z]):=by rw [hz]; exact cdf'
   have hgl63:(Ss.succs bs).length<2^63:=by simp [Ss.succs]; omega
   have hgr63 : ∀ r∈Ss.succs bs,r.length<2^62:=by
    intro r hr
    obtain ⟨b,hb,rfl⟩:=List.mem_map.1 hr
    have:=(hsf b hb).2.1
    simp [Ss.rowOf]; omega
   have crt:=Zd (Ss.succs bs) hgl63 (fun r hr=>by have:=hgr63 r hr; omega)
   have cwo:=WithoutI_v (Ss.succs bs)
   have cne:=RNearI_v (Ss.succs bs) hgl63 (fun r hr=>by have:=hgr63 r hr; omega)
   repeat (first|refine QG ?_|refine QY ?_ (r:=by conv=>lhs;simp[-List.map_set,QV,hkt]))
   repeat refine QS ?_
   refine QP ?_
   refine jc (csu') (by rfl) ?_
   refine QM (by conv=>lhs;simp[-List.map_set,QV]) ?_
   refine QN ?_
   repeat refine QS ?_
   refine QP ?_
   refine jc (cdf2) (by rfl) ?_
   refine QM (by conv=>lhs;simp[-List.map_set,QV]) ?_
   refine QN ?_
   repeat refine QS ?_
   refine QP ?_ (r:=by conv=>lhs;simp[-List.map_set,QV,hz])
   refine jc (crt) (by rfl) ?_
   by_cases h6:G.right (Ss.succs bs)=true
   case neg =>
    have h6':G.right (Ss.succs bs)=false:=by simpa using h6
    rw [h6',Bool.false_and] at hZ
    subst hZ
    refine QM (by conv=>lhs;simp[-List.map_set,QV,h6']) ?_
    refine QN ?_
    repeat (first|refine QG ?_|refine QY ?_)
    exact ja hwf rfl rfl
   have cwo':=cwo h6
   have cne':=cne h6
   rw [h6,Bool.true_and] at hZ
   generalize hrd:G.without (G.nats (Ss.succs bs)) none=reached at *
   refine QM (by conv=>lhs;simp[-List.map_set,QV,h6]) ?_
   refine QN ?_
   repeat (first|refine QG ?_|refine QY ?_)
   repeat refine QS ?_
   refine QP ?_
   refine jo rfl cwo' ?_
   refine QM (by conv=>lhs;simp[-List.map_set,QV]) ?_
   refine QN ?_
   repeat (first|refine QG ?_|refine QY ?_)
   have hrl:reached.length<2^63:=by
    have:=G.without_length (G.right_ok h6) none
    rw [hrd] at this
    rw [this]; simpa [G.nats] using hgl63
   repeat refine QS ?_
   refine jd [2,3,6,7,9,10] rfl (fun c σ S' => ∃ (k:Nat),k≤reached.length∧c=reached.length-k∧(reached.drop k).all id=reached.all id∧σ=[(2, .ptr (lid S.nx 0) 0),(3, .ptr (lid S.nx 1) 0),(6,vl (vl vint) (Ss.succs bs)),(7,vl jR ds),(9,vl V.bool reached),(10,vnat k)]∧S'=St S [] [some (5,[vl jO sg,vint im,vl vint gl,vl V.bool mu, .bool me]),some (4,[vl vint fi,vl vint fo,vl vint ts,vl je bs])]) reached.length ?_ ?_
   ·exact ⟨0,by omega,rfl,rfl,by simp [Fr.only],rfl⟩
   ·rintro c σ T ⟨k,hk,rfl,hd,rfl,rfl⟩
    by_cases hkt:k<reached.length
    ·have hw:=jn hkt (by omega)
     have hst:=Ss.drop_all id hkt
     obtain ⟨y,hy⟩ : ∃ y,reached[k]=y:=⟨_,rfl⟩
     rw [hy] at hst
     by_cases h7:y=true
     ·rw [h7,id,Bool.true_and,hd] at hst
      repeat (first|refine QG ?_|refine QY ?_ (r:=by conv=>lhs;simp[-List.map_set,QV,hkt,hy,h7,hw]))
      show jv _ _ _ _ _ _ _
      exact again ⟨by omega,k+1,by omega,rfl,hst.symm,by simp [Fr.only],rfl⟩
     ·have h7':y=false:=by simpa using h7
      rw [h7',id,Bool.false_and,hd] at hst
      rw [hst,Bool.false_and] at hZ
      subst hZ
      repeat (first|refine QG ?_|refine QY ?_ (r:=by conv=>lhs;simp[-List.map_set,QV,hkt,hy,h7']))
      exact ja hwf rfl rfl
    rw [Ss.drop_all_end _ hkt] at hd
    rw [←hd,Bool.true_and] at hZ
    have hke:k=reached.length:=by omega
    subst hke
    have hGok:=G.right_ok h6
    have hGe:(Ss.succs bs).map (vl vint)=(G.nats (Ss.succs bs)).map (vl vnat):=by
     have:=G.right_enc h6
     simpa only [vl,V.list.injEq] using this
    have hcirc:=cci h2 _ hGe (fun r hr=>⟨by have:=hGok.row r hr; omega,hGok.elt r hr⟩)
    have cci':VPure Tryz.prog 49 [.agg [vl vint fi,vl vint fo,vl vint ts,vl je bs]] (.bool (Ss.circ (Ss.msk bs (G.nats (Ss.succs bs))))):=hcirc
    have hto:=Ss.right_to (f:=⟨⟨fi,fo⟩,ts,bs⟩) h6
    simp only at hto
    have hnl:=G.nearI_len (Ss.succs bs)
    have h0:0<bs.length:=by omega
    obtain ⟨⟨ps,code,⟨tk,ta,to,az⟩⟩,hx0⟩ : ∃ b,bs[0]=b:=⟨_,rfl⟩
    have hm0:=List.getElem_mem h0
    rw [hx0] at hm0
    have hb0:=hsf _ hm0
    have hin0:=(hdin _ hm0).1
    simp only at hb0 hin0
    have hrs:Ss.rshape ⟨⟨fi,fo⟩,ts,bs⟩=(decide (Ss.typesOf ts ps=fi)&&(Ss.firstTick code && !Ss.circ (Ss.msk bs (G.nats (Ss.succs bs))))):=by
     have e:bs.getD 0 default=⟨ps,code,⟨tk,ta,to,az⟩⟩:=by simp [h0,hx0]
     simp only [Ss.rshape,e]
    rw [hrs] at hZ
    generalize Ss.circ (Ss.msk bs (G.nats (Ss.succs bs)))=ci at *
    generalize hnr:G.nearI (Ss.succs bs)=near at *
    have cty:=jbu ⟨sg,im,gl,mu,me⟩ ⟨⟨fi,fo⟩,ts,bs⟩ ds near ps (by omega) hin0
    simp only at cty
    have htl0:(Ss.typesOf ts ps).length<2^63:=by simp [Ss.typesOf]; omega
    generalize Ss.typesOf ts ps=tq at *
    have cin:=WInts_v tq fi htl0
    repeat (first|refine QG ?_|refine QY ?_ (r:=by conv=>lhs;simp[-List.map_set,QV,hkt]))
    repeat refine QS ?_
    refine QP ?_
    refine jc (cne') (by rfl) ?_
    refine QM (by conv=>lhs;simp[-List.map_set,QV]) ?_
    refine QN ?_
    repeat (first|refine QG ?_|refine QY ?_)
    refine ji 13 rfl ((zP (k:=2) (by simp) (by rfl) (by rfl) (by simp))) (by conv=>lhs; simp [Fr.set]) ?_
    simp only [List.set_cons_succ,List.set_cons_zero]
    repeat refine QS ?_
    refine QD (r:=by conv=>lhs;simp[-List.map_set,QV,h0,hx0]) (k:=?_)
    refine jc (cty) (by rfl) ?_
    refine QM (by conv=>lhs;simp[-List.map_set,QV]) ?_
    refine jc (cin) (by rfl) ?_
    by_cases h8:tq=fi
    case neg =>
     rw [decide_eq_false h8,Bool.false_and,Bool.false_and] at hZ
     subst hZ
     refine QM (by conv=>lhs;simp[-List.map_set,QV,h8]) ?_
     refine QN ?_
     repeat (first|refine QG ?_|refine QY ?_)
     exact ja hwf rfl rfl
    rw [decide_eq_true h8,Bool.true_and] at hZ
    cases code with
    | nil =>
     have hft:Ss.firstTick []=false:=rfl
     rw [hft,Bool.false_and,Bool.false_and] at hZ
     subst hZ
     refine QM (by conv=>lhs;simp[-List.map_set,QV,h8,h0,hx0]) ?_
     refine QN ?_
     repeat (first|refine QG ?_|refine QY ?_)
     exact ja hwf rfl rfl
    | cons x0 cr =>
    obtain ⟨xo,xn,xa,xu⟩:=x0
    have hft:Ss.firstTick (⟨xo,xn,xa,xu⟩::cr)=decide (xo=258):=rfl
    rw [hft] at hZ
    have hcpos : ¬ (cr.length:Int)+1=0:=by omega
    by_cases h9:xo=258
    case neg =>
     rw [decide_eq_false h9,Bool.false_and,Bool.false_and] at hZ
     subst hZ
     refine QM (by conv=>lhs;simp[-List.map_set,QV,h8,h0,hx0,h9,hcpos]) ?_
     refine QN ?_
     repeat (first|refine QG ?_|refine QY ?_)
     exact ja hwf rfl rfl
    rw [decide_eq_true h9,Bool.true_and] at hZ
    refine QM (by conv=>lhs;simp[-List.map_set,QV,h8,h0,hx0,h9,hcpos]) ?_
    refine jc (cci') (by rfl) ?_
    by_cases h10:ci=true
    ·rw [h10,Bool.not_true,Bool.false_and] at hZ
     subst hZ
     refine QM (by conv=>lhs;simp[-List.map_set,QV,h10]) ?_
     refine QN ?_
     repeat (first|refine QG ?_|refine QY ?_)
     exact ja hwf rfl rfl
    have h10':ci=false:=by simpa using h10
    rw [h10',Bool.not_false,Bool.true_and] at hZ
    refine QM (by conv=>lhs;simp[-List.map_set,QV,h10']) ?_
    refine QN ?_
    repeat (first|refine QG ?_|refine QY ?_)
    refine jK [2,3,13,14] (by conv=>lhs; simp [Fr.only,Fr.look]) ?_
    refine zo [0,1] hwf (by decide) (by simp [-List.map_set]) (by conv=>lhs; simp [-List.map_set]) (by conv=>lhs; simp [-List.map_set]) (by conv=>lhs; simp [-List.map_set]) ?_
    clear cwo cne cne' cci' cdf2 cdf' csu' cdf cci cer' csm' csr' crt cty cin
    have hbF:=hf.2.2.2
    simp only at hbF
    have cns : ∀ (i k:Nat) (b:Ss.Block) (x:Ss.Ins),bs[i]? = some b→b.code[k]? = some x→VPure Tryz.prog 50 [ckR ⟨sg,im,gl,mu,me⟩ ⟨⟨fi,fo⟩,ts,bs⟩ ds near,vnat i,vnat k] (.bool (Ss.rinsOk ⟨sg,im,gl,mu,me⟩ ⟨⟨fi,fo⟩,ts,bs⟩ ds near i k x)):=by
     intro i k b x hb hx
     have hbm:=List.mem_of_getElem? hb
     have hxm:=List.mem_of_getElem? hx
     have hsmb:=((Ss.small_iff _).1 (hsm.trans h2)).2.1 b hbm
     simp only [Ss.Block.small,Bool.and_eq_true,List.all_eq_true,Ss.Ins.small,decide_eq_true_eq] at hsmb
     have hxl:=(hsmb.1.2 x hxm).2
     exact rins_v ⟨sg,im,gl,mu,me⟩ ⟨⟨fi,fo⟩,ts,bs⟩ ds near i k b x hsl hgl (her h1) hdl (by simp only; omega) (by omega) hnn hb hx ((hbF b hbm).2.1.2 x hxm) (by omega) ((hdin b hbm).2 x hxm)
    have ctm : ∀ (i:Nat) (b:Ss.Block),bs[i]? = some b→VPure Tryz.prog 51 [ckR ⟨sg,im,gl,mu,me⟩ ⟨⟨fi,fo⟩,ts,bs⟩ ds near,vnat i] (.bool (Ss.rtermOk ⟨⟨fi,fo⟩,ts,bs⟩ ds near i b.code.length b.term)):=fun i b hb =>
     rterm_v ⟨sg,im,gl,mu,me⟩ ⟨⟨fi,fo⟩,ts,bs⟩ ds near i b hdl (by simp only; omega) (by omega) hnn hb (hbF b (List.mem_of_getElem? hb))
    have ced : ∀ (i:Nat) (b:Ss.Block),bs[i]? = some b→VPure Tryz.prog 52 [ckR ⟨sg,im,gl,mu,me⟩ ⟨⟨fi,fo⟩,ts,bs⟩ ds near,vnat i] (.bool (b.term.to.all (Ss.redgeOk ⟨⟨fi,fo⟩,ts,bs⟩ ds near i b.code.length))):=fun i b hb =>
     redges_v ⟨sg,im,gl,mu,me⟩ ⟨⟨fi,fo⟩,ts,bs⟩ ds near i b hdl (by simp only; omega) (by omega) hnn hb (hbF b (List.mem_of_getElem? hb)) (by simp only; omega) (hto b (List.mem_of_getElem? hb)) (fun b hb=>⟨by have:=(hsf b hb).1; omega,(hdin b hb).1⟩)
    clear h0 hx0 hm0 hb0 hin0 hrs hcirc
    repeat refine QS ?_
    refine jd [2,3,13,14] rfl (fun c σ S' => ∃ (k:Nat),k≤bs.length∧c=bs.length-k∧Ss.rcheckBlocks ⟨sg,im,gl,mu,me⟩ ⟨⟨fi,fo⟩,ts,bs⟩ ds near k (bs.drop k)=Z∧σ=[(2, .ptr (lid S.nx 0) 0),(3, .ptr (lid S.nx 1) 0),(13,ckR ⟨sg,im,gl,mu,me⟩ ⟨⟨fi,fo⟩,ts,bs⟩ ds near),(14,vnat k)]∧S'=St S [] [some (5,[vl jO sg,vint im,vl vint gl,vl V.bool mu, .bool me]),some (4,[vl vint fi,vl vint fo,vl vint ts,vl je bs])]) bs.length ?_ ?_
    ·exact ⟨0,by omega,rfl,hZ,by simp [Fr.only],rfl⟩
    ·rintro c σ T ⟨k,hk,rfl,hcb,rfl,rfl⟩
     by_cases hkt:k<bs.length
     case neg =>
      have e1:bs.drop k=[]:=by rw [List.drop_eq_nil_iff]; omega
      rw [e1,Ss.rcheckBlocks] at hcb
      repeat (first|refine QG ?_|refine QY ?_ (r:=by conv=>lhs;simp[-List.map_set,QV,hkt]))
      exact ja hwf (by simp [←hcb]) rfl
     have hw:=jn hkt (by omega)
     have hst:=YM (e:=⟨sg,im,gl,mu,me⟩) (f:=⟨⟨fi,fo⟩,ts,bs⟩) (ds:=ds) (near:=near) hkt
     have hsome:bs[k]? = some bs[k]:=List.getElem?_eq_getElem hkt
     have hcl:=(hsf _ (List.getElem_mem hkt)).2.2.2
     have cti:=ctm k _ hsome
     have cei:=ced k _ hsome
     have cii:=fun j x=>cns k j _ x hsome
     obtain ⟨⟨ps,code,⟨tk,ta,to,az⟩⟩,hx⟩ : ∃ b,bs[k]=b:=⟨_,rfl⟩
     rw [hx] at hst hcl cti cii cei
     simp only at hst hcl cii cti cei
     have hrb:Ss.rcheckBlock ⟨sg,im,gl,mu,me⟩ ⟨⟨fi,fo⟩,ts,bs⟩ ds near k ⟨ps,code,⟨tk,ta,to,az⟩⟩=(Ss.rcheckCode ⟨sg,im,gl,mu,me⟩ ⟨⟨fi,fo⟩,ts,bs⟩ ds near k 0 code&&(Ss.rtermOk ⟨⟨fi,fo⟩,ts,bs⟩ ds near k code.length ⟨tk,ta,to,az⟩&&to.all (Ss.redgeOk ⟨⟨fi,fo⟩,ts,bs⟩ ds near k code.length))):=rfl
     rw [hst,hrb] at hcb
     clear hst hrb
     generalize Ss.rtermOk ⟨⟨fi,fo⟩,ts,bs⟩ ds near k code.length ⟨tk,ta,to,az⟩=tm at *
     generalize to.all (Ss.redgeOk ⟨⟨fi,fo⟩,ts,bs⟩ ds near k code.length)=ed at *
     repeat (first|refine QG ?_|refine QY ?_ (r:=by conv=>lhs;simp[-List.map_set,QV,hkt,hx]))
     repeat refine QS ?_
     refine jd [2,3,13,14,15] rfl (fun c σ S' => ∃ (j:Nat),j≤code.length∧c=code.length-j∧Ss.rcheckCode ⟨sg,im,gl,mu,me⟩ ⟨⟨fi,fo⟩,ts,bs⟩ ds near k j (code.drop j)=Ss.rcheckCode ⟨sg,im,gl,mu,me⟩ ⟨⟨fi,fo⟩,ts,bs⟩ ds near k 0 code∧σ=[(2, .ptr (lid S.nx 0) 0),(3, .ptr (lid S.nx 1) 0),(13,ckR ⟨sg,im,gl,mu,me⟩ ⟨⟨fi,fo⟩,ts,bs⟩ ds near),(14,vnat k),(15,vnat j)]∧S'=St S [] [some (5,[vl jO sg,vint im,vl vint gl,vl V.bool mu, .bool me]),some (4,[vl vint fi,vl vint fo,vl vint ts,vl je bs])]) code.length ?_ ?_
     ·exact ⟨0,by omega,rfl,rfl,by simp [Fr.only],rfl⟩
     ·rintro c σ T ⟨j,hj,rfl,hcc,rfl,rfl⟩
      by_cases hjt:j<code.length
      ·have hwj:=jn hjt (by omega)
       have hsc:=jat (e:=⟨sg,im,gl,mu,me⟩) (f:=⟨⟨fi,fo⟩,ts,bs⟩) (ds:=ds) (near:=near) (i:=k) hjt
       have cij:=cii j _ (List.getElem?_eq_getElem hjt)
       generalize Ss.rinsOk ⟨sg,im,gl,mu,me⟩ ⟨⟨fi,fo⟩,ts,bs⟩ ds near k j code[j]=io at *
       repeat (first|refine QG ?_|refine QY ?_ (r:=by conv=>lhs;simp[-List.map_set,QV,hkt,hx,hjt]))
       repeat refine QS ?_
       refine QP ?_
       refine jc (cij) (by rfl) ?_
       by_cases hio:io=true
       ·refine QM (by conv=>lhs;simp[-List.map_set,QV,hio]) ?_
        refine QN ?_
        repeat (first|refine QG ?_|refine QY ?_ (r:=by conv=>lhs;simp[-List.map_set,QV,hwj]))
        show jv _ _ _ _ _ _ _
        exact again ⟨by omega,j+1,by omega,rfl,by rw [←hcc,hsc,hio,Bool.true_and],by simp [Fr.only,hwj],by simp⟩
       ·have hio':io=false:=by simpa using hio
        refine QM (by conv=>lhs;simp[-List.map_set,QV,hio']) ?_
        refine QN ?_
        repeat (first|refine QG ?_|refine QY ?_)
        exact ja hwf (by rw [←hcb, ←hcc,hsc,hio']; simp) rfl
      ·have e1:code.drop j=[]:=by rw [List.drop_eq_nil_iff]; omega
       rw [e1,Ss.rcheckCode] at hcc
       rw [←hcc,Bool.true_and] at hcb
       repeat (first|refine QG ?_|refine QY ?_ (r:=by conv=>lhs;simp[-List.map_set,QV,hkt,hx,hjt]))
       repeat refine QS ?_
       refine QP ?_
       refine jc (cti) (by rfl) ?_
       by_cases htm:tm=true
       ·refine QM (by conv=>lhs;simp[-List.map_set,QV,htm]) ?_
        refine jc (cei) (by rfl) ?_
        by_cases hed:ed=true
        ·refine QM (by conv=>lhs;simp[-List.map_set,QV,hed]) ?_
         refine QN ?_
         repeat (first|refine QG ?_|refine QY ?_ (r:=by conv=>lhs;simp[-List.map_set,QV,hw]))
         show jv _ _ _ _ _ _ _
         exact again ⟨by omega,k+1,by omega,rfl,by rw [←hcb,htm,hed,Bool.true_and,Bool.true_and],by simp [Fr.only,hw],by simp⟩
        ·have hed':ed=false:=by simpa using hed
         refine QM (by conv=>lhs;simp[-List.map_set,QV,hed']) ?_
         refine QN ?_
         repeat (first|refine QG ?_|refine QY ?_)
         exact ja hwf (by rw [←hcb,htm,hed']; simp) rfl
       ·have htm':tm=false:=by simpa using htm
        refine QM (by conv=>lhs;simp[-List.map_set,QV,htm']) ?_
        refine QN ?_
        repeat (first|refine QG ?_|refine QY ?_)
        exact ja hwf (by rw [←hcb,htm']; simp) rfl
end Go.Vw

namespace Go.Vw
open Go.Proofs Go.RowKit
set_option maxRecDepth 10000
set_option maxHeartbeats 4000000
theorem LicmNone_v (e:Ss.Env) (f:Ss.Fn) (he:e.Fits) (hf:f.Fits):VPure Tryz.prog 7 [zm e,qW f] (.bool true):=by
 intro S
 have cb:=LicP_v e f he hf
 have cal:=Alive14_v
 obtain ⟨al,hal⟩ : ∃ al,al=true:=⟨_,rfl⟩
 rw [←hal] at cal
 cases hc:Ss.check e f with
 | false =>
  rw [Ss.licOut_f hc] at cb
  clear hc
  obtain ⟨⟨fi,fo⟩,ts,bs⟩:=f
  obtain ⟨sg,im,gl,mu,me⟩:=e
  have cb':VPure Tryz.prog 9 [.agg [vl jO sg,vint im,vl vint gl,vl V.bool mu, .bool me], .agg [vl vint fi,vl vint fo,vl vint ts,vl je bs]] (.tuple [.agg [vl vint [],vl vint [],vl vint [],vl je []],vint 6]):=cb
  refine jb (c:=jf Tryz.f7) Tryz.func7 rfl rfl (by simp [Tryz.ntmps7]) ?_
  rw [Tryz.ntmps7]
  intro hwf
  repeat refine QS ?_
  refine QP ?_
  refine QN ?_
  refine ji 2 rfl ((zP (k:=0) (by simp) (by rfl) (by rfl) (by simp))) (by conv=>lhs; simp [Fr.set]) ?_
  simp only [List.set_cons_succ,List.set_cons_zero]
  refine ji 3 rfl ((zP (k:=1) (by simp) (by rfl) (by rfl) (by simp))) (by conv=>lhs; simp [Fr.set]) ?_
  simp only [List.set_cons_succ,List.set_cons_zero]
  repeat refine QS ?_
  refine QP ?_
  refine jc (cb') (by rfl) ?_
  refine QM (by conv=>lhs;simp[-List.map_set,QV]) ?_
  refine QN ?_
  repeat (first|refine QG ?_|refine QY ?_)
  repeat refine QS ?_
  refine QP ?_
  refine jc (cal) (by rfl) ?_
  refine QM (by conv=>lhs;simp[-List.map_set,QV,hal]) ?_
  refine QN ?_
  repeat (first|refine QG ?_|refine QY ?_)
  exact ja (X := .bool true) hwf (by simp) rfl
 | true =>
  rw [Ss.licOut_t hc] at cb
  have hgc:=Ss.licF_check hc
  have hgf:=Ss.licF_fits hc hf
  have hnone:=Ss.licF_none hc
  clear hc
  generalize Ss.licF f=g at *
  obtain ⟨_,ds,hds,_,_⟩:=Ss.check_spec hgc
  rw [←Ss.rFirst_eq hgc hds] at hnone
  obtain ⟨hdl,_⟩:=Ss.defs_in hds
  have hs:=Ss.check_small hgc
  have hd:=Ss.check_dok hgc
  have hgr:=Ss.graphic hgc
  have hsm:=(Ss.small_iff g).1 hs
  have hh:=hsm.1
  simp only [Ss.Fn.heads,Bool.and_eq_true,decide_eq_true_eq] at hh
  obtain ⟨⟨⟨hh1,hh2⟩,_⟩,_⟩:=hh
  have cck:=RCheck_v e g he hgf
  rw [Ss.check_agrees hgf,hgc] at cck
  obtain ⟨ck,hck⟩ : ∃ ck,ck=true:=⟨_,rfl⟩
  rw [←hck] at cck
  have csu:=RSucc_v g hgf hs
  have clo:=RLoopsAll_v (Ss.succs g.blocks) (jaF hgf)
  have hlp:G.loopsI (Ss.succs g.blocks)=Ss.lps g.blocks:=by rw [G.loopsI,hgr.right,if_pos rfl]; rfl
  rw [hlp] at clo
  have hlpl:(Ss.lps g.blocks).length≤256:=by rw [←hlp]; exact G.loopsI_len _
  have hlpn : ∀ l∈Ss.lps g.blocks,l.2.length≤256:=by rw [←hlp]; exact G.loopsI_nodes _
  have hlpb : ∀ l∈Ss.lps g.blocks, ∀ n∈l.2,n<g.blocks.length:=fun l hl n hn=>by
   obtain ⟨a1,a2,a3,a4⟩:=G.heads hgr.ok _ (Nat.le_refl _) l hl
   have:=a3 n hn
   rw [Ss.nats_succs_len] at this; exact this
  have cmo:=fun x nodes hn hal hxa=>RMoves_v g hgf (by omega) hds hdl x nodes hn hal hxa
  have cpo:=fun hd nd h=>RPorch_v g hgf hd nd h
  have hpoe : ∀ hd nd,Ss.porchF g hd nd=Ss.porch g.blocks hd nd:=fun hd nd=>by rw [Ss.porchF,if_pos hs]
  have hgb2:=(jZ hs).2.2.1
  have hargs:=hd.args
  have hfb:=hgf.2.2.2
  have hno:=Ss.first_none hnone
  generalize Ss.lps g.blocks=lp at *
  generalize Ss.succs g.blocks=sc at *
  generalize G.err sc=ge at *
  clear hgc hgr hsm hd hlp hds hs hh1 hh2 hnone hdl
  obtain ⟨⟨fi,fo⟩,ts,bs⟩:=f
  obtain ⟨⟨gi,go⟩,gt,gb⟩:=g
  obtain ⟨sg,im,gl,mu,me⟩:=e
  simp only at *
  have cb':VPure Tryz.prog 9 [.agg [vl jO sg,vint im,vl vint gl,vl V.bool mu, .bool me], .agg [vl vint fi,vl vint fo,vl vint ts,vl je bs]] (.tuple [.agg [vl vint gi,vl vint go,vl vint gt,vl je gb],vint 0]):=cb
  have cck':VPure Tryz.prog 13 [.agg [vl jO sg,vint im,vl vint gl,vl V.bool mu, .bool me], .agg [vl vint gi,vl vint go,vl vint gt,vl je gb]] (.bool ck):=cck
  have csu':VPure Tryz.prog 20 [.agg [vl vint gi,vl vint go,vl vint gt,vl je gb]] (vl (vl vint) sc):=csu
  have cpo' : ∀ hd nd,nd.length<2^63→VPure Tryz.prog 21 [.agg [vl vint gi,vl vint go,vl vint gt,vl je gb],vint hd,vl vint nd] (Wm (Ss.porch gb hd nd)):=fun hd nd h=>by
   rw [←hpoe]; exact cpo hd nd h
  have cmo' : ∀ (x:Ss.Ins) (nodes:List Nat),nodes.length<2^63→x.args.length<2^62→(∀ a∈x.args,Ss.InR gt.length a)→VPure Tryz.prog 22 [.agg [vl vint gi,vl vint go,vl vint gt,vl je gb], .agg [vint x.op,vu x.n,vl vint x.args,vl vint x.outs],vl vnat nodes] (.bool (Ss.canMove (Ss.rHome ds) nodes x)):=cmo
  clear cb cck csu cpo cmo hpoe
  refine jb (c:=jf Tryz.f7) Tryz.func7 rfl rfl (by simp [Tryz.ntmps7]) ?_
  rw [Tryz.ntmps7]
  intro hwf
  repeat refine QS ?_
  refine QP ?_
  refine QN ?_
  refine ji 2 rfl ((zP (k:=0) (by simp) (by rfl) (by rfl) (by simp))) (by conv=>lhs; simp [Fr.set]) ?_
  simp only [List.set_cons_succ,List.set_cons_zero]
  refine ji 3 rfl ((zP (k:=1) (by simp) (by rfl) (by rfl) (by simp))) (by conv=>lhs; simp [Fr.set]) ?_
  simp only [List.set_cons_succ,List.set_cons_zero]
  repeat refine QS ?_
  refine QP ?_
  refine jc (cb') (by rfl) ?_
  refine QM (by conv=>lhs;simp[-List.map_set,QV]) ?_
  refine QN ?_
  refine ji 5 rfl ((zP (k:=2) (by simp) (by rfl) (by rfl) (by simp))) (by conv=>lhs; simp [Fr.set]) ?_
  simp only [List.set_cons_succ,List.set_cons_zero]
  refine jK [2,3,5,6] (by conv=>lhs; simp [Fr.only,Fr.look]) ?_
  refine zo [] hwf (by decide) (by simp [-List.map_set]) (by conv=>lhs; simp [-List.map_set]) (by conv=>lhs; simp [-List.map_set]) (by conv=>lhs; simp [-List.map_set]) ?_
  repeat refine QS ?_
  refine QP ?_
  refine jc (cck') (by rfl) ?_
  refine QM (by conv=>lhs;simp[-List.map_set,QV,hck]) ?_
  refine QN ?_
  repeat (first|refine QG ?_|refine QY ?_)
  repeat refine QS ?_
  refine QP ?_
  refine jc (csu') (by rfl) ?_
  refine jo rfl (clo) ?_
  refine QM (by conv=>lhs;simp[-List.map_set,QV]) ?_
  refine QN ?_
  repeat (first|refine QG ?_|refine QY ?_)
  repeat refine QS ?_
  refine jd [5,42,43,44] rfl (fun c σ S' => ∃ (k:Nat),k≤lp.length∧c=lp.length-k∧σ=[(5,(V.agg [vl vint gi,vl vint go,vl vint gt,vl je gb]).ref),(42,vl jA lp),(43,vnat lp.length),(44,vnat k)]∧S'=St S [] []) lp.length ?_ ?_
  ·exact ⟨0,by omega,rfl,by simp [Fr.only,Fr.look],by simp⟩
  ·rintro c σ T ⟨k,hk,rfl,rfl,rfl⟩
   by_cases hkt:k<lp.length
   ·have hw:=jn hkt (by omega)
    have hlm:lp[k]∈lp:=List.getElem_mem hkt
    have hln:=hlpn _ hlm
    have hlb:=hlpb _ hlm
    have hnl:=hno _ hlm
    obtain ⟨⟨hed,nodes⟩,hlk⟩ : ∃ l,lp[k]=l:=⟨_,rfl⟩
    rw [hlk] at hln hlb hnl
    simp only at hln hlb hnl
    have hoi : ∀ S',qe 2 S' (vl jA lp) (V.int .i64 (k:Int))=some (.ref (.agg [vnat hed,vl vnat nodes])):=fun S'=>by
     have:=Jl (S:=S') (enc:=jA) (l:=lp) (k := .i64) (i:=k) (x:=(hed,nodes)) (s:=2) rfl (by rw [List.getElem?_eq_getElem hkt,hlk])
     simpa [jA] using this
    have cpo2:=cpo' (hed:Int) (nodes.map Int.ofNat) (by rw [List.length_map]; omega)
    rw [←vl_nat] at cpo2
    obtain ⟨po,hpo⟩ : ∃ po,po=Ss.porch gb (hed:Int) (nodes.map Int.ofNat):=⟨_,rfl⟩
    rw [←hpo] at cpo2 hnl
    repeat refine QS ?_
    refine QP ?_ (r:=by conv=>lhs;simp[-List.map_set,QV,hkt])
    refine QN ?_
    repeat refine QS ?_
    refine jC rfl rfl rfl ?_
    repeat refine QS ?_
    refine jz rfl ?_
    repeat refine QS ?_
    refine jH 1 rfl rfl ?_
    repeat refine QS ?_
    refine QP ?_ (r:=by conv=>lhs;simp[-List.map_set,QV,hoi])
    refine QN ?_
    refine ji 10 rfl ((zP (k:=0) (by simp) (by rfl) (by rfl) (by simp))) (by conv=>lhs; simp [Fr.set]) ?_
    simp only [List.set_cons_succ,List.set_cons_zero]
    repeat refine QS ?_
    refine QP ?_
    refine jc (cpo2) (by rfl) ?_
    cases po with
    | none =>
     simp only [Wm]
     refine QM (by conv=>lhs;simp[-List.map_set,QV]) ?_
     refine QN ?_
     repeat (first|refine QG ?_|refine QY ?_ (r:=by conv=>lhs;simp[-List.map_set,QV,hw]))
     refine QA [] (h:=⟨?_,k+1,hkt,rfl,by simp [Fr.only,Fr.look],by simp⟩)
     omega
    | some p =>
     have hnl:=hnl p rfl
     simp only [Wm]
     refine QM (by conv=>lhs;simp[-List.map_set,QV]) ?_
     refine QN ?_
     repeat (first|refine QG ?_|refine QY ?_)
     refine jK [5,10,42,43,44,60,61,62] (by conv=>lhs; simp [Fr.only,Fr.look]) ?_
     refine zo [] hwf (by decide) (by simp [-List.map_set]) (by conv=>lhs; simp [-List.map_set]) (by conv=>lhs; simp [-List.map_set]) (by conv=>lhs; simp [-List.map_set]) ?_
     repeat refine QS ?_
     refine jd [5,10,42,43,44,60,61,62] rfl (fun c σ S' => ∃ (j:Nat),j≤nodes.length∧c=nodes.length-j∧σ=[(5,(V.agg [vl vint gi,vl vint go,vl vint gt,vl je gb]).ref),(10,(V.agg [vnat hed,vl vnat nodes]).ref),(42,vl jA lp),(43,vnat lp.length),(44,vnat k),(60,vl vnat nodes),(61,vnat nodes.length),(62,vnat j)]∧S'=St S [] []) nodes.length ?_ ?_
     ·exact ⟨0,by omega,rfl,by simp [Fr.only,Fr.look],by simp⟩
     ·rintro c σ T ⟨j,hj,rfl,rfl,rfl⟩
      by_cases hjt:j<nodes.length
      ·have hwj:=jn hjt (by omega)
       obtain ⟨n,hn⟩ : ∃ n,nodes[j]=n:=⟨_,rfl⟩
       have hnb:n<gb.length:=hn▸hlb _ (List.getElem_mem hjt)
       have hnx:=hnl n (hn▸List.getElem_mem hjt)
       have hgd:gb.getD n default=gb[n]:=by rw [List.getD_eq_getElem?_getD,List.getElem?_eq_getElem hnb]; rfl
       rw [hgd] at hnx
       have hcn:=(hgb2 _ (List.getElem_mem hnb)).2.2.2
       have hab:=hargs _ (List.getElem_mem hnb)
       have hfbn:=(hfb _ (List.getElem_mem hnb)).2.1
       obtain ⟨⟨ps,code,tm⟩,hbn⟩ : ∃ b,gb[n]=b:=⟨_,rfl⟩
       rw [hbn] at hnx hcn hab hfbn
       obtain ⟨tm1,tm2,tm3,tm4⟩:=tm
       simp only at hnx hcn hab hfbn
       repeat (first|refine QG ?_|refine QY ?_ (r:=by conv=>lhs;simp[-List.map_set,QV,hjt,hn,hnb,hbn]))
       repeat refine QS ?_
       refine jd [5,10,42,43,44,60,61,62,71,72,73] rfl (fun c σ S' => ∃ (i:Nat),i≤code.length∧c=code.length-i∧σ=[(5,(V.agg [vl vint gi,vl vint go,vl vint gt,vl je gb]).ref),(10,(V.agg [vnat hed,vl vnat nodes]).ref),(42,vl jA lp),(43,vnat lp.length),(44,vnat k),(60,vl vnat nodes),(61,vnat nodes.length),(62,vnat j),(71,vl jt code),(72,vnat code.length),(73,vnat i)]∧S'=St S [] []) code.length ?_ ?_
       ·exact ⟨0,by omega,rfl,by simp [Fr.only,Fr.look],by simp⟩
       ·rintro c σ T ⟨i,hi,rfl,rfl,rfl⟩
        by_cases hit:i<code.length
        ·have hwi:=jn hit (by omega)
         have hxm:=List.getElem_mem hit
         have hxa:=hab _ hxm
         have hxf:=hfbn.2 _ hxm
         have hxn:=hnx _ hxm
         obtain ⟨⟨xo,xn,xa,xs⟩,hxe⟩ : ∃ x,code[i]=x:=⟨_,rfl⟩
         rw [hxe] at hxa hxf hxn
         simp only at hxa
         have cm:=cmo' ⟨xo,xn,xa,xs⟩ nodes (by omega) (by have:=hxf.2.2.1.1; simp only at this ⊢; omega) hxa
         rw [hxn] at cm
         obtain ⟨fa,hfa⟩ : ∃ fa,fa=false:=⟨_,rfl⟩
         rw [←hfa] at cm
         repeat (first|refine QG ?_|refine QY ?_ (r:=by conv=>lhs;simp[-List.map_set,QV,hit,hxe]))
         refine ji 16 rfl ((zP (k:=0) (by simp) (by rfl) (by rfl) (by simp))) (by conv=>lhs; simp [Fr.set]) ?_
         simp only [List.set_cons_succ,List.set_cons_zero]
         repeat refine QS ?_
         refine QP ?_
         refine jc (cm) (by rfl) ?_
         refine QM (by conv=>lhs;simp[-List.map_set,QV,hfa]) ?_
         refine QN ?_
         repeat (first|refine QG ?_|refine QY ?_ (r:=by conv=>lhs;simp[-List.map_set,QV,hwi]))
         refine QA [] (h:=⟨?_,i+1,hit,rfl,by simp [Fr.only,Fr.look],by simp⟩)
         omega
        ·repeat (first|refine QG ?_|refine QY ?_ (r:=by conv=>lhs;simp[-List.map_set,QV,hit,hwj]))
         show jv _ _ _ _ _ _ _
         exact again ⟨Nat.sub_lt_sub_left hjt (Nat.lt_succ_self j),j+1,hjt,rfl,by simp [Fr.only,Fr.look],rfl⟩
      ·repeat (first|refine QG ?_|refine QY ?_ (r:=by conv=>lhs;simp[-List.map_set,QV,hjt,hw]))
       show jv _ _ _ _ _ _ _
       exact again ⟨Nat.sub_lt_sub_left hkt (Nat.lt_succ_self k),k+1,hkt,rfl,by simp [Fr.only,Fr.look],rfl⟩
   ·repeat (first|refine QG ?_|refine QY ?_ (r:=by conv=>lhs;simp[-List.map_set,QV,hkt]))
    repeat refine QS ?_
    refine QP ?_
    refine jc (cal) (by rfl) ?_
    refine QM (by conv=>lhs;simp[-List.map_set,QV,hal]) ?_
    refine QN ?_
    repeat (first|refine QG ?_|refine QY ?_)
    exact ja (X := .bool true) hwf (by simp) rfl
end Go.Vw
