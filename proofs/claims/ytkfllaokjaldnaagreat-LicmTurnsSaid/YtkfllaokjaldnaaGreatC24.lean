import Derived.Test.YtkfllaokjaldnaaGreatC22
import Derived.Test.YtkfllaokjaldnaaGreatC16
import Derived.Test.YtkfllaokjaldnaaGreatC12
import Derived.Test.YtkfllaokjaldnaaGreatC13
import Derived.Test.YtkfllaokjaldnaaGreatC23
import Derived.Test.YtkfllaokjaldnaaGreatC15
import Derived.Test.YtkfllaokjaldnaaGreatC14
/-
  Part of the proof (texts SChk2, SBlk, SSame2, SAlive, SAlive2, SLLess, SLessP, DTab, SRepl).
-/
set_option linter.unusedVariables false
set_option linter.unusedSimpArgs false
namespace Go.Vw
open Go.Proofs Go.RowKit
set_option maxRecDepth 10000
set_option maxHeartbeats 8000000
theorem Check_v (e:Ss.Env) (f:Ss.Fn) (he:e.Fits) (hf:f.Fits):VPure Tryz.prog 23 [zl e,qD f] (.bool (Ss.check e f)):=by
 intro S;have cer:=EnvRight_v e he;have csm:=jbQ f hf;have hsb := @qd f;have ckt:VPure Tryz.prog 65 [.int .i64 2048,vl vint f.types] (.bool (Ss.kinds 2048 f.types)):=jcl 2048 f.types (by have:=hf.2.1.1; omega);have csr:=jbg f.sig hf.1;have cpa:=AnyB_v f.blocks (fun b=>decide (256<b.params.length)) 68 [] rfl (by have:=hf.2.2.1; omega) (fun b _=>check1_v b);have hpa:(f.blocks.all fun b=>decide (b.params.length≤256)) = !(f.blocks.any fun b=>decide (256<b.params.length)):=by
  rw [List.not_any_eq_all_not]; congr 1; funext b; by_cases h:b.params.length≤256<;>simp [h]<;>omega
 have hH:Ss.checkHead e f=(e.right&&f.small&&decide (f.blocks.length≤256)&&Ss.kinds 2048 f.types&&f.sig.right && !(f.blocks.any fun b=>decide (256<b.params.length))):=by rw [←hpa]; rfl
 have hX:Ss.check e f=(Ss.checkHead e f&&match Ss.defsOf f with
  | none=>false
  | some ds=>Ss.shapeOk f&&Ss.checkBlocks e f ds (G.nearI (Ss.succs f.blocks)) 0 f.blocks):=rfl
 have hks:Ss.kinds 2048 f.types=true→f.types.length≤2048:=by
  intro h; simp only [Ss.kinds,Bool.and_eq_true,decide_eq_true_eq] at h; exact h.1
 have her:e.right=true→e.muts.length=e.globals.length:=by
  intro h; simp only [Ss.Env.right,Bool.and_eq_true,decide_eq_true_eq] at h; exact h.1.1.2
 rw [hX,hH];generalize (f.blocks.any fun b=>decide (256<b.params.length))=pa at *
 generalize e.right=er at *
 generalize hsm:f.small=sm at *
 generalize Ss.kinds 2048 f.types=kt at *
 generalize f.sig.right=sr at *
 have hsl:=he.1.1;have hgl:=he.2.2.1.1;obtain ⟨sg,im,gl,mu,me⟩:=e;obtain ⟨⟨fi,fo⟩,ts,bs⟩:=f;simp only at *
 have cer':VPure Tryz.prog 63 [.agg [vl jR sg, .int .i64 im,vl vint gl,vl V.bool mu, .bool me]] (.bool er):=cer;have csm':VPure Tryz.prog 64 [.agg [vl vint fi,vl vint fo,vl vint ts,vl jd bs]] (.bool sm):=csm;have csr':VPure Tryz.prog 66 [.agg [vl vint fi,vl vint fo]] (.bool sr):=csr;generalize hZ:(match Ss.defsOf ⟨⟨fi,fo⟩,ts,bs⟩ with
  | none=>false
  | some ds=>Ss.shapeOk ⟨⟨fi,fo⟩,ts,bs⟩&&Ss.checkBlocks ⟨sg,im,gl,mu,me⟩ ⟨⟨fi,fo⟩,ts,bs⟩ ds (G.nearI (Ss.succs bs)) 0 bs)=Z
 refine jb (c:=jg Tryz.f23) Tryz.func23 rfl rfl (by simp [Tryz.ntmps23]) ?_;rw [Tryz.ntmps23];intro hwf
 repeat first|refine QG ?_|refine QY ?_
 repeat refine QS ?_
 refine QP ?_;refine jc (cer') (by rfl) ?_
 by_cases h1:er=true
 case neg =>
  have h1':er=false:=by simpa using h1
  refine QM (by conv=>lhs;simp[-List.map_set,QV,h1']) ?_;refine QN ?_
  repeat first|refine QG ?_|refine QY ?_
  exact ja hwf (by simp [h1']) rfl
 refine QM (by conv=>lhs;simp[-List.map_set,QV,h1]) ?_;refine jc (csm') (by rfl) ?_
 by_cases h2:sm=true
 case neg =>
  have h2':sm=false:=by simpa using h2
  refine QM (by conv=>lhs;simp[-List.map_set,QV,h2']) ?_;refine QN ?_
  repeat first|refine QG ?_|refine QY ?_
  exact ja hwf (by simp [h2']) rfl
 by_cases h3:(256:Int)<(bs.length:Int)
 ·refine QM (by conv=>lhs;simp[-List.map_set,QV,h2,h3]) ?_;refine QN ?_
  repeat first|refine QG ?_|refine QY ?_
  exact ja hwf (by rw [show decide (bs.length≤256)=false by simp; omega]; simp) rfl
 have h3':bs.length≤256:=by omega
 refine QM (by conv=>lhs;simp[-List.map_set,QV,h2,h3]) ?_;refine jc (ckt) (by rfl) ?_
 by_cases h4:kt=true
 case neg =>
  have h4':kt=false:=by simpa using h4
  refine QM (by conv=>lhs;simp[-List.map_set,QV,h4']) ?_;refine QN ?_
  repeat first|refine QG ?_|refine QY ?_
  exact ja hwf (by simp [h4']) rfl
 refine QM (by conv=>lhs;simp[-List.map_set,QV,h4]) ?_;refine jc (csr') (by rfl) ?_
 by_cases h5:sr=true
 case neg =>
  have h5':sr=false:=by simpa using h5
  refine QM (by conv=>lhs;simp[-List.map_set,QV,h5']) ?_;refine QN ?_
  repeat first|refine QG ?_|refine QY ?_
  exact ja hwf (by simp [h5']) rfl
 rw [h1,h2,h4,h5,decide_eq_true h3'];simp only [Bool.true_and];have htl:=hks h4;obtain ⟨_,_,hsf,_⟩:=hsb h2;refine QM (by conv=>lhs;simp[-List.map_set,QV,h5]) ?_;refine QN ?_
 repeat first|refine QG ?_|refine QY ?_
 repeat refine QS ?_
 refine QP ?_;refine jc (cpa) (by rfl) ?_
 by_cases h6:pa=true
 ·refine QM (by conv=>lhs;simp[-List.map_set,QV,h6]) ?_;refine QN ?_
  repeat first|refine QG ?_|refine QY ?_
  exact ja hwf (by simp [h6]) rfl
 have h6':pa=false:=by simpa using h6
 rw [h6'];simp only [Bool.not_false,Bool.true_and];refine QM (by conv=>lhs;simp[-List.map_set,QV,h6']) ?_;refine qb rfl (define_v _ ⟨sg,im,gl,mu,me⟩ ⟨⟨fi,fo⟩,ts,bs⟩ (lid S.nx 2) hf (by simp only; omega) (by simp)) ?_;rintro X S' ⟨ds,hdl,rfl,hdd,rfl⟩;rw [St_St (by rw [jQ]; simp [lid]),JS (by simp),Yd,jQ,lid_lid];simp only [List.set_cons_succ,List.set_cons_zero,List.cons_append,List.nil_append,List.length_cons,List.length_nil,Nat.zero_add,Nat.add_zero]
 cases hdf:Ss.defsOf ⟨⟨fi,fo⟩,ts,bs⟩ with
 | none =>
  rw [hdf] at hZ;simp only at hZ;obtain ⟨z,hz⟩ : ∃ z,(none:Option (List Ss.Def)).isSome=z:=⟨_,rfl⟩
  have hz':z=false:=by rw [←hz]; rfl
  rw [hz];refine QM (by conv=>lhs;simp[-List.map_set,QV,hz']) ?_;refine QN ?_
  repeat first|refine QG ?_|refine QY ?_
  exact ja hwf (by simp [←hZ]) rfl
 | some ds2 =>
  obtain rfl:=hdd _ hdf;rw [hdf] at hZ;simp only at hZ;obtain ⟨hdl2,hdin⟩:=Ss.defs_in hdf;simp only at hdin;obtain ⟨z,hz⟩ : ∃ z,(some ds:Option (List Ss.Def)).isSome=z:=⟨_,rfl⟩
  have hz':z=true:=by rw [←hz]; rfl
  rw [hz];refine QM (by conv=>lhs;simp[-List.map_set,QV,hz']) ?_;refine qb rfl (shape_v _ ⟨sg,im,gl,mu,me⟩ ⟨⟨fi,fo⟩,ts,bs⟩ (lid S.nx 2) (lid S.nx 3) hf (hsm.trans h2) (by simp [hdl]) (by simp [lid]) (fun b hb=>(hdin b hb).1)) ?_;rintro X S' ⟨nv,hnv,rfl,hnvv,rfl⟩;rw [JS (by simp)];simp only [List.set_cons_succ,List.set_cons_zero];generalize hso:Ss.shapeOk ⟨⟨fi,fo⟩,ts,bs⟩=so at *
  by_cases h7:so=true
  case neg =>
   have h7':so=false:=by simpa using h7
   refine QM (by conv=>lhs;simp[-List.map_set,QV,h7']) ?_;refine QN ?_
   repeat first|refine QG ?_|refine QY ?_
   exact ja hwf (by simp [←hZ,h7']) rfl
  have hnv2:=hnvv h7;subst hnv2;rw [h7,Bool.true_and] at hZ;have hright:G.right (Ss.succs bs)=true:=by
   have:=hso.trans h7;simp only [Ss.shapeOk,Bool.and_eq_true] at this;exact this.1.1.1.1
  have hto:=Ss.right_to (f:=⟨⟨fi,fo⟩,ts,bs⟩) hright;simp only at hto;have hnl:=G.nearI_len (Ss.succs bs);generalize hnr:G.nearI (Ss.succs bs)=near at *
  refine QM (by conv=>lhs;simp[-List.map_set,QV,h7]) ?_;refine QN ?_
  apply ju
  ·exact Reach.frzCellS (enc:=qV) (s:=3) (fun _=>rfl) zQ (k:=2) (j:=3) (i:=9) ds (by decide) (by simp) (by simp) (by rfl) (by rw [hdl]; rfl) (by rfl)
  simp only [List.set_cons_succ,List.set_cons_zero];refine QH 5 2 ?_
  repeat first|refine QG ?_|refine QY ?_
  refine jE [5,54,55,56] (by conv=>lhs; simp [Fr.only,Fr.look]) ?_;refine zp [] hwf (by decide) (by simp [-List.map_set]) (by conv=>lhs; simp [-List.map_set]) (by conv=>lhs; simp [-List.map_set]) (by conv=>lhs; simp [-List.map_set]) ?_;have ci : ∀ (i k:Nat) (b:Ss.Block) (x:Ss.Ins),b∈bs→x∈b.code→VPure Tryz.prog 71 [ckV ⟨sg,im,gl,mu,me⟩ ⟨⟨fi,fo⟩,ts,bs⟩ ds near,vnat i,vnat k,jm x] (.bool (Ss.insOk ⟨sg,im,gl,mu,me⟩ ⟨⟨fi,fo⟩,ts,bs⟩ ds near i k x)):=by
   intro i k b x hb hx;have hbF:=hf.2.2.2 b hb;have hxF:=hbF.2.1.2 x hx;have hsmb:=((Ss.small_iff _).1 (hsm.trans h2)).2.1 b hb;simp only [Ss.Block.small,Bool.and_eq_true,List.all_eq_true,Ss.Ins.small,decide_eq_true_eq] at hsmb;have hxl:=(hsmb.1.2 x hx).2;exact ins_v ⟨sg,im,gl,mu,me⟩ ⟨⟨fi,fo⟩,ts,bs⟩ ds near i k x hsl hgl (her h1) hdl (by simp only; omega) (by omega) hxF (by omega) ((hdin b hb).2 x hx)
  have ctm : ∀ (i:Nat) (b:Ss.Block),b∈bs→VPure Tryz.prog 72 [ckV ⟨sg,im,gl,mu,me⟩ ⟨⟨fi,fo⟩,ts,bs⟩ ds near,vnat i,jd b] (.bool (Ss.termOk ⟨⟨fi,fo⟩,ts,bs⟩ ds near i b)):=fun i b hb =>
   term_v ⟨sg,im,gl,mu,me⟩ ⟨⟨fi,fo⟩,ts,bs⟩ ds near i b hdl (by simp only; omega) (by omega) (by simp only; omega) (by have:=hf.1.2.1; simp only at this ⊢; omega) (hf.2.2.2 b hb) (hto b hb) (fun b hb=>⟨by have:=(hsf b hb).1; omega,(hdin b hb).1⟩)
  repeat refine QS ?_
  refine je [5,54,55,56] rfl (fun c σ S' => ∃ (k:Nat),k≤bs.length∧c=bs.length-k∧Ss.checkBlocks ⟨sg,im,gl,mu,me⟩ ⟨⟨fi,fo⟩,ts,bs⟩ ds near k (bs.drop k)=Z∧σ=[(5,ckV ⟨sg,im,gl,mu,me⟩ ⟨⟨fi,fo⟩,ts,bs⟩ ds near),(54,vl jd bs),(55,vnat bs.length),(56,vnat k)]∧S'=St S [] []) bs.length ?_ ?_
  ·exact ⟨0,by omega,rfl,hZ,by simp [Fr.only],rfl⟩
  ·rintro c σ T ⟨k,hk,rfl,hcb,rfl,rfl⟩
   by_cases hkt:k<bs.length
   ·have hw:=jo hkt (by omega);have hst:=jaJ (e:=⟨sg,im,gl,mu,me⟩) (f:=⟨⟨fi,fo⟩,ts,bs⟩) (ds:=ds) (near:=near) hkt;have hmem:=List.getElem_mem hkt;have hcl:=(hsf _ hmem).2.2.2;have cti:=ctm k _ hmem;have cii:=fun j x=>ci k j _ x hmem
    obtain ⟨⟨ps,code,⟨tk,ta,to,az⟩⟩,hx⟩ : ∃ b,bs[k]=b:=⟨_,rfl⟩
    rw [hx] at hst hcl cti cii;simp only at hst hcl cii;rw [hst] at hcb;generalize Ss.termOk ⟨⟨fi,fo⟩,ts,bs⟩ ds near k ⟨ps,code,⟨tk,ta,to,az⟩⟩=tm at *
    repeat first|refine QG ?_|refine QY ?_ (r:=by conv=>lhs;simp[-List.map_set,QV,hkt,hx])
    repeat refine QS ?_
    refine je [5,6,7,54,55,56,62,63,64] rfl (fun c σ S' => ∃ (j:Nat),j≤code.length∧c=code.length-j∧Ss.checkCode ⟨sg,im,gl,mu,me⟩ ⟨⟨fi,fo⟩,ts,bs⟩ ds near k j (code.drop j)=Ss.checkCode ⟨sg,im,gl,mu,me⟩ ⟨⟨fi,fo⟩,ts,bs⟩ ds near k 0 code∧σ=[(5,ckV ⟨sg,im,gl,mu,me⟩ ⟨⟨fi,fo⟩,ts,bs⟩ ds near),(6,vnat k),(7, .ptr (lid S.nx 0) 0),(54,vl jd bs),(55,vnat bs.length),(56,vnat k),(62,vl jm code),(63,vnat code.length),(64,vnat j)]∧S'=St S [] [some (6,[vl vint ps,vl jm code, .int .i64 tk, .int .i64 ta,vl jk to,vl vint az])]) code.length ?_ ?_
    ·exact ⟨0,by omega,rfl,rfl,by simp [Fr.only],rfl⟩
    ·rintro c σ T ⟨j,hj,rfl,hcc,rfl,rfl⟩
     by_cases hjt:j<code.length
     ·have hwj:=jo hjt (by omega);have hsc:=jcu (e:=⟨sg,im,gl,mu,me⟩) (f:=⟨⟨fi,fo⟩,ts,bs⟩) (ds:=ds) (near:=near) (i:=k) hjt;have cij:=cii j _ (List.getElem_mem hjt);obtain ⟨⟨xo,xn,xa,xu⟩,hx2⟩ : ∃ x,code[j]=x:=⟨_,rfl⟩
      rw [hx2] at hsc cij;generalize Ss.insOk ⟨sg,im,gl,mu,me⟩ ⟨⟨fi,fo⟩,ts,bs⟩ ds near k j ⟨xo,xn,xa,xu⟩=io at *
      have cij':VPure Tryz.prog 71 [ckV ⟨sg,im,gl,mu,me⟩ ⟨⟨fi,fo⟩,ts,bs⟩ ds near,vnat k,vnat j, .agg [.int .i64 xo, .int .u64 xn,vl vint xa,vl vint xu]] (.bool io):=cij
      repeat first|refine QG ?_|refine QY ?_ (r:=by conv=>lhs;simp[-List.map_set,QV,hjt,hx2])
      repeat refine QS ?_
      refine QP ?_ (r:=by conv=>lhs;simp[-List.map_set,QV,hjt,hx2]);refine jc (cij') (by rfl) ?_
      by_cases hio:io=true
      ·refine QM (by conv=>lhs;simp[-List.map_set,QV,hio]) ?_;refine QN ?_
       repeat first|refine QG ?_|refine QY ?_
       refine QA [0] (h:=⟨?_,j+1,hjt,rfl,by rw [←hcc,hsc,hio,Bool.true_and],by simp [hwj],rfl⟩);omega
      ·have hio':io=false:=by simpa using hio
       refine QM (by conv=>lhs;simp[-List.map_set,QV,hio']) ?_;refine QN ?_
       repeat first|refine QG ?_|refine QY ?_
       exact ja hwf (by rw [←hcb, ←hcc,hsc,hio']; simp) rfl
     ·have e1:code.drop j=[]:=by rw [List.drop_eq_nil_iff]; omega
      rw [e1,Ss.checkCode] at hcc;rw [←hcc,Bool.true_and] at hcb;have cti':VPure Tryz.prog 72 [ckV ⟨sg,im,gl,mu,me⟩ ⟨⟨fi,fo⟩,ts,bs⟩ ds near,vnat k, .agg [vl vint ps,vl jm code, .int .i64 tk, .int .i64 ta,vl jk to,vl vint az]] (.bool tm):=cti
      repeat first|refine QG ?_|refine QY ?_ (r:=by conv=>lhs;simp[-List.map_set,QV,hjt])
      repeat refine QS ?_
      refine QP ?_ (r:=by conv=>lhs;simp[-List.map_set,QV,hjt]);refine jc (cti') (by rfl) ?_
      by_cases htm:tm=true
      ·refine QM (by conv=>lhs;simp[-List.map_set,QV,htm]) ?_;refine QN ?_
       repeat first|refine QG ?_|refine QY ?_
       refine QA [] (h:=⟨?_,k+1,hkt,rfl,by rw [←hcb,htm,Bool.true_and],by simp [hw],rfl⟩);omega
      ·have htm':tm=false:=by simpa using htm
       refine QM (by conv=>lhs;simp[-List.map_set,QV,htm']) ?_;refine QN ?_
       repeat first|refine QG ?_|refine QY ?_
       exact ja hwf (by rw [←hcb,htm']; simp) rfl
   ·have e1:bs.drop k=[]:=by rw [List.drop_eq_nil_iff]; omega
    rw [e1,Ss.checkBlocks] at hcb
    repeat first|refine QG ?_|refine QY ?_ (r:=by conv=>lhs;simp[-List.map_set,QV,hkt])
    exact ja hwf (by simp [←hcb]) rfl
end Go.Vw

namespace Go.Vw
open Go.Proofs Go.RowKit
set_option maxRecDepth 10000
set_option maxHeartbeats 8000000
end Go.Vw

namespace Go.Vw
open Go.Proofs Go.RowKit
set_option maxRecDepth 10000
set_option maxHeartbeats 2000000
def sameFn (f g:Ss.Fn):Bool:=f.small&&g.small&&decide (f=g)
end Go.Vw

namespace Ss
def smallF:Fn:=⟨⟨[],[127]⟩,[127],[⟨[],[⟨258,0,[],[]⟩,⟨256,5,[],[0]⟩],⟨4,0,[],[0]⟩⟩]⟩
def env0:Env:=⟨[],0,[],[],false⟩
end Ss
namespace Go.Vw
open Go.Proofs Go.RowKit
set_option maxRecDepth 10000
set_option maxHeartbeats 4000000
theorem Reach.nilCell {N b0:Nat} {σ:Fr} {B:Store} {u:Upds} {l:List (Option (Nat × List V))} {k i s:Nat} {cs:List V} (hk:k<l.length) (hck:(l[k]?).join=some (s,cs)) (hi:cs[i]? = some .nils) :
  Reach N b0 σ (St B u l) σ (St B u (l.set k (some (s,cs.set i (.list []))))):=by
 have:=Reach.cell (N:=N) (b0:=b0) (σ:=σ) (o:=lid B.nx k) (i:=i) (s:=s) (cs:=cs) (Ghost.nils_list (St B u l)) (by simp [V.one]) (by rw [jC]; exact hck) hi (by rw [jC]; exact hck);rw [JS hk] at this;exact this
end Go.Vw

namespace Go.Vw
open Go.Proofs Go.RowKit
set_option maxRecDepth 10000
set_option maxHeartbeats 8000000
def NL (x y:V):Prop:=x=y∨(x = .nils∧y = .list [])
theorem Rep.nl {m:Imm} {β:Objs} {x y:V} {v:Value} (h:Rep m β x v) (hn:NL x y):Rep m β y v:=by
 rcases hn with rfl | ⟨rfl,rfl⟩
 ·exact h
 ·cases h with
  | imm h=>cases h with | nils a=>exact .imm (.list0 a 0 (Nat.zero_le _))
theorem Ghost.agg_nl {S:Store} {xs ys:List V} (hl:xs.length=ys.length) (h : ∀ (i:Nat) (x y:V),xs[i]? = some x→ys[i]? = some y→NL x y):Ghost (.agg xs) S (.agg ys) S:=by
 intro m β w v hS hr;obtain ⟨vs,rfl,hl2,hrr,h1⟩:=hr.inv_agg;refine ⟨m,β,hS,Ext.refl _ _ _, .agg ys vs (by omega) (fun i y u hy hu => ?_) h1⟩;have hi:i<xs.length:=by rw [hl]; exact (List.getElem?_eq_some_iff.1 hy).1
 exact (hrr i xs[i] u (List.getElem?_eq_getElem hi) hu).nl (h i _ y (List.getElem?_eq_getElem hi) hy)
end Go.Vw

namespace Ss
def askedO (u:List Bool) (l:List Int):Bool:=l.any fun o=>decide (0≤o)&&(decide (o<u.length)&&u.getD o.toNat false)
end Ss
namespace Go.Vw
open Go.Proofs Go.RowKit
set_option maxRecDepth 10000
set_option maxHeartbeats 2000000
end Go.Vw

namespace Ss
/-! ### Where values are made -/
def zW (l:List Ins):List Int:=l.flatMap fun x=>x.outs
def allB (b:Block):List Int:=b.params++zW b.code
def allL (bs:List Block):List Int:=bs.flatMap allB
abbrev dAt (ds:List Def) (v:Int):Def:=ds.getD v.toNat default
theorem jcs {ds:List Def} {v w:Int} {d:Def} (h0:0≤v) (h1:v<ds.length) (hw:0≤w):dAt (ds.set v.toNat d) w=if w=v then d else dAt ds w:=by
 by_cases h:w=v
 ·subst h;rw [if_pos rfl];simp only [dAt,List.getD_eq_getElem?_getD];rw [List.getElem?_set_self (by omega)]; rfl
 ·rw [if_neg h];simp only [dAt,List.getD_eq_getElem?_getD];rw [List.getElem?_set_ne (by omega)]
structure Puts (l:List Int) (ds d:List Def):Prop where
 nd:l.Nodup
 pos : ∀ v∈l,0≤v
 new : ∀ v∈l,(dAt ds v).made=false
 keep : ∀ w,0≤w→w∉l→dAt d w=dAt ds w
 made : ∀ v∈l,(dAt d v).made=true
theorem Puts.trans {l m:List Int} {ds d d':List Def} (h:Puts l ds d) (k:Puts m d d'):Puts (l++m) ds d':=by
 have hdis : ∀ v∈l,v∉m:=fun v hv hm=>by
  have h1:=k.new v hm;rw [h.made v hv] at h1; cases h1
 refine ⟨List.nodup_append.2 ⟨h.nd,k.nd,fun a ha b hb e=>hdis a ha (e▸hb)⟩,fun v hv => ?_,fun v hv => ?_,fun w h0 hw => ?_,fun v hv => ?_⟩
 ·rcases List.mem_append.1 hv with hv | hv
  ·exact h.pos v hv
  ·exact k.pos v hv
 ·rcases List.mem_append.1 hv with hv | hv
  ·exact h.new v hv
  ·by_cases hl:v∈l
   ·exact absurd hv (hdis v hl)
   ·rw [←h.keep v (k.pos v hv) hl]; exact k.new v hv
 ·simp only [List.mem_append,not_or] at hw;rw [k.keep w h0 hw.2,h.keep w h0 hw.1]
 ·rcases List.mem_append.1 hv with hv | hv
  ·rw [k.keep v (h.pos v hv) (hdis v hv)]; exact h.made v hv
  ·exact k.made v hv
theorem Puts.nil (ds:List Def):Puts [] ds ds:=⟨List.nodup_nil,by simp,by simp,fun _ _ _=>rfl,by simp⟩
theorem KK {block pos:Int} : ∀ {l:List Int} {ds d:List Def},put block pos ds l=some d→Puts l ds d ∧ ∀ v∈l,dAt d v=⟨true,block,pos⟩
 | [],ds,d,h=>by simp only [put,Option.some.injEq] at h; subst h; exact ⟨.nil _,by simp⟩
 | v::l,ds,d,h=>by
  simp only [put] at h;split at h
  ·cases h
  ·rename_i hn;have h0:0≤v:=by omega
   have h1:v<ds.length:=by omega
   have h2:(dAt ds v).made=false:=by
    cases hm:(dAt ds v).made with
    | false=>rfl
    | true=>exact absurd (.inr (.inr hm)) hn
   obtain ⟨k1,k2⟩:=KK h;have hp:Puts [v] ds (ds.set v.toNat ⟨true,block,pos⟩) :=
    ⟨by simp,by simpa using h0,by simpa using h2,fun w hw hnw=>by rw [jcs h0 h1 hw,if_neg (by simpa using hnw)],fun w hw=>by
     obtain rfl:w=v:=by simpa using hw
     rw [jcs h0 h1 h0,if_pos rfl]⟩
   refine ⟨hp.trans k1,fun w hw => ?_⟩
   by_cases hl:w∈l
   ·exact k2 w hl
   ·obtain rfl:w=v:=by simpa [hl] using hw
    rw [k1.keep w h0 hl,jcs h0 h1 h0,if_pos rfl]
theorem JE {i:Int} : ∀ {l:List Ins} {k:Nat} {ds d:List Def},putCode i k ds l=some d→Puts (zW l) ds d ∧ ∀ (j:Nat) (x:Ins),l[j]? = some x → ∀ v∈x.outs,dAt d v=⟨true,i,((k+j:Nat):Int)⟩
 | [],k,ds,d,h=>by simp only [putCode,Option.some.injEq] at h; subst h; exact ⟨.nil _,by simp⟩
 | x::l,k,ds,d,h=>by
  simp only [putCode] at h;obtain ⟨d1,h1,h2⟩:=Option.bind_eq_some_iff.1 h;obtain ⟨p1,q1⟩:=KK h1;obtain ⟨p2,q2⟩:=JE h2;refine ⟨p1.trans p2,fun j y hj v hv => ?_⟩
  cases j with
  | zero =>
   simp only [List.getElem?_cons_zero,Option.some.injEq] at hj;subst hj;have hn:v∉zW l:=fun hm=>by
    have:=p2.new v hm;rw [p1.made v hv] at this; cases this
   rw [p2.keep v (p1.pos v hv) hn,q1 v hv]; rfl
  | succ j =>
   have:=q2 j y (by simpa using hj) v hv;rw [this]; congr 2; omega
theorem JK : ∀ {l:List Block} {i:Nat} {ds d:List Def},putBlocks i ds l=some d→Puts (allL l) ds d ∧ ∀ (j:Nat) (b:Block),l[j]? = some b → ∀ (k:Nat) (x:Ins),b.code[k]? = some x → ∀ v∈x.outs,dAt d v=⟨true,((i+j:Nat):Int),(k:Int)⟩
 | [],i,ds,d,h=>by simp only [putBlocks,Option.some.injEq] at h; subst h; exact ⟨.nil _,by simp⟩
 | b::l,i,ds,d,h=>by
  simp only [putBlocks] at h;obtain ⟨d2,h1,h2⟩:=Option.bind_eq_some_iff.1 h;obtain ⟨d1,h3,h4⟩:=Option.bind_eq_some_iff.1 h1;obtain ⟨p1,_⟩:=KK h3;obtain ⟨p2,q2⟩:=JE h4;obtain ⟨p3,q3⟩:=JK h2;refine ⟨(p1.trans p2).trans p3,fun j y hj k x hk v hv => ?_⟩
  cases j with
  | zero =>
   simp only [List.getElem?_cons_zero,Option.some.injEq] at hj;subst hj;have hm:v∈zW b.code:=List.mem_flatMap.2 ⟨x,List.mem_of_getElem? hk,hv⟩;have hn:v∉allL l:=fun hm'=>by
    have:=p3.new v hm';rw [p2.made v hm] at this; cases this
   rw [p3.keep v (p2.pos v hm) hn,q2 k x hk v hv]; simp
  | succ j =>
   have:=q3 j y (by simpa using hj) k x hk v hv;rw [this]; congr 2; omega
theorem dAt_rep (n:Nat) (v:Int):(dAt (List.replicate n ⟨false,0,0⟩) v).made=false:=by
 simp only [dAt,List.getD_eq_getElem?_getD,List.getElem?_replicate];split<;>rfl
theorem Jf {f:Fn} {ds:List Def} (h:defsOf f=some ds):(allL f.blocks).Nodup∧(∀ v,0≤v→(dAt ds v).made=true→v∈allL f.blocks) ∧ ∀ (i:Nat) (b:Block),f.blocks[i]? = some b → ∀ (k:Nat) (x:Ins),b.code[k]? = some x → ∀ v∈x.outs,dAt ds v=⟨true,(i:Int),(k:Int)⟩:=by
 obtain ⟨p,q⟩:=JK h;refine ⟨p.nd,fun v h0 hm => ?_,fun i b hb k x hx v hv=>by simpa using q i b hb k x hx v hv⟩;refine Classical.byContradiction fun hn => ?_
 rw [p.keep v h0 hn,dAt_rep] at hm
 cases hm
/-! ### Who asks -/
theorem jaC {α:Type} {p:α→α→Bool} : ∀ {l m:List α},Go.Vw.eqF p l m=true → ∀ x∈l, ∃ y,p x y=true
 | [],_,_,x,hx=>by cases hx
 | a::l,[],h,x,hx=>by simp [Go.Vw.eqF] at h
 | a::l,b::m,h,x,hx=>by
  simp only [Go.Vw.eqF,Bool.and_eq_true] at h;rcases List.mem_cons.1 hx with rfl | hx
  ·exact ⟨b,h.1⟩
  ·exact jaC h.2 x hx
theorem zo {e:Env} {f:Fn} {ds:List Def} {near:List Int} {i:Int} : ∀ {l:List Ins} {k j:Nat} {x:Ins},checkCode e f ds near i k l=true→l[j]? = some x→insOk e f ds near i ((k+j:Nat):Int) x=true
 | [],k,j,x,_,hx=>by simp at hx
 | y::l,k,j,x,h,hx=>by
  simp only [checkCode,Bool.and_eq_true] at h
  cases j with
  | zero=>simp only [List.getElem?_cons_zero,Option.some.injEq] at hx; subst hx; exact h.1
  | succ j =>
   have:=zo h.2 (j:=j) (x:=x) (by simpa using hx);rw [show k+(j+1)=k+1+j by omega]; exact this
theorem qG {e:Env} {f:Fn} {ds:List Def} {near:List Int} : ∀ {l:List Block} {i j:Nat} {b:Block},checkBlocks e f ds near i l=true→l[j]? = some b→checkCode e f ds near ((i+j:Nat):Int) 0 b.code=true∧termOk f ds near ((i+j:Nat):Int) b=true
 | [],i,j,b,_,hb=>by simp at hb
 | y::l,i,j,b,h,hb=>by
  simp only [checkBlocks,Bool.and_eq_true] at h
  cases j with
  | zero=>simp only [List.getElem?_cons_zero,Option.some.injEq] at hb; subst hb; exact h.1
  | succ j =>
   have:=qG h.2 (j:=j) (b:=b) (by simpa using hb);rw [show i+(j+1)=i+1+j by omega]; exact this
theorem insOk_asks {e:Env} {f:Fn} {ds:List Def} {near:List Int} {i k:Int} {x:Ins} (h:insOk e f ds near i k x=true):asks f.types ds near i k x.args (form e x.op x.n (insOut f.types x)).inn=true:=by
 simp only [insOk,Bool.and_eq_true] at h;exact h.2
theorem check_spec {e:Env} {f:Fn} (h:check e f=true):checkHead e f=true ∧ ∃ ds,defsOf f=some ds∧shapeOk f=true∧checkBlocks e f ds (Go.Vw.G.nearI (succs f.blocks)) 0 f.blocks=true:=by
 simp only [check,Bool.and_eq_true] at h;refine ⟨h.1, ?_⟩
 cases hd:defsOf f with
 | none=>rw [hd] at h; simp at h
 | some ds =>
  rw [hd] at h;simp only [Bool.and_eq_true] at h;exact ⟨ds,rfl,h.2.1,h.2.2⟩
end Ss
namespace Go.Vw
open Go.Proofs Go.RowKit
end Go.Vw

namespace Ss
def InR (n:Nat) (v:Int):Prop:=0≤v∧v<n
structure DOk (f:Fn):Prop where
 ne:f.blocks≠[]
 outs : ∀ b∈f.blocks, ∀ x∈b.code, ∀ v∈x.outs,InR f.types.length v
 one : ∀ b∈f.blocks, ∀ x∈b.code,pure x.op=true → ∃ o,x.outs=[o]
 args : ∀ b∈f.blocks, ∀ x∈b.code, ∀ v∈x.args,InR f.types.length v
 pars : ∀ b∈f.blocks, ∀ v∈b.params,InR f.types.length v
 targs : ∀ b∈f.blocks, ∀ v∈b.term.args,InR f.types.length v
 targ : ∀ b∈f.blocks,branches b.term=true→InR f.types.length b.term.arg
 eargs : ∀ b∈f.blocks, ∀ e∈b.term.to, ∀ v∈e.args,InR f.types.length v
 etos : ∀ b∈f.blocks, ∀ e∈b.term.to,0≤e.to∧e.to<f.blocks.length∧e.args.length=(f.blocks.getD e.to.toNat default).params.length
 u1 : ∀ b∈f.blocks, ∀ c∈f.blocks, ∀ x∈b.code, ∀ y∈c.code,pure x.op=true→pure y.op=true→x.outs=y.outs→x.args=y.args
 u2 : ∀ b∈f.blocks, ∀ c∈f.blocks, ∀ p∈b.params, ∀ y∈c.code,p∉y.outs
def askIns (t:List (List Int)) (x:Ins):List (List Int):=if pure x.op then t.set (x.outs.getD 0 0).toNat x.args else t
def askPar (t:List (List Int)) (q:Int × Int):List (List Int):=t.set q.1.toNat (t.getD q.1.toNat []++[q.2])
def askEdge (bs:List Block) (t:List (List Int)) (e:Edge):List (List Int):=((bs.getD e.to.toNat default).params.zip e.args).foldl askPar t
def askBlock (bs:List Block) (t:List (List Int)) (b:Block):List (List Int):=b.term.to.foldl (askEdge bs) (b.code.foldl askIns t)
def askTab (f:Fn):List (List Int):=f.blocks.foldl (askBlock f.blocks) (List.replicate f.types.length [])
def Asks (f:Fn) (v u:Int):Prop:=(∃ b∈f.blocks, ∃ x∈b.code,pure x.op=true∧x.outs=[v]∧u∈x.args) ∨ ∃ b∈f.blocks, ∃ e∈b.term.to,(v,u)∈(f.blocks.getD e.to.toNat default).params.zip e.args
end Ss

namespace Go.Vw
open Go.Proofs Go.RowKit
set_option maxRecDepth 10000
set_option maxHeartbeats 2000000
theorem ZA (S:Store) (l:List Int) (hl:l.length≤1048576):VCalls Tryz.prog 75 [vl vint l] S (fun r T=>r = .slice (lid S.nx 0) 0 l.length∧T=St S [] [some (1,l.map vint)]):=by
 refine jb (c:=jg Tryz.f75) Tryz.func75 rfl rfl (by simp [Tryz.ntmps75]) ?_;rw [Tryz.ntmps75];intro hwf
 repeat refine QS ?_
 refine QY ?_
 repeat refine QS ?_
 refine vw_isnil (l:=l.map vint) rfl rfl (by rfl) rfl rfl rfl rfl (by rfl) rfl rfl Tryz.underlying23 rfl ?_;intro b hb;simp only [Fr.set]
 by_cases h:b=true
 ·have hl0:l=[]:=by simpa using hb h
  subst hl0;subst h
  repeat first|refine QG ?_|refine QY ?_
  exact ⟨_,_,(Ghost.nils (St S [] []) 1).toB _,by rw [jQ]; rfl,by rw [Yd]; rfl⟩
 ·have h':b=false:=by simpa using h
  subst h';have hb1:l.length*8≤140737488355328:=by omega
  have hb2:l.length≤140737488355328:=by omega
  repeat first|refine QG ?_|refine QY ?_ (r:=by conv=>lhs;simp[-List.map_set,QV,hb1,hb2,jaj,nc_vint,qI,rep0])
  exact done_gc [1] hwf (by decide) (by simp) (by simp; rfl) (by simp; rfl) ⟨by simp,by simp⟩
theorem Clone_v (l:List Int) (hl:l.length≤1048576):VPure Tryz.prog 75 [vl vint l] (vl vint l):=by
 intro S;refine Jb fun hwf=>zk ((ZA S l hl).mono ?_)
 rintro r T ⟨rfl,rfl⟩;exact ji hwf ((frz1 (k:=0) (by simp) (by rfl) (jG vint (fun _=>rfl) _) (by simp)).toB _) rfl
theorem one_v (v:Int) (to:List Int) (ht:to.length<2^63):VPure Tryz.prog 73 ([vint v]++[.ref (vl vint to)]) (vint (Ss.putv to v)):=by
 intro S;refine jb (c:=jg Tryz.f73) Tryz.func73 rfl rfl (by simp [Tryz.ntmps73]) ?_;rw [Tryz.ntmps73];intro hwf
 by_cases h1:0≤v
 ·obtain ⟨n,rfl⟩ : ∃ n:Nat,v=n:=⟨v.toNat,by omega⟩
  by_cases h2:n<to.length
  ·repeat first|refine QG ?_|refine QY ?_ (r:=by conv=>lhs;simp[-List.map_set,QV,h2])
   exact ja hwf (by simp [Ss.putv,h2]) rfl
  ·repeat first|refine QG ?_|refine QY ?_ (r:=by conv=>lhs;simp[-List.map_set,QV,h2])
   exact ja hwf (by simp [Ss.putv,h2]) rfl
 ·repeat first|refine QG ?_|refine QY ?_ (r:=by conv=>lhs;simp[-List.map_set,QV,h1])
  exact ja hwf (by simp [Ss.putv,h1]) rfl
theorem allO_v (S:Store) (l to:List Int) (ps:Nat) (hps:S.get ps=some (1,[.func 73 [.ref (vl vint to)]])) (hl:l.length≤1048576) (ht:to.length<2^63):VCalls Tryz.prog 74 ([vl vint l]++[.ptr ps 0]) S (fun r T=>r = .slice (lid S.nx 0) 0 l.length∧T=St S [] [some (1,(l.map (Ss.putv to)).map vint)]):=by
 have cp:=fun v=>one_v v to ht
 generalize Ss.putv to=g at *
 refine jb (c:=jg Tryz.f74) Tryz.func74 rfl rfl (by simp [Tryz.ntmps74]) ?_;rw [Tryz.ntmps74];intro hwf;have hpn:=jA hwf hps;have p1:=fun u l => @jt S u l _ hpn
 have pP:=fun ks=>zO (n:=S.nx) ks hpn
 have pT:=fun ks=>zh (n:=S.nx) ks hpn
 repeat refine QS ?_
 refine QY ?_
 repeat refine QS ?_
 refine QY ?_;refine qW 4 1 rfl (by conv=>lhs; simp [Fr.set]) ?_
 repeat first|refine QG ?_|refine QY ?_
 repeat refine QS ?_
 refine je [1,4,7,8,9] rfl (fun c σ S' => ∃ (k:Nat) (out:List Int),k≤l.length∧c=l.length-k∧out=(l.take k).map g∧out.length=k∧σ=[(1, .ptr ps 0),(4, .slice (lid S.nx 0) 0 k),(7,vl vint l),(8,vnat l.length),(9,vnat k)]∧S'=St S [] [some (1,out.map vint)]) l.length ?_ ?_
 ·exact ⟨0,[],by omega,rfl,by simp,rfl,by simp [Fr.only],by simp⟩
 ·rintro c σ T ⟨k,out,hk,rfl,ho,hlen,rfl,rfl⟩
  by_cases hkt:k<l.length
  ·have hw:=jo hkt (by omega);have cpk:=cp l[k];have htk:(l.take (k+1)).map g=(l.take k).map g++[g l[k]]:=by rw [List.take_add_one,List.getElem?_eq_getElem hkt,List.map_append]; rfl
   generalize g l[k]=gv at *
   have hb:(k+1)*8≤140737488355328:=by omega
   have hb':k+1≤140737488355328:=by omega
   repeat first|refine QG ?_|refine QY ?_ (r:=by conv=>lhs;simp[-List.map_set,QV,hkt])
   repeat refine QS ?_
   refine QP ?_ (r:=by conv=>lhs;simp[-List.map_set,QV,hkt,p1,hps]);refine ZK (cpk) (by rfl) (by rfl) (by rfl) ?_;refine QM (by conv=>lhs;simp[-List.map_set,QV,hb,hb',hlen]) ?_;refine QN ?_
   repeat first|refine QG ?_|refine QY ?_ (r:=by conv=>lhs;simp[-List.map_set,QV,hb,hb',hlen,hw])
   refine jS [2] (by conv=>lhs; simp [Fr.only]) hwf (by decide) (by simp [-List.map_set,pP,pT]) (by conv=>lhs; simp [-List.map_set,pP,pT]) (by conv=>lhs; simp [-List.map_set,pP,pT]) (by conv=>lhs; simp [-List.map_set,pP,pT]) ⟨?_,k+1,out++[gv],hkt,rfl,by rw [htk,ho],by simp [hlen],by simp [hw],by simp⟩;omega
  ·have hke:k=l.length:=by omega
   subst hke;rw [List.take_length] at ho
   repeat first|refine QG ?_|refine QY ?_ (r:=by conv=>lhs;simp[-List.map_set,QV,hkt])
   rw [←ho];exact zm ⟨by simp,rfl⟩
end Go.Vw
