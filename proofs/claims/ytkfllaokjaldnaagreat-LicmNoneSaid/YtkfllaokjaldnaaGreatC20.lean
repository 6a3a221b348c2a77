import Derived.Test.YtkfllaokjaldnaaGreatC16
import Derived.Test.YtkfllaokjaldnaaGreatC19
import Derived.Test.YtkfllaokjaldnaaGreatC17
/-
  Part of the proof (texts SShape, SNum, SNum2, SMem).
-/
set_option linter.unusedVariables false
set_option linter.unusedSimpArgs false
namespace Ss
open Go.Vw in
/-- Are a function's blocks all reached, and is there no circle without a tick? -/
def shapeOk (f:Fn):Bool :=
 G.right (succs f.blocks)&&decide ((G.ordI (succs f.blocks)).length=f.blocks.length) && !rings f.blocks (G.nats (succs f.blocks))&&decide (typesOf f.types (f.blocks.getD 0 default).params=f.sig.inn) &&
  match (f.blocks.getD 0 default).code with
  | x::_=>decide (x.op=258)
  | []=>false
end Ss
namespace Go.Vw
open Go.Proofs Go.RowKit
set_option maxRecDepth 10000
set_option maxHeartbeats 4000000
theorem typesO_v (S:Store) (e:Ss.Env) (f:Ss.Fn) (dv nv:V) (ck:Nat) (l:List Int) (hc:S.get ck=some (11,ckC e f dv nv)) (hl:l.length≤1048576) (hv:Ss.InTs f.types.length l) :
  VCalls Tryz.prog 107 [.ptr ck 0,vl vint l] S (fun r T=>r=vl vint (Ss.typesOf f.types l)∧T=S):=by
 obtain ⟨⟨fi,fo⟩,ts,bs⟩:=f
 simp only at hv ⊢
 generalize hg:(fun v:Int=>ts.getD v.toNat 0)=g
 have hX:Ss.typesOf ts l=l.map g:=by rw [Ss.typesOf,hg]
 rw [hX]
 refine jb (c:=jf Tryz.f107) Tryz.func107 rfl rfl (by simp [Tryz.ntmps107]) ?_
 rw [Tryz.ntmps107]
 intro hwf
 have hcn:=jV hwf hc
 have oc:=fun u l => @jy S u l ck hcn
 have gp:=fun ks=>zC (n:=S.nx) ks hcn
 have gt:=fun ks=>zd (n:=S.nx) ks hcn
 repeat refine QS ?_
 refine QP ?_
 refine QN ?_
 repeat refine QS ?_
 refine QP ?_
 refine QN ?_
 refine qP 5 1 rfl (by conv=>lhs; simp [Fr.set]) ?_
 repeat (first|refine QG ?_|refine QY ?_)
 repeat refine QS ?_
 refine jd [0,5,8,9,10] rfl (fun c σ S' => ∃ (k:Nat) (out:List Int),k≤l.length∧c=l.length-k∧out=(l.take k).map g∧out.length=k∧σ=[(0, .ptr ck 0),(5, .slice (lid S.nx 0) 0 k),(8,vl vint l),(9,vnat l.length),(10,vnat k)]∧S'=St S [] [some (1,out.map vint)]) l.length ?_ ?_
 ·exact ⟨0,[],by omega,rfl,by simp,rfl,by simp [Fr.only],by simp⟩
 ·rintro c σ T ⟨k,out,hk,rfl,ho,hlen,rfl,rfl⟩
  by_cases hkt:k<l.length
  ·have hw:=jn hkt (by omega)
   obtain ⟨h0,h1⟩:=hv _ (List.getElem_mem hkt)
   obtain ⟨v,hx⟩ : ∃ v,l[k]=v:=⟨_,rfl⟩
   rw [hx] at h0 h1
   obtain ⟨n,rfl⟩ : ∃ n:Nat,v=n:=⟨v.toNat,by omega⟩
   have hn:n<ts.length:=by omega
   have hgn:g (n:Int)=ts[n]:=by rw [←hg]; simp [hn]
   have htk:l.take (k+1)=l.take k++[(n:Int)]:=by rw [List.take_add_one,List.getElem?_eq_getElem hkt,hx]; rfl
   have hb:(k+1)*8≤140737488355328:=by omega
   have hb':k+1≤140737488355328:=by omega
   repeat (first|refine QG ?_|refine QY ?_ (r:=by conv=>lhs;simp[-List.map_set,QV,hkt,hx,hn,hlen,hb,hb',oc,hc]))
   refine jT [2] (by conv=>lhs; simp [Fr.only]) hwf (by decide) (by simp [-List.map_set,gp,gt]) (by conv=>lhs; simp [-List.map_set,gp,gt]) (by conv=>lhs; simp [-List.map_set,gp,gt]) (by conv=>lhs; simp [-List.map_set,gp,gt]) ⟨?_,k+1,out++[ts[n]],hkt,rfl,by rw [htk,List.map_append,ho]; simp [hgn],by simp [hlen],by simp [hw],by simp⟩
   omega
  ·have hke:k=l.length:=by omega
   subst hke
   rw [List.take_length] at ho
   repeat (first|refine QG ?_|refine QY ?_ (r:=by conv=>lhs;simp[-List.map_set,QV,hkt]))
   rw [←ho]
   exact jh hwf ((frz1 (by simp) (by rfl) (jF vint (fun _=>rfl) _) (by simpa using hlen)).toB _) rfl
theorem vcall_useZ {P:Program} {Z:Store} {σ:Fr} {S:Store} {K:Fr→Store→Prop} {d:Option Nat} {f:FuncId} {args:List Arg} {xs:List V} {r:List CO} {X:V} (h:jbh P Z f xs X) (ha:args.map (ev σ)=xs) (H:jP P (some (ZZ.plain Z)) r K (σ.put d X) S):jP P (some (ZZ.plain Z)) (⟨d,none, .call f args⟩::r) K σ S:=by
 rw [WM,ha]
 have hw : ¬ wrcL (ZZ.plain Z).es d=true:=by cases d<;>simp [wrcL,ZZ.plain]
 show Jf P (some (ZZ.plain Z)) d f xs S _
 simp only [Jf]
 rw [if_neg hw]
 refine ⟨X, ?_,H⟩
 have e:(ZZ.plain Z).early d=false:=by cases d<;>simp [ZZ.early,ZZ.plain]
 rw [e]
 exact h
theorem shape_v (S:Store) (e:Ss.Env) (f:Ss.Fn) (ck od:Nat) (hf:f.Fits) (hsm:f.small=true) (hc:S.get ck=some (11,ckC e f (.slice od 0 f.types.length) .nils)) (hod:od<S.nx)
  (hps : ∀ b∈f.blocks,Ss.InTs f.types.length b.params) :
  VCalls Tryz.prog 70 [.ptr ck 0] S (fun r T => ∃ nv:V,nv.closed1=true∧r = .bool (Ss.shapeOk f)∧(Ss.shapeOk f=true→nv=vl vint (G.nearI (Ss.succs f.blocks)))∧T=S.upd ck (11,ckC e f (.slice od 0 f.types.length) nv)):=by
 have csu:=Succ_v f hf
 rw [if_pos hsm] at csu
 obtain ⟨hst,hsb,hsf,_⟩:=jZ hsm
 have hcode : ∀ b∈f.blocks,b.code.length<2^63:=fun b hb=>by have:=(hsf b hb).2.2.2; omega
 have hgf:Fits (Ss.succs f.blocks):=by
  refine ⟨by simp [Ss.succs]; omega,fun l hl => ?_⟩
  obtain ⟨b,hb,rfl⟩:=List.mem_map.1 hl
  have:=(hsf b hb).2.1
  simp [Ss.rowOf]; omega
 have hgl:(Ss.succs f.blocks).length=f.blocks.length:=by simp [Ss.succs]
 have co:=OrderAll_v _ hgf
 have cn:=Kt _ hgf
 have hol:=ordI_len (Ss.succs f.blocks)
 have cr:G.right (Ss.succs f.blocks)=true→VPure Tryz.prog 105 [qW f,vl (vl vint) (Ss.succs f.blocks)] (.bool (Ss.rings f.blocks (G.nats (Ss.succs f.blocks)))):=by
  intro hr
  have hok:=G.right_ok hr
  rw [G.right_enc hr]
  have hnl:(G.nats (Ss.succs f.blocks)).length=f.blocks.length:=by rw [←hgl]; simp [G.nats]
  exact rings_v f _ hnl (by have:=hok.max; omega) (fun r hr'=>⟨by have:=hok.row r hr'; omega,fun k hk=>hok.elt r hr' k hk⟩) hcode
 generalize hsu:Ss.succs f.blocks=g at *
 have hX:Ss.shapeOk f=(G.right g&&decide ((G.ordI g).length=f.blocks.length) && !Ss.rings f.blocks (G.nats g)&&decide (Ss.typesOf f.types (f.blocks.getD 0 default).params=f.sig.inn) &&
  match (f.blocks.getD 0 default).code with
  | x::_=>decide (x.op=258)
  | []=>false):=by rw [Ss.shapeOk,hsu]
 generalize Ss.shapeOk f=X at *
 generalize hrg:Ss.rings f.blocks (G.nats g)=rg at *
 have hil:f.sig.inn.length<2^63:=by have:=hf.1.1.1; omega
 obtain ⟨⟨fi,fo⟩,ts,bs⟩:=f
 simp only at *
 have csu':VPure Tryz.prog 26 [.agg [vl vint fi,vl vint fo,vl vint ts,vl je bs]] (vl (vl vint) g):=csu
 obtain ⟨sg,im,gl,mu,me⟩:=e
 refine jb (c:=jf Tryz.f70) Tryz.func70 rfl rfl (by simp [Tryz.ntmps70]) ?_
 rw [Tryz.ntmps70]
 intro hwf
 have hcn:=jV hwf hc
 have oc:=fun u l => @jy S u l ck hcn
 have hupd:=fun u l c => @Jn S u l c ck hcn
 have gp:=fun ks=>zC (n:=S.nx) ks hod
 have gt:=fun ks=>zd (n:=S.nx) ks hod
 rw [WH hc]
 have fin : ∀ (nv:V) (l:List (Option (Nat × List V))) (r:V),nv.closed1=true→r = .bool X→(X=true→nv=vl vint (G.nearI g)) →
   YQ S.nx (fun r T => ∃ nv:V,nv.closed1=true∧r = .bool X∧(X=true→nv=vl vint (G.nearI g))∧T=S.upd ck (11,ckC ⟨sg,im,gl,mu,me⟩ ⟨⟨fi,fo⟩,ts,bs⟩ (.slice od 0 ts.length) nv)) r (St S [(ck,some (11,ckC ⟨sg,im,gl,mu,me⟩ ⟨⟨fi,fo⟩,ts,bs⟩ (.slice od 0 ts.length) nv))] l):=by
  rintro nv l r k1 rfl k2
  have e1 : ∀ p,nv.ids p=true:=fun p=>by cases nv<;>first | rfl | (simp [V.closed1] at k1; done) | (simp [V.ids]; done)
  have e2 : ∀ q,nv.ren q=nv:=fun q=>by cases nv<;>first | rfl | (simp [V.closed1] at k1; done) | (simp [V.ren]; done)
  refine JP (X := .bool X) (S':=S.upd ck (11,ckC ⟨sg,im,gl,mu,me⟩ ⟨⟨fi,fo⟩,ts,bs⟩ (.slice od 0 ts.length) nv)) hwf rfl rfl (by simp [Kn,jaw,e1,gp]) ?_ ⟨nv,k1,rfl,k2,rfl⟩
  simp only [gcU,gcE,Option.map_some]
  rw [jbZ hwf hcn]
  simp [e2,gt]
 repeat refine QS ?_
 refine QP ?_
 refine QN ?_
 repeat refine QS ?_
 refine QP ?_ (r:=by conv=>lhs;simp[-List.map_set,QV,oc,hc])
 refine jc (csu') (by rfl) ?_
 refine QM (by conv=>lhs;simp[-List.map_set,QV]) ?_
 refine QN ?_
 repeat refine QS ?_
 refine QP ?_
 refine jc (co) (by rfl) ?_
 by_cases hr:G.right g=true
 case neg =>
  have he:G.err g=1:=by simp [G.err,hr]
  have hX0:X=false:=by rw [hX]; simp [hr]
  refine QM (by conv=>lhs;simp[-List.map_set,QV,he]) ?_
  refine QN ?_
  repeat (first|refine QG ?_|refine QY ?_ (r:=by conv=>lhs;simp[-List.map_set,QV,he]))
  exact fin .nils _ _ rfl (by simp [hX0]) (by simp [hX0])
 have he:G.err g=0:=by simp [G.err,hr]
 have cr1:=cr hr
 have cr':VPure Tryz.prog 105 [.agg [vl vint fi,vl vint fo,vl vint ts,vl je bs],vl (vl vint) g] (.bool rg):=cr1
 by_cases hl:(G.ordI g).length=g.length
 case neg =>
  have hl' : ¬ ((G.ordI g).length:Int)=(g.length:Int):=by omega
  have hX0:X=false:=by
   rw [hX,show decide ((G.ordI g).length=bs.length)=false by simp; omega]; simp
  refine QM (by conv=>lhs;simp[-List.map_set,QV,he]) ?_
  refine QN ?_
  repeat (first|refine QG ?_|refine QY ?_ (r:=by conv=>lhs;simp[-List.map_set,QV,he,hl,hl']))
  exact fin .nils _ _ rfl (by simp [hX0]) (by simp [hX0])
 have hl':((G.ordI g).length:Int)=(g.length:Int):=by omega
 refine QM (by conv=>lhs;simp[-List.map_set,QV,he]) ?_
 refine QN ?_
 repeat (first|refine QG ?_|refine QY ?_ (r:=by conv=>lhs;simp[-List.map_set,QV,he,hl,hl',oc]))
 repeat refine QS ?_
 refine QP ?_ (r:=by conv=>lhs;simp[-List.map_set,QV,he,hl,hl',oc])
 refine jc (cr') (by rfl) ?_
 by_cases hrt:rg=true
 ·have hX0:X=false:=by rw [hX,hrt]; simp
  refine QM (by conv=>lhs;simp[-List.map_set,QV,hrt]) ?_
  refine QN ?_
  repeat (first|refine QG ?_|refine QY ?_)
  exact fin .nils _ _ rfl (by simp [hX0]) (by simp [hX0])
 have hrt':rg=false:=by simpa using hrt
 rw [hr,hrt',show decide ((G.ordI g).length=bs.length)=true by simp; omega] at hX
 simp only [Bool.true_and,Bool.not_false] at hX
 refine QM (by conv=>lhs;simp[-List.map_set,QV,hrt']) ?_
 refine QN ?_
 repeat (first|refine QG ?_|refine QY ?_)
 repeat refine QS ?_
 refine QP ?_
 refine jc (cn) (by rfl) ?_
 refine QM (by conv=>lhs;simp[-List.map_set,QV,oc,hupd]) ?_
 refine QN ?_
 have hbp:0<bs.length:=by
  have h1:=(G.right_ok hr).pos
  simp only [G.nats_length] at h1
  omega
 obtain ⟨⟨ps,code,⟨tk,ta,to,az⟩⟩,hb0⟩ : ∃ b,bs[0]? = some b:=⟨bs[0],List.getElem?_eq_getElem hbp⟩
 have hbm:=List.mem_of_getElem? hb0
 have hbd:bs.getD 0 default=⟨ps,code,⟨tk,ta,to,az⟩⟩:=by rw [List.getD_eq_getElem?_getD,hb0]; rfl
 have hpl:=(hsf _ hbm).1
 have hpi:=hps _ hbm
 rw [hbd] at hX
 simp only at hX hpl hpi
 repeat (first|refine QG ?_|refine QY ?_ (r:=by conv=>lhs;simp[-List.map_set,QV,oc,hb0]))
 have hcl:=(hsf _ hbm).2.2.2
 simp only at hcl
 have hZ:(St S [(ck,some (11,ckC ⟨sg,im,gl,mu,me⟩ ⟨⟨fi,fo⟩,ts,bs⟩ (.slice od 0 ts.length) (vl vint (G.nearI g))))] [some (6,[vl vint ps,vl jt code, .int .i64 tk, .int .i64 ta,vl jq to,vl vint az])]).get ck=some (11,ckC ⟨sg,im,gl,mu,me⟩ ⟨⟨fi,fo⟩,ts,bs⟩ (.slice od 0 ts.length) (vl vint (G.nearI g))):=by rw [oc]; simp [uGet]
 have ctz:jbh Tryz.prog (St S [(ck,some (11,ckC ⟨sg,im,gl,mu,me⟩ ⟨⟨fi,fo⟩,ts,bs⟩ (.slice od 0 ts.length) (vl vint (G.nearI g))))] [some (6,[vl vint ps,vl jt code, .int .i64 tk, .int .i64 ta,vl jq to,vl vint az])]) 107 [.ptr ck 0,vl vint ps] (vl vint (Ss.typesOf ts ps)):=fun T hT=>typesO_v T ⟨sg,im,gl,mu,me⟩ ⟨⟨fi,fo⟩,ts,bs⟩ _ _ ck ps (hT _ _ hZ) (by omega) hpi
 have ceq:=Equal_v (Ss.typesOf ts ps) fi (by simp [Ss.typesOf]; omega)
 repeat refine QS ?_
 refine QD (r:=by conv=>lhs;simp[-List.map_set,QV,oc]) (k:=?_)
 refine vcall_useZ ctz (by rfl) ?_
 refine QM (by conv=>lhs;simp[-List.map_set,QV,oc]) ?_
 refine jc (ceq) (by rfl) ?_
 by_cases ht:Ss.typesOf ts ps=fi
 case neg =>
  have hX0:X=false:=by rw [hX]; simp [ht]
  refine QM (by conv=>lhs;simp[-List.map_set,QV,ht]) ?_
  refine QN ?_
  repeat (first|refine QG ?_|refine QY ?_)
  exact fin _ _ _ rfl (by simp [hX0]) (by simp [hX0])
 rw [decide_eq_true ht,Bool.true_and] at hX
 cases code with
 | nil =>
  have hX0:X=false:=by rw [hX]
  refine QM (by conv=>lhs;simp[-List.map_set,QV,ht]) ?_
  refine QN ?_
  repeat (first|refine QG ?_|refine QY ?_)
  exact fin _ _ _ rfl (by simp [hX0]) (by simp [hX0])
 | cons x r =>
  obtain ⟨xo,xn,xa,xu⟩:=x
  have hpos:(0:Int)<(r.length:Int)+1:=by omega
  by_cases h8:xo=258
  ·have hX0:X=true:=by rw [hX]; simp [h8]
   refine QM (by conv=>lhs;simp[-List.map_set,QV,ht,hpos,h8]) ?_
   refine QN ?_
   repeat (first|refine QG ?_|refine QY ?_)
   exact fin _ _ _ rfl (by simp [hX0]) (by simp)
  ·have hX0:X=false:=by rw [hX]; simp [h8]
   refine QM (by conv=>lhs;simp[-List.map_set,QV,ht,hpos,h8]) ?_
   refine QN ?_
   repeat (first|refine QG ?_|refine QY ?_)
   exact fin _ _ _ rfl (by simp [hX0]) (by simp [hX0])
end Go.Vw

namespace Ss
structure Grp where
 first:Int
 many:Int
 kind:Int
 ty:Int
deriving DecidableEq,Inhabited
def groups:List Grp:=[⟨69,1,0,127⟩,⟨70,10,1,127⟩,⟨80,1,0,126⟩,⟨81,10,1,126⟩,⟨103,3,2,127⟩,⟨106,15,3,127⟩,⟨121,3,2,126⟩,⟨124,15,3,126⟩,⟨167,1,4,126⟩,⟨172,2,5,127⟩,⟨192,2,6,127⟩,⟨194,3,6,126⟩]
def Grp.has (op:Int) (g:Grp):Bool:=decide (g.first≤op)&&decide (op-g.first<g.many)
def findIn (op:Int):List Grp→Option Grp
 | []=>none
 | g::gs=>if g.has op then some g else findIn op gs
def find (op:Int):Option Grp:=findIn op groups
theorem Yi {op:Int} {g:Grp} : ∀ {gs:List Grp},findIn op gs=some g→g∈gs∧g.has op=true
 | [],h=>by simp [findIn] at h
 | x::xs,h=>by
  simp only [findIn] at h
  split at h
  ·rename_i hx; cases h; exact ⟨by simp,hx⟩
  ·obtain ⟨h1,h2⟩:=Yi h; exact ⟨by simp [h1],h2⟩
def division (k:Int):Bool:=decide (3≤k)&&decide (k≤6)
def total (op:Int):Bool:=match find op with
 | some g => !(decide (g.kind=3)&&division (op-g.first))
 | none=>false
def pure (op:Int):Bool:=decide (op=256)||decide (op=27)||total op
def Grp.ins (g:Grp):List Int:=if g.kind=1∨g.kind=3 then [g.ty,g.ty] else [g.ty]
def Grp.out (g:Grp):Int:=if g.kind=0∨g.kind=1∨g.kind=4 then 127 else if g.kind=5 then 126 else g.ty
def numSig (op:Int):List Int × Int × Bool:=match find op with
 | some g=>(g.ins,g.out,true)
 | none=>([],0,false)
end Ss
namespace Go.Vw
open Go.Proofs Go.RowKit
set_option maxRecDepth 10000
set_option maxHeartbeats 2000000
def YG (g:Ss.Grp):V := .agg [vint g.first,vint g.many,vint g.kind,vint g.ty]
theorem encGrp_eq (g:Ss.Grp):YG g = .agg [vint g.first,vint g.many,vint g.kind,vint g.ty]:=nr rfl
theorem encGrp_nc (g:Ss.Grp):(YG g).ncells=4:=nr rfl
theorem jbQ (g:Ss.Grp):(YG g).closed=true:=rfl
attribute [simp] encGrp_eq encGrp_nc
theorem groups_v:VPure Tryz.prog 140 [] (vl YG Ss.groups):=by
 intro S
 refine jb (c:=jf Tryz.f140) Tryz.func140 rfl rfl (by simp [Tryz.ntmps140]) ?_
 rw [Tryz.ntmps140]
 intro hwf
 have hr:rep0 [V.int .i64 0, .int .i64 0, .int .i64 0, .int .i64 0] 12=[.int .i64 0, .int .i64 0, .int .i64 0, .int .i64 0, .int .i64 0, .int .i64 0, .int .i64 0, .int .i64 0, .int .i64 0, .int .i64 0, .int .i64 0, .int .i64 0, .int .i64 0, .int .i64 0, .int .i64 0, .int .i64 0, .int .i64 0, .int .i64 0, .int .i64 0, .int .i64 0, .int .i64 0, .int .i64 0, .int .i64 0, .int .i64 0, .int .i64 0, .int .i64 0, .int .i64 0, .int .i64 0, .int .i64 0, .int .i64 0, .int .i64 0, .int .i64 0, .int .i64 0, .int .i64 0, .int .i64 0, .int .i64 0, .int .i64 0, .int .i64 0, .int .i64 0, .int .i64 0, .int .i64 0, .int .i64 0, .int .i64 0, .int .i64 0, .int .i64 0, .int .i64 0, .int .i64 0, .int .i64 0]:=rfl
 repeat (first|refine QG ?_|refine QY ?_ (r:=by conv=>lhs;simp[-List.map_set,QV,hr]))
 exact jh (l:=[none]) hwf (Ghost.toB (frzSt (k:=0) (enc:=YG) (s:=4) (fun _=>rfl) jbQ Ss.groups (by simp) (by rfl)) _) rfl
def findV (op:Int):Option Ss.Grp→V
 | some g => .tuple [YG g,vint (op-g.first), .bool true]
 | none => .tuple [YG ⟨0,0,0,0⟩,vint 0, .bool false]
theorem find_v (op:Int) (ho:Ss.I64 op):VPure Tryz.prog 117 [vint op] (findV op (Ss.find op)):=by
 intro S
 have hgs : ∀ g∈Ss.groups,0≤g.first∧g.first≤1000∧0≤g.many∧g.many≤1000:=by decide
 have hlen:Ss.groups.length=12:=rfl
 have cg:=groups_v
 unfold Ss.find
 generalize Ss.groups=gs at *
 obtain ⟨ho1,ho2⟩:=ho
 refine zp (c:=jf Tryz.f117) Tryz.func117 rfl (by conv=>lhs; reduce) (by simp [Tryz.ntmps117]) ?_
 rw [Tryz.ntmps117]
 intro hwf
 repeat (first|refine QG ?_|refine QY ?_)
 repeat refine QS ?_
 refine QP ?_
 refine jc (cg) (by rfl) ?_
 refine QM (by conv=>lhs;simp[-List.map_set,QV]) ?_
 refine QN ?_
 repeat (first|refine QG ?_|refine QY ?_)
 repeat refine QS ?_
 refine jd [0,2,7,8,9] rfl (fun c σ S' => ∃ (k:Nat),k≤gs.length∧c=gs.length-k∧Ss.findIn op (gs.drop k)=Ss.findIn op gs∧σ=[(0,vint op),(2, .ptr (lid S.nx 0) 0),(7,vl YG gs),(8,vnat gs.length),(9,vnat k)]∧S'=St S [] [some (4,[.int .i64 0, .int .i64 0, .int .i64 0, .int .i64 0])]) gs.length ?_ ?_
 ·exact ⟨0,by omega,rfl,rfl,by simp [Fr.only],rfl⟩
 ·rintro c σ T ⟨k,hk,rfl,hd,rfl,rfl⟩
  by_cases hkt:k<gs.length
  ·have hw:=jn hkt (by omega)
   have hst:Ss.findIn op (gs.drop k)=if gs[k].has op then some gs[k] else Ss.findIn op (gs.drop (k+1)):=by rw [List.drop_eq_getElem_cons hkt,Ss.findIn]
   have hgk:=hgs _ (List.getElem_mem hkt)
   obtain ⟨⟨g1,g2,g3,g4⟩,hx⟩ : ∃ g,gs[k]=g:=⟨_,rfl⟩
   rw [hx] at hst hgk
   simp only at hgk
   by_cases h1:g1≤op
   ·have hws:IntKind.i64.wrap (op-g1)=op-g1:=wrap_i64 (by omega) (by omega)
    by_cases h2:op-g1<g2
    ·have hst':Ss.findIn op gs=some ⟨g1,g2,g3,g4⟩:=by rw [←hd,hst]; simp [Ss.Grp.has,h1,h2]
     rw [hst']
     repeat (first|refine QG ?_|refine QY ?_ (r:=by conv=>lhs;simp[-List.map_set,QV,hkt,hx,h1,h2,hws]))
     repeat refine QS ?_
     refine jQ (St S [] [none,some (4,[.int .i64 g1, .int .i64 g2, .int .i64 g3, .int .i64 g4])]) (St S [] [none,some (4,[.int .i64 g1, .int .i64 g2, .int .i64 g3, .int .i64 g4])]) [] rfl (by kernel_rfl) (by conv=>lhs; reduce) (by conv=>lhs; reduce) (by kernel_rfl) (by kernel_rfl) (jG (by simp [subU,shpU,subL,shpL])) (by conv=>lhs; simp [-List.map_set,QV,hws]) ?_
     refine jg rfl (by conv=>lhs;simp[-List.map_set,QV]) (jG (by simp [subU,shpU,subL,shpL])) ?_
     refine QM (by conv=>lhs;simp[-List.map_set,QV,hws]) ?_
     refine QN ?_
     repeat (first|refine QG ?_|refine QY ?_)
     exact doneC (by simp; rfl) (ja hwf (by simp [findV]) rfl)
    ·rw [show Ss.Grp.has op ⟨g1,g2,g3,g4⟩=false by simp [Ss.Grp.has,h1,h2]] at hst
     repeat (first|refine QG ?_|refine QY ?_ (r:=by conv=>lhs;simp[-List.map_set,QV,hkt,hx,h1,h2,hws]))
     refine QA [0] (h:=⟨?_,k+1,hkt,rfl,by rw [←hd,hst]; rfl,by simp [hw],rfl⟩)
     omega
   ·rw [show Ss.Grp.has op ⟨g1,g2,g3,g4⟩=false by simp [Ss.Grp.has,h1]] at hst
    repeat (first|refine QG ?_|refine QY ?_ (r:=by conv=>lhs;simp[-List.map_set,QV,hkt,hx,h1]))
    refine QA [0] (h:=⟨?_,k+1,hkt,rfl,by rw [←hd,hst]; rfl,by simp [hw],rfl⟩)
    omega
  ·have e:gs.drop k=[]:=by rw [List.drop_eq_nil_iff]; omega
   rw [e] at hd
   have hd':Ss.findIn op gs=none:=by rw [←hd]; rfl
   rw [hd']
   repeat (first|refine QG ?_|refine QY ?_ (r:=by conv=>lhs;simp[-List.map_set,QV,hkt]))
   exact doneC (by simp; rfl) (ja hwf (by simp [findV]) rfl)
end Go.Vw

namespace Go.Vw
open Go.Proofs Go.RowKit
set_option maxRecDepth 10000
set_option maxHeartbeats 2000000
theorem division_v (k:Int):VPure Tryz.prog 118 [vint k] (.bool (Ss.division k)):=by
 intro S
 refine jb (c:=jf Tryz.f118) Tryz.func118 rfl rfl (by simp [Tryz.ntmps118]) ?_
 rw [Tryz.ntmps118]
 intro hwf
 by_cases h:3≤k
 ·by_cases h2:k≤6
  ·repeat (first|refine QG ?_|refine QY ?_ (r:=by conv=>lhs;simp[-List.map_set,QV,h,h2]))
   exact ja hwf (by simp [Ss.division,h,h2]) rfl
  ·repeat (first|refine QG ?_|refine QY ?_ (r:=by conv=>lhs;simp[-List.map_set,QV,h,h2]))
   exact ja hwf (by simp [Ss.division,h2]) rfl
 ·repeat (first|refine QG ?_|refine QY ?_ (r:=by conv=>lhs;simp[-List.map_set,QV,h]))
  exact ja hwf (by simp [Ss.division,h]) rfl
theorem Total_v (op:Int) (ho:Ss.I64 op):VPure Tryz.prog 83 [vint op] (.bool (Ss.total op)):=by
 intro S
 have cf:=find_v op ho
 unfold Ss.total
 cases hf:Ss.find op with
 | none =>
  rw [hf] at cf
  have cf':VPure Tryz.prog 117 [vint op] (.tuple [.agg [.int .i64 0, .int .i64 0, .int .i64 0, .int .i64 0], .int .i64 0, .bool false]):=cf
  refine jb (c:=jf Tryz.f83) Tryz.func83 rfl rfl (by simp [Tryz.ntmps83]) ?_
  rw [Tryz.ntmps83]
  intro hwf
  repeat (first|refine QG ?_|refine QY ?_)
  repeat refine QS ?_
  refine QP ?_
  refine jc (cf') (by rfl) ?_
  refine QM (by conv=>lhs;simp[-List.map_set,QV]) ?_
  refine QN ?_
  repeat (first|refine QG ?_|refine QY ?_)
  exact ja hwf (by simp) rfl
 | some g =>
  rw [hf] at cf
  obtain ⟨g1,g2,g3,g4⟩:=g
  have cf':VPure Tryz.prog 117 [vint op] (.tuple [.agg [.int .i64 g1, .int .i64 g2, .int .i64 g3, .int .i64 g4], .int .i64 (op-g1), .bool true]):=cf
  have cd:=division_v (op-g1)
  simp only
  generalize Ss.division (op-g1)=dv at *
  refine jb (c:=jf Tryz.f83) Tryz.func83 rfl rfl (by simp [Tryz.ntmps83]) ?_
  rw [Tryz.ntmps83]
  intro hwf
  repeat (first|refine QG ?_|refine QY ?_)
  repeat refine QS ?_
  refine QP ?_
  refine jc (cf') (by rfl) ?_
  refine QM (by conv=>lhs;simp[-List.map_set,QV]) ?_
  refine QN ?_
  by_cases h3:g3=3
  ·repeat (first|refine QG ?_|refine QY ?_ (r:=by conv=>lhs;simp[-List.map_set,QV,h3]))
   repeat refine QS ?_
   refine QP ?_ (r:=by conv=>lhs;simp[-List.map_set,QV,h3])
   refine jc (cd) (by rfl) ?_
   refine QM (by conv=>lhs;simp[-List.map_set,QV]) ?_
   refine QN ?_
   repeat (first|refine QG ?_|refine QY ?_)
   exact ja hwf (by simp [h3]) rfl
  ·repeat (first|refine QG ?_|refine QY ?_ (r:=by conv=>lhs;simp[-List.map_set,QV,h3]))
   exact ja hwf (by simp [h3]) rfl
theorem Pure_v (op:Int) (ho:Ss.I64 op):VPure Tryz.prog 31 [vint op] (.bool (Ss.pure op)):=by
 intro S
 have ct:=Total_v op ho
 unfold Ss.pure
 generalize Ss.total op=x at *
 refine jb (c:=jf Tryz.f31) Tryz.func31 rfl rfl (by simp [Tryz.ntmps31]) ?_
 rw [Tryz.ntmps31]
 intro hwf
 by_cases h1:op=256
 ·repeat (first|refine QG ?_|refine QY ?_ (r:=by conv=>lhs;simp[-List.map_set,QV,h1]))
  exact ja hwf (by simp [h1]) rfl
 by_cases h2:op=27
 ·repeat (first|refine QG ?_|refine QY ?_ (r:=by conv=>lhs;simp[-List.map_set,QV,h1,h2]))
  exact ja hwf (by simp [h2]) rfl
 repeat (first|refine QG ?_|refine QY ?_ (r:=by conv=>lhs;simp[-List.map_set,QV,h1,h2]))
 repeat refine QS ?_
 refine QP ?_ (r:=by conv=>lhs;simp[-List.map_set,QV,h1,h2])
 refine jc (ct) (by rfl) ?_
 refine QM (by conv=>lhs;simp[-List.map_set,QV]) ?_
 refine QN ?_
 repeat (first|refine QG ?_|refine QY ?_)
 exact ja hwf (by simp [h1,h2]) rfl
theorem NumSig_v (op:Int) (ho:Ss.I64 op):VPure Tryz.prog 133 [vint op] (.tuple [vl vint (Ss.numSig op).1,vint (Ss.numSig op).2.1, .bool (Ss.numSig op).2.2]):=by
 intro S
 have cf:=find_v op ho
 unfold Ss.numSig
 cases hf:Ss.find op with
 | none =>
  rw [hf] at cf
  have cf':VPure Tryz.prog 117 [vint op] (.tuple [.agg [.int .i64 0, .int .i64 0, .int .i64 0, .int .i64 0], .int .i64 0, .bool false]):=cf
  refine jb (c:=jf Tryz.f133) Tryz.func133 rfl rfl (by simp [Tryz.ntmps133]) ?_
  rw [Tryz.ntmps133]
  intro hwf
  repeat (first|refine QG ?_|refine QY ?_)
  repeat refine QS ?_
  refine QP ?_
  refine jc (cf') (by rfl) ?_
  refine QM (by conv=>lhs;simp[-List.map_set,QV]) ?_
  refine QN ?_
  repeat (first|refine QG ?_|refine QY ?_)
  exact jh (l:=[_]) hwf (Ghost.toB (Ghost.tuple [] [_,_] (Ghost.nils_list _)) _) rfl
 | some g =>
  rw [hf] at cf
  obtain ⟨g1,g2,g3,g4⟩:=g
  have cf':VPure Tryz.prog 117 [vint op] (.tuple [.agg [.int .i64 g1, .int .i64 g2, .int .i64 g3, .int .i64 g4], .int .i64 (op-g1), .bool true]):=cf
  simp only
  by_cases h1:g3=1
  ·subst h1
   have hX:Ss.Grp.ins ⟨g1,g2,1,g4⟩=[g4,g4]∧Ss.Grp.out ⟨g1,g2,1,g4⟩=127:=by simp [Ss.Grp.ins,Ss.Grp.out]
   rw [hX.1,hX.2]
   refine jb (c:=jf Tryz.f133) Tryz.func133 rfl rfl (by simp [Tryz.ntmps133]) ?_
   rw [Tryz.ntmps133]
   intro hwf
   repeat (first|refine QG ?_|refine QY ?_)
   repeat refine QS ?_
   refine QP ?_
   refine jc (cf') (by rfl) ?_
   refine QM (by conv=>lhs;simp[-List.map_set,QV]) ?_
   refine QN ?_
   repeat (first|refine QG ?_|refine QY ?_)
   repeat refine QS ?_
   refine jQ (St S [] [some (4,[.int .i64 g1, .int .i64 g2, .int .i64 1, .int .i64 g4])]) (St S [] [some (4,[.int .i64 g1, .int .i64 g2, .int .i64 1, .int .i64 g4])]) [] rfl (by kernel_rfl) (by conv=>lhs; reduce) (by conv=>lhs; reduce) (by kernel_rfl) (by kernel_rfl) (jG (by simp [subU,shpU,subL,shpL])) (by conv=>lhs; simp [-List.map_set,QV]) ?_
   refine jg rfl (by conv=>lhs;simp[-List.map_set,QV]) (jG (by simp [subU,shpU,subL,shpL])) ?_
   refine QM (by conv=>lhs;simp[-List.map_set,QV]) ?_
   refine QN ?_
   repeat (first|refine QG ?_|refine QY ?_)
   exact jh hwf ((Ghost.tuple [] [_,_] (frz1 (k:=3) (by simp) (by rfl) (by rfl) (by rfl))).toB _) rfl
  by_cases h3:g3=3
  ·subst h3
   have hX:Ss.Grp.ins ⟨g1,g2,3,g4⟩=[g4,g4]∧Ss.Grp.out ⟨g1,g2,3,g4⟩=g4:=by simp [Ss.Grp.ins,Ss.Grp.out]
   rw [hX.1,hX.2]
   refine jb (c:=jf Tryz.f133) Tryz.func133 rfl rfl (by simp [Tryz.ntmps133]) ?_
   rw [Tryz.ntmps133]
   intro hwf
   repeat (first|refine QG ?_|refine QY ?_)
   repeat refine QS ?_
   refine QP ?_
   refine jc (cf') (by rfl) ?_
   refine QM (by conv=>lhs;simp[-List.map_set,QV]) ?_
   refine QN ?_
   repeat (first|refine QG ?_|refine QY ?_)
   repeat refine QS ?_
   refine jQ (St S [] [some (4,[.int .i64 g1, .int .i64 g2, .int .i64 3, .int .i64 g4])]) (St S [] [some (4,[.int .i64 g1, .int .i64 g2, .int .i64 3, .int .i64 g4])]) [] rfl (by kernel_rfl) (by conv=>lhs; reduce) (by conv=>lhs; reduce) (by kernel_rfl) (by kernel_rfl) (jG (by simp [subU,shpU,subL,shpL])) (by conv=>lhs; simp [-List.map_set,QV]) ?_
   refine jg rfl (by conv=>lhs;simp[-List.map_set,QV]) (jG (by simp [subU,shpU,subL,shpL])) ?_
   refine QM (by conv=>lhs;simp[-List.map_set,QV]) ?_
   refine QN ?_
   repeat (first|refine QG ?_|refine QY ?_)
   exact jh hwf ((Ghost.tuple [] [_,_] (frz1 (k:=3) (by simp) (by rfl) (by rfl) (by rfl))).toB _) rfl
  by_cases h0:g3=0
  ·subst h0
   have hX:Ss.Grp.ins ⟨g1,g2,0,g4⟩=[g4]∧Ss.Grp.out ⟨g1,g2,0,g4⟩=127:=by simp [Ss.Grp.ins,Ss.Grp.out]
   rw [hX.1,hX.2]
   refine jb (c:=jf Tryz.f133) Tryz.func133 rfl rfl (by simp [Tryz.ntmps133]) ?_
   rw [Tryz.ntmps133]
   intro hwf
   repeat (first|refine QG ?_|refine QY ?_)
   repeat refine QS ?_
   refine QP ?_
   refine jc (cf') (by rfl) ?_
   refine QM (by conv=>lhs;simp[-List.map_set,QV]) ?_
   refine QN ?_
   repeat (first|refine QG ?_|refine QY ?_)
   repeat refine QS ?_
   refine jQ (St S [] [some (4,[.int .i64 g1, .int .i64 g2, .int .i64 0, .int .i64 g4])]) (St S [] [some (4,[.int .i64 g1, .int .i64 g2, .int .i64 0, .int .i64 g4])]) [] rfl (by kernel_rfl) (by conv=>lhs; reduce) (by conv=>lhs; reduce) (by kernel_rfl) (by kernel_rfl) (jG (by simp [subU,shpU,subL,shpL])) (by conv=>lhs; simp [-List.map_set,QV]) ?_
   refine jg rfl (by conv=>lhs;simp[-List.map_set,QV]) (jG (by simp [subU,shpU,subL,shpL])) ?_
   refine QM (by conv=>lhs;simp[-List.map_set,QV]) ?_
   refine QN ?_
   repeat (first|refine QG ?_|refine QY ?_)
   exact jh hwf ((Ghost.tuple [] [_,_] (frz1 (k:=1) (by simp) (by rfl) (by rfl) (by rfl))).toB _) rfl
  by_cases h4:g3=4
  ·subst h4
   have hX:Ss.Grp.ins ⟨g1,g2,4,g4⟩=[g4]∧Ss.Grp.out ⟨g1,g2,4,g4⟩=127:=by simp [Ss.Grp.ins,Ss.Grp.out]
   rw [hX.1,hX.2]
   refine jb (c:=jf Tryz.f133) Tryz.func133 rfl rfl (by simp [Tryz.ntmps133]) ?_
   rw [Tryz.ntmps133]
   intro hwf
   repeat (first|refine QG ?_|refine QY ?_)
   repeat refine QS ?_
   refine QP ?_
   refine jc (cf') (by rfl) ?_
   refine QM (by conv=>lhs;simp[-List.map_set,QV]) ?_
   refine QN ?_
   repeat (first|refine QG ?_|refine QY ?_)
   repeat refine QS ?_
   refine jQ (St S [] [some (4,[.int .i64 g1, .int .i64 g2, .int .i64 4, .int .i64 g4])]) (St S [] [some (4,[.int .i64 g1, .int .i64 g2, .int .i64 4, .int .i64 g4])]) [] rfl (by kernel_rfl) (by conv=>lhs; reduce) (by conv=>lhs; reduce) (by kernel_rfl) (by kernel_rfl) (jG (by simp [subU,shpU,subL,shpL])) (by conv=>lhs; simp [-List.map_set,QV]) ?_
   refine jg rfl (by conv=>lhs;simp[-List.map_set,QV]) (jG (by simp [subU,shpU,subL,shpL])) ?_
   refine QM (by conv=>lhs;simp[-List.map_set,QV]) ?_
   refine QN ?_
   repeat (first|refine QG ?_|refine QY ?_)
   exact jh hwf ((Ghost.tuple [] [_,_] (frz1 (k:=1) (by simp) (by rfl) (by rfl) (by rfl))).toB _) rfl
  by_cases h5:g3=5
  ·subst h5
   have hX:Ss.Grp.ins ⟨g1,g2,5,g4⟩=[g4]∧Ss.Grp.out ⟨g1,g2,5,g4⟩=126:=by simp [Ss.Grp.ins,Ss.Grp.out]
   rw [hX.1,hX.2]
   refine jb (c:=jf Tryz.f133) Tryz.func133 rfl rfl (by simp [Tryz.ntmps133]) ?_
   rw [Tryz.ntmps133]
   intro hwf
   repeat (first|refine QG ?_|refine QY ?_)
   repeat refine QS ?_
   refine QP ?_
   refine jc (cf') (by rfl) ?_
   refine QM (by conv=>lhs;simp[-List.map_set,QV]) ?_
   refine QN ?_
   repeat (first|refine QG ?_|refine QY ?_)
   repeat refine QS ?_
   refine jQ (St S [] [some (4,[.int .i64 g1, .int .i64 g2, .int .i64 5, .int .i64 g4])]) (St S [] [some (4,[.int .i64 g1, .int .i64 g2, .int .i64 5, .int .i64 g4])]) [] rfl (by kernel_rfl) (by conv=>lhs; reduce) (by conv=>lhs; reduce) (by kernel_rfl) (by kernel_rfl) (jG (by simp [subU,shpU,subL,shpL])) (by conv=>lhs; simp [-List.map_set,QV]) ?_
   refine jg rfl (by conv=>lhs;simp[-List.map_set,QV]) (jG (by simp [subU,shpU,subL,shpL])) ?_
   refine QM (by conv=>lhs;simp[-List.map_set,QV]) ?_
   refine QN ?_
   repeat (first|refine QG ?_|refine QY ?_)
   exact jh hwf ((Ghost.tuple [] [_,_] (frz1 (k:=1) (by simp) (by rfl) (by rfl) (by rfl))).toB _) rfl
  have hX:Ss.Grp.ins ⟨g1,g2,g3,g4⟩=[g4]∧Ss.Grp.out ⟨g1,g2,g3,g4⟩=g4:=by simp [Ss.Grp.ins,Ss.Grp.out,h1,h3,h0,h4,h5]
  rw [hX.1,hX.2]
  refine jb (c:=jf Tryz.f133) Tryz.func133 rfl rfl (by simp [Tryz.ntmps133]) ?_
  rw [Tryz.ntmps133]
  intro hwf
  repeat (first|refine QG ?_|refine QY ?_)
  repeat refine QS ?_
  refine QP ?_
  refine jc (cf') (by rfl) ?_
  refine QM (by conv=>lhs;simp[-List.map_set,QV]) ?_
  refine QN ?_
  repeat (first|refine QG ?_|refine QY ?_ (r:=by conv=>lhs;simp[-List.map_set,QV,h1,h3,h0,h4,h5]))
  repeat refine QS ?_
  refine jQ (St S [] [some (4,[.int .i64 g1, .int .i64 g2, .int .i64 g3, .int .i64 g4])]) (St S [] [some (4,[.int .i64 g1, .int .i64 g2, .int .i64 g3, .int .i64 g4])]) [] rfl (by kernel_rfl) (by conv=>lhs; reduce) (by conv=>lhs; reduce) (by kernel_rfl) (by kernel_rfl) (jG (by simp [subU,shpU,subL,shpL])) (by conv=>lhs; simp [-List.map_set,QV,h1,h3,h0,h4,h5]) ?_
  refine jg rfl (by conv=>lhs;simp[-List.map_set,QV]) (jG (by simp [subU,shpU,subL,shpL])) ?_
  refine QM (by conv=>lhs;simp[-List.map_set,QV]) ?_
  refine QN ?_
  repeat (first|refine QG ?_|refine QY ?_ (r:=by conv=>lhs;simp[-List.map_set,QV,h1,h3,h0,h4,h5]))
  exact jh hwf ((Ghost.tuple [] [_,_] (frz1 (k:=1) (by simp) (by rfl) (by rfl) (by rfl))).toB _) rfl
end Go.Vw

namespace Ss
structure Acc where
 kind:Int
 width:Int
 store:Bool
 signed:Bool
deriving DecidableEq,Inhabited
def accL:List (Int × Acc):=[(40,⟨127,4,false,false⟩),(41,⟨126,8,false,false⟩),(44,⟨127,1,false,true⟩),(45,⟨127,1,false,false⟩),(46,⟨127,2,false,true⟩),(47,⟨127,2,false,false⟩),(48,⟨126,1,false,true⟩),(49,⟨126,1,false,false⟩),(50,⟨126,2,false,true⟩),(51,⟨126,2,false,false⟩),(52,⟨126,4,false,true⟩),(53,⟨126,4,false,false⟩),(54,⟨127,4,true,false⟩),(55,⟨126,8,true,false⟩),(58,⟨127,1,true,false⟩),(59,⟨127,2,true,false⟩),(60,⟨126,1,true,false⟩),(61,⟨126,2,true,false⟩),(62,⟨126,4,true,false⟩)]
def findK {α:Type} (n:Int):List (Int × α)→Option α
 | []=>none
 | (k,v)::r=>if n=k then some v else findK n r
def accOf (op:Int):Option Acc:=findK op accL
end Ss
namespace Go.Vw
open Go.Proofs Go.RowKit
set_option maxRecDepth 10000
set_option maxHeartbeats 4000000
def jba (a:Ss.Acc):V := .agg [vint a.kind,vint a.width, .bool a.store, .bool a.signed]
theorem encAcc_eq (a:Ss.Acc):jba a = .agg [vint a.kind,vint a.width, .bool a.store, .bool a.signed]:=nr rfl
attribute [simp] encAcc_eq
def mapI {α:Type} (enc:α→V) (L:List (Int × α)):List V:=L.map fun p => .tuple [.int .i64 p.1,enc p.2]
theorem jaW {α:Type} (enc:α→V) (n:Int) : ∀ (L:List (Int × α)) (i:Nat),(Ss.findK n L=none∧zf (.int .i64 n) (mapI enc L) i=some none) ∨ ∃ j v,Ss.findK n L=some v∧zf (.int .i64 n) (mapI enc L) i=some (some (i+j,enc v))
 | [],i => .inl ⟨rfl,rfl⟩
 | (k,v)::L,i=>by
  by_cases e:n=k
  ·subst e
   exact .inr ⟨0,v,by simp [Ss.findK],by simp [mapI,zf,zt]⟩
  ·have e':(n==k)=false:=by simp [e]
   have h0:zf (.int .i64 n) (mapI enc ((k,v)::L)) i=zf (.int .i64 n) (mapI enc L) (i+1):=by
    show (match zt (.int .i64 n) (.int .i64 k) with | some true=>_ | some false=>_ | none=>_)=_
    simp only [zt,if_true,e']
    rfl
   have h1:Ss.findK n ((k,v)::L)=Ss.findK n L:=by simp [Ss.findK,e]
   rcases jaW enc n L (i+1) with ⟨h2,h3⟩ | ⟨j,w,h2,h3⟩
   ·exact .inl ⟨h1.trans h2,h0.trans h3⟩
   ·exact .inr ⟨j+1,w,h1.trans h2,by rw [h0,h3]; simp; omega⟩
theorem jbG {α:Type} {enc:α→V} {z:V} {S:Store} {o:Nat} {n:Int} {L:List (Int × α)} (h:S.get o=some (0,mapI enc L)):qS z true S (.map o) (.int .i64 n)=some (match Ss.findK n L with | some v => .tuple [enc v, .bool true] | none => .tuple [z, .bool false]):=by
 simp only [qS,h]
 rcases jaW enc n L 0 with ⟨h2,h3⟩ | ⟨j,w,h2,h3⟩
 ·simp [h2,h3]
 ·simp [h2,h3]
def updC (S:Store) (o:Nat) (n:Int) (v:V) (cells:List V):Option (Option (Nat × V))→Option Store
 | some none=>some (S.upd o (0,cells++[.tuple [.int .i64 n,v]]))
 | some (some (j,_))=>some (S.upd o (0,cells.set j (.tuple [.int .i64 n,v])))
 | none=>none
def updM (S:Store) (o:Nat) (n:Int) (v:V):Option (Nat × List V)→Option Store
 | some (0,cells)=>updC S o n v cells (zf (.int .i64 n) cells 0)
 | _=>none
theorem WZ {S:Store} {o:Nat} {n:Int} {v:V} {cells:List V} (h:S.get o=some (0,cells)):qw S (.map o) (.int .i64 n) v=updC S o n v cells (zf (.int .i64 n) cells 0):=by
 simp only [qw,h]
 cases zf (.int .i64 n) cells 0 with
 | none=>rfl
 | some r=>cases r with
  | none=>rfl
  | some p=>rfl
theorem updC_new (S:Store) (o:Nat) (n:Int) (v:V) (cells:List V):updC S o n v cells (some none)=some (S.upd o (0,cells++[.tuple [.int .i64 n,v]])):=nr rfl
theorem lookV_nil (k:V) (i:Nat):zf k [] i=some none:=nr rfl
theorem lookV_cons64 (n m:Int) (v:V) (r:List V) (i:Nat):zf (.int .i64 n) (.tuple [.int .i64 m,v]::r) i=if n=m then some (some (i,v)) else zf (.int .i64 n) r (i+1):=by
 by_cases e:n=m
 ·subst e; simp [zf,zt]
 ·have e':(n==m)=false:=by simp [e]
  rw [if_neg e]
  show (match zt (.int .i64 n) (.int .i64 m) with | some true=>_ | some false=>_ | none=>_)=_
  simp only [zt,if_true,e']
theorem acc_cells:mapI jba Ss.accL=[.tuple [.int .i64 40, .agg [.int .i64 127, .int .i64 4, .bool false, .bool false]], .tuple [.int .i64 41, .agg [.int .i64 126, .int .i64 8, .bool false, .bool false]], .tuple [.int .i64 44, .agg [.int .i64 127, .int .i64 1, .bool false, .bool true]], .tuple [.int .i64 45, .agg [.int .i64 127, .int .i64 1, .bool false, .bool false]], .tuple [.int .i64 46, .agg [.int .i64 127, .int .i64 2, .bool false, .bool true]], .tuple [.int .i64 47, .agg [.int .i64 127, .int .i64 2, .bool false, .bool false]], .tuple [.int .i64 48, .agg [.int .i64 126, .int .i64 1, .bool false, .bool true]], .tuple [.int .i64 49, .agg [.int .i64 126, .int .i64 1, .bool false, .bool false]], .tuple [.int .i64 50, .agg [.int .i64 126, .int .i64 2, .bool false, .bool true]], .tuple [.int .i64 51, .agg [.int .i64 126, .int .i64 2, .bool false, .bool false]], .tuple [.int .i64 52, .agg [.int .i64 126, .int .i64 4, .bool false, .bool true]], .tuple [.int .i64 53, .agg [.int .i64 126, .int .i64 4, .bool false, .bool false]], .tuple [.int .i64 54, .agg [.int .i64 127, .int .i64 4, .bool true, .bool false]], .tuple [.int .i64 55, .agg [.int .i64 126, .int .i64 8, .bool true, .bool false]], .tuple [.int .i64 58, .agg [.int .i64 127, .int .i64 1, .bool true, .bool false]], .tuple [.int .i64 59, .agg [.int .i64 127, .int .i64 2, .bool true, .bool false]], .tuple [.int .i64 60, .agg [.int .i64 126, .int .i64 1, .bool true, .bool false]], .tuple [.int .i64 61, .agg [.int .i64 126, .int .i64 2, .bool true, .bool false]], .tuple [.int .i64 62, .agg [.int .i64 126, .int .i64 4, .bool true, .bool false]]]:=rfl
theorem accesses_v (S:Store):VCalls Tryz.prog 146 [] S fun r T=>r = .map (lid S.nx 0)∧T=St S [] [some (0,mapI jba Ss.accL)]:=by
 rw [acc_cells]
 refine jb (c:=jf Tryz.f146) Tryz.func146 rfl rfl (by simp [Tryz.ntmps146]) ?_
 rw [Tryz.ntmps146]
 intro hwf
 have hmu:=fun (S:Store) (o:Nat) (n:Int) (v:V) (cells:List V) (h:S.get o=some (0,cells))=>WZ (n:=n) (v:=v) h
 repeat (first|refine QG ?_|refine QY ?_ (r:=by conv=>lhs;simp[-List.map_set,QV,hmu,updC_new,lookV_nil,lookV_cons64]))
 exact zF ⟨by simp,rfl⟩
theorem Access_v (op:Int):VPure Tryz.prog 134 [vint op] (.tuple [vint ((Ss.accOf op).getD ⟨0,0,false,false⟩).kind,vint ((Ss.accOf op).getD ⟨0,0,false,false⟩).width, .bool ((Ss.accOf op).getD ⟨0,0,false,false⟩).store, .bool (Ss.accOf op).isSome]):=by
 intro S
 have ca:=accesses_v
 have hlk : ∀ (S:Store) (o:Nat),S.get o=some (0,mapI jba Ss.accL)→qS (.agg [.int .i64 0, .int .i64 0, .bool false, .bool false]) true S (.map o) (.int .i64 op)=some (match Ss.accOf op with | some v => .tuple [jba v, .bool true] | none => .tuple [.agg [.int .i64 0, .int .i64 0, .bool false, .bool false], .bool false]):=fun S o h=>by
  have h1:=jbG (z := .agg [.int .i64 0, .int .i64 0, .bool false, .bool false]) (n:=op) h
  unfold Ss.accOf
  cases hh:Ss.findK op Ss.accL<;>rw [hh] at h1<;>exact h1
 generalize mapI jba Ss.accL=cells at *
 cases hf:Ss.accOf op with
 | none =>
  rw [hf] at hlk
  simp only at hlk
  refine jb (c:=jf Tryz.f134) Tryz.func134 rfl rfl (by simp [Tryz.ntmps134]) ?_
  rw [Tryz.ntmps134]
  intro hwf
  repeat (first|refine QG ?_|refine QY ?_)
  repeat refine QS ?_
  refine QP ?_
  refine qh (xs:=[]) rfl (ca _) ?_
  rintro X S' ⟨rfl,rfl⟩
  rw [qI hwf]
  refine QM (by conv=>lhs;simp[-List.map_set,QV,hlk]) ?_
  refine QN ?_
  repeat (first|refine QG ?_|refine QY ?_)
  exact ja hwf (by simp) rfl
 | some a =>
  obtain ⟨a1,a2,a3,a4⟩:=a
  rw [hf] at hlk
  have hlk' : ∀ (S:Store) (o:Nat),S.get o=some (0,cells)→qS (.agg [.int .i64 0, .int .i64 0, .bool false, .bool false]) true S (.map o) (.int .i64 op)=some (.tuple [.agg [.int .i64 a1, .int .i64 a2, .bool a3, .bool a4], .bool true]):=hlk
  refine jb (c:=jf Tryz.f134) Tryz.func134 rfl rfl (by simp [Tryz.ntmps134]) ?_
  rw [Tryz.ntmps134]
  intro hwf
  repeat (first|refine QG ?_|refine QY ?_)
  repeat refine QS ?_
  refine QP ?_
  refine qh (xs:=[]) rfl (ca _) ?_
  rintro X S' ⟨rfl,rfl⟩
  rw [qI hwf]
  refine QM (by conv=>lhs;simp[-List.map_set,QV,hlk']) ?_
  refine QN ?_
  repeat (first|refine QG ?_|refine QY ?_)
  exact ja hwf (by simp) rfl
end Go.Vw
