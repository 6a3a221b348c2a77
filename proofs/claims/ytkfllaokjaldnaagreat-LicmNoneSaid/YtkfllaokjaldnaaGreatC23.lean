import Derived.Test.YtkfllaokjaldnaaGreatC22
import Derived.Test.YtkfllaokjaldnaaGreatC19
import Derived.Test.YtkfllaokjaldnaaGreatC21
import Derived.Test.YtkfllaokjaldnaaGreatC18
import Derived.Test.YtkfllaokjaldnaaGreatC17
import Derived.Test.YtkfllaokjaldnaaGreatC20
/-
  Part of the proof (texts VNil, SCopy, SCut, SUsed, SRUsed, SChk2, SBlk, SSame2, SAlive, SAlive2, SLLess, SLessP, LPlain).
-/
set_option linter.unusedVariables false
set_option linter.unusedSimpArgs false
/-
 Is a slice nil? Only where it is empty.
-/
namespace Go.Vw
open Go.RowKit
section
variable {P:Program} {N b:Nat} {Q:Exit→Fr→Store→Prop} {σ:Fr} {S:Store}
theorem list_addr {m:Imm} {β:Objs} {l:List V} {v:Value} (h:Rep m β (.list l) v) : ∃ ad len cap,v = .slice ad len cap∧(ad=none→l=[]):=by
 have:=h.inv_list
 generalize hl:V.list l=x at this
 cases this with
 | list0 a cap hc=>cases hl; exact ⟨a,0,cap,rfl,fun _=>rfl⟩
 | list xs vs b off cap s arr T fz hm hl' hc hcm hs hr hcells=>cases hl; exact ⟨some ⟨b,off,none⟩,_,cap,rfl,fun h=>by cases h⟩
 | _=>cases hl
theorem equal_nil {t e:TypeId} (ht:P.underlying t=some (.slice e)) (ad:Option Addr) (len cap:Nat) (w:World):(Op.equal t (.slice ad len cap) (.slice none 0 0)).run P w = .ok ad.isNone w:=by
 have hd:Op.maxDepth=9999+1:=rfl
 unfold Op.equal
 rw [hd]
 unfold Op.equalIn
 cases ad<;>simp [run_underlying ht]
theorem vw_isnil {c:Code} {o1 o2:Oper} {d1 d2 s:Nat} {t t' e:TypeId} {y u:Operand} {l:List V} (h:Code.kind c=1) (hops:(Code.ops c).toList=[o1,o2]) (h1:KY P N (Code.ops c) o1=some ⟨some d1,none, .move (.tmp s)⟩) (hg1:o1.guard=none)
  (hop:o2.op = .binOp .eql t y u t') (hg:o2.guard=none) (hd:o2.dst=some d2) (hlt:decide (d2<N)=true) (hy:jx y=some (.tmp d1)) (hu:u = .const (.slice none 0 0)) (ht:P.underlying t=some (.slice e)) (hv:σ.look s = .list l)
  (H : ∀ b:Bool,(b=true→l=[])→Q .normal ((σ.set d1 (.list l)).set d2 (.bool b)) S):VWp P N b c Q σ S:=by
 cases c with
 | region id ops dr =>
  cases dr
  ·intro m β w a hS hF
   refine wp_region_list ?_
   simp only [Code.ops] at hops h1
   rw [hops]
   simp only [wpList]
   have hw1:Region.wanted o1 (yielded ops a.tmps)=true:=by simp [Region.wanted,hg1]
   rw [if_pos hw1]
   refine .inl ?_
   obtain ⟨c1,c2,c3,c4⟩:=YH h1
   simp only at c2
   refine Zo (N:=N) (b:=b) (m0:=m) (β0:=β) (w0:=w) (k:=fun x S'=>x = .list l∧S'=S) c1 c4 (by simp [vop,jp,ev,hv]) hS hF (ExtB.refl _ _ _ _) ?_
   rintro x S' m' β' w' a' ⟨rfl,rfl⟩ k2 k3 k4
   rw [←c2] at k3
   have hw2:Region.wanted o2 (yielded ops a'.tmps)=true:=by simp [Region.wanted,hg]
   rw [if_pos hw2]
   refine .inl ?_
   have hF':FrameRep N m' β' (σ.set d1 (.list l)) a':=k3
   have hr:=jM hF' hy
   have hl:ev (σ.set d1 (.list l)) (.tmp d1) = .list l:=by simp [ev,Fr.look_set]
   rw [hl] at hr
   obtain ⟨ad,len,cap,e1,e2⟩:=list_addr hr
   have e3:a'.eval u = .slice none 0 0:=by rw [hu]; rfl
   have hgd:(eqGuard .eql t y u (.slice ad len cap) (.slice none 0 0)).run P w' = .ok () w':=rfl
   have hrun:(execOp a'.eval o2).run P w' = .ok (.value (.bool ad.isNone)) w':=by
    simp [execOp,hop,e1,e3,hgd,binOp,equal_nil ht]
   unfold Oper.wp
   rw [hrun]
   refine ⟨_,S',m',β',H ad.isNone (fun hn=>e2 (by simpa using hn)),k2, ?_,k4⟩
   have:=hF'.put o2.dst (fun t ht=>by rw [hd] at ht; cases ht; exact of_decide_eq_true hlt) (x := .bool ad.isNone) (v := .bool ad.isNone) (.imm (.bool _))
   rw [hd] at this ⊢
   exact this
  ·simp [Code.kind] at h
 | _=>simp [Code.kind] at h
end
section
variable {P:Program} {N b:Nat} {Q:Exit→Fr→Store→Prop} {σ:Fr} {S:Store}
theorem Wd {c c2:Code} {cs:List CO} {Q2:Exit→Fr→Store→Prop} (zc zs:Store) (es:List Nat) (n0 i j:Nat) (ord1 ord2:List Nat) (h:Code.kind c=2) (hm:P.follows .mixedOrders=true) (hc:qr P N (Code.ops c)=some cs) (hnc:callsOk cs i j n0=true) (hij:i≠j)
  (hp:ZR es (qV (Code.ops c)) (Code.ops c) cs n0 0 (Array.replicate (Code.ops c).size false)=true)
  (hi:(zq n0 0 (Array.replicate (Code.ops c).size false)).getD i true=false) (hj:(zq n0 0 (Array.replicate (Code.ops c).size false)).getD j true=false)
  (hu:(List.range n0).all (fun k=>(zq n0 0 (Array.replicate (Code.ops c).size false)).getD k true)=true)
  (hB1:lexO es (qV (jB (Code.ops c) j i)) (jB (Code.ops c) j i) cs ord1 (zq n0 0 (Array.replicate (Code.ops c).size false))=true) (hB2:lexO es (qV (jB (Code.ops c) i j)) (jB (Code.ops c) i j) cs ord2 (zq n0 0 (Array.replicate (Code.ops c).size false))=true)
  (hn0:decide (n0≤(Code.ops c).size)=true) (hn1:ord1.length+n0=(Code.ops c).size) (hn2:ord2.length+n0=(Code.ops c).size) (hE:zE (qV (Code.ops c)) cs es=true) (hz:(ZZ.mk S zc zs es).ok S)
  {cs0 cs1 cs2:List CO} (hp0:cs.take n0=cs0) (hp1:YN cs ord1=cs1) (hp2:YN cs ord2=cs2)
  (H:jP P (some (ZZ.mk S zc zs es)) cs0 (fun σ1 S1 => ∃ σm Sm,VWp P N b c2 Q2 σm Sm∧jP P (some (ZZ.mk S zc zs es)) cs1 (fun σ S=>Reach N b σ S σm Sm) σ1 S1∧jP P (some (ZZ.mk S zc zs es)) cs2 (fun σ S=>Reach N b σ S σm Sm) σ1 S1) σ S):VWp P N b c (Kf (VWp P N b c2 Q2) Q) σ S :=
 vw_drawSplit (ZZ.mk S zc zs es) n0 i j ord1 ord2 h hm hc hnc hij hp hi hj hu hB1 hB2 hn0 hn1 hn2 hE hz S.sub_refl hp0 hp1 hp2 H
end
end Go.Vw

namespace Ss
def putv (to:List Int) (v:Int):Int:=if 0≤v∧v<to.length then to.getD v.toNat 0 else v
def repIns (to:List Int) (x:Ins):Ins:=⟨x.op,x.n,x.args.map (putv to),x.outs⟩
def repEdge (to:List Int) (x:Edge):Edge:=⟨x.to,x.args.map (putv to)⟩
def repTerm (to:List Int) (t:Term):Term:=⟨t.kind,if t.kind=2∨t.kind=3 then putv to t.arg else t.arg,t.to.map (repEdge to),t.args.map (putv to)⟩
def repBlock (to:List Int) (b:Block):Block:=⟨b.params,b.code.map (repIns to),repTerm to b.term⟩
def replace (f:Fn) (to:List Int):Fn:=⟨f.sig,f.types,f.blocks.map (repBlock to)⟩
theorem jbD:putv []=fun v=>v:=by funext v; simp [putv]; omega
theorem repIns_nil (x:Ins):repIns [] x=x:=by simp [repIns,jbD]
theorem repEdge_nil (x:Edge):repEdge [] x=x:=by simp [repEdge,jbD]
theorem repTerm_nil (t:Term):repTerm [] t=t:=by
 have:repEdge []=id:=by funext x; exact repEdge_nil x
 simp [repTerm,jbD,this]
theorem repBlock_nil (b:Block):repBlock [] b=b:=by
 have:repIns []=id:=by funext x; exact repIns_nil x
 simp [repBlock,repTerm_nil,this]
theorem replace_nil (f:Fn):replace f []=f:=by
 have:repBlock []=id:=by funext x; exact repBlock_nil x
 simp [replace,this]
end Ss
namespace Go.Vw
open Go.Proofs Go.RowKit
set_option maxRecDepth 10000
set_option maxHeartbeats 1000000
abbrev blkT:List Ty:=[.c, .s (List.replicate 4 .c), .c, .c, .c, .c]
abbrev fnT:List Ty:=[.c, .c, .c, .s blkT]
def CopiedT (S:Store) (g:Ss.Fn) (r:V) (T:Store):Prop:=Agree S T∧T.Wf ∧ ∃ (ot ob:Nat) (cells:List V) (ids:List Nat),r = .agg [vl vint g.sig.inn,vl vint g.sig.out, .slice ot 0 g.types.length, .slice ob 0 g.blocks.length]∧T.get ot=some (1,g.types.map vint)∧T.get ob=some (6,cells)∧OwL T (reps g.blocks.length blkT) cells (js je g.blocks) ids∧(ot::ob::ids).Nodup ∧ ∀ o∈ot::ob::ids,S.nx≤o∧o<T.nx
def Copied (S:Store) (g:Ss.Fn) (r:V) (T:Store):Prop:=Agree S T∧T.Wf ∧ ∃ (ob:Nat) (cells:List V) (ids:List Nat),r = .agg [vl vint g.sig.inn,vl vint g.sig.out,vl vint g.types, .slice ob 0 g.blocks.length]∧T.get ob=some (6,cells)∧OwL T (reps g.blocks.length blkT) cells (js je g.blocks) ids∧(ob::ids).Nodup ∧ ∀ o∈ob::ids,S.nx≤o∧o<T.nx
theorem Agree.St {S B:Store} {l:List (Option (Nat × List V))} (h:Agree S B):Agree S (St B [] l):=by
 refine ⟨by rw [qo,lid]; have:=h.1; omega,fun o ho => ?_⟩
 rw [jy (Nat.lt_of_lt_of_le ho h.1)]
 exact h.2 o ho
theorem Copied.mono {S S':Store} {g:Ss.Fn} {r:V} {T:Store} (h:Copied S' g r T) (hag:Agree S S'):Copied S g r T:=by
 obtain ⟨h1,h2,ob,cells,ids,h3,h4,h5,h6,h7⟩:=h
 have hle:=hag.1
 exact ⟨⟨Nat.le_trans hle h1.1,fun o ho=>(h1.2 o (Nat.lt_of_lt_of_le ho hle)).trans (hag.2 o ho)⟩,h2,ob,cells,ids,h3,h4,h5,h6,fun o ho=>⟨Nat.le_trans hle (h7 o ho).1,(h7 o ho).2⟩⟩
end Go.Vw

namespace Ss
def cutB (b:Block) (k:Nat):Block:=⟨b.params,b.code.take k++b.code.drop (k+1),b.term⟩
def cut (f:Fn) (i k:Nat):Fn:=⟨f.sig,f.types,f.blocks.set i (cutB (f.blocks.getD i default) k)⟩
end Ss
namespace Go.Vw
open Go.Proofs Go.RowKit
set_option maxRecDepth 10000
set_option maxHeartbeats 2000000
end Go.Vw

namespace Ss
def mark1 (o:List Bool) (v:Int):List Bool:=if 0≤v∧v<o.length then o.set v.toNat true else o
def mark (o:List Bool) (l:List Int):List Bool:=l.foldl mark1 o
def usedB (o:List Bool) (b:Block):List Bool :=
 b.term.to.foldl (fun o t=>mark o t.args) (if branches b.term then mark (mark (b.code.foldl (fun o x=>mark o x.args) o) b.term.args) [b.term.arg] else mark (b.code.foldl (fun o x=>mark o x.args) o) b.term.args)
def usedOf (f:Fn):List Bool:=f.blocks.foldl usedB (List.replicate f.types.length false)
end Ss
namespace Go.Vw
open Go.Proofs Go.RowKit
set_option maxRecDepth 10000
set_option maxHeartbeats 4000000
end Go.Vw

namespace Ss
def asksT (t:Term):List Int:=(if t.kind=2∨t.kind=3 then [t.arg] else [])++t.to.flatMap (fun x=>x.args)++t.args
def asksB (b:Block):List Int:=asksT b.term++b.code.flatMap (fun x=>x.args)
def rusedOf (f:Fn):List Bool:=f.blocks.foldl (fun o b=>mark o (asksB b)) (List.replicate f.types.length false)
end Ss
namespace Go.Vw
open Go.Proofs Go.RowKit
set_option maxRecDepth 10000
set_option maxHeartbeats 2000000
theorem qD (l:List Int):js vint l=l.map vint:=by
 induction l with
 | nil=>rfl
 | cons x l ih =>
  simp only [js,List.flatMap_cons,List.map_cons] at ih ⊢
  rw [ih]; rfl
theorem renL_repb (f:Nat→Nat) (n:Nat) (b:Bool):V.renL f (List.replicate n (V.bool b))=List.replicate n (V.bool b):=by rw [rep_bool,ZA]
theorem idsL_repb (p:Nat→Bool) (n:Nat) (b:Bool):V.idsL p (List.replicate n (V.bool b))=true:=by rw [rep_bool,ZX]
end Go.Vw

namespace Go.Vw
open Go.Proofs Go.RowKit
set_option maxRecDepth 10000
set_option maxHeartbeats 8000000
theorem Check_v (e:Ss.Env) (f:Ss.Fn) (he:e.Fits) (hf:f.Fits):VPure Tryz.prog 23 [zm e,qW f] (.bool (Ss.check e f)):=by
 intro S
 have cer:=EnvRight_v e he
 have csm:=jbo f hf
 have hsb := @jZ f
 have ckt:VPure Tryz.prog 65 [.int .i64 2048,vl vint f.types] (.bool (Ss.kinds 2048 f.types)):=jbK 2048 f.types (by have:=hf.2.1.1; omega)
 have csr:=jaG f.sig hf.1
 have cpa:=AnyB_v f.blocks (fun b=>decide (256<b.params.length)) 68 [] rfl (by have:=hf.2.2.1; omega) (fun b _=>check1_v b)
 have hpa:(f.blocks.all fun b=>decide (b.params.length≤256)) = !(f.blocks.any fun b=>decide (256<b.params.length)):=by
  rw [List.not_any_eq_all_not]; congr 1; funext b; by_cases h:b.params.length≤256<;>simp [h]<;>omega
 have hH:Ss.checkHead e f=(e.right&&f.small&&decide (f.blocks.length≤256)&&Ss.kinds 2048 f.types&&f.sig.right && !(f.blocks.any fun b=>decide (256<b.params.length))):=by rw [←hpa]; rfl
 have hX:Ss.check e f=(Ss.checkHead e f&&match Ss.defsOf f with
  | none=>false
  | some ds=>Ss.shapeOk f&&Ss.checkBlocks e f ds (G.nearI (Ss.succs f.blocks)) 0 f.blocks):=rfl
 have hks:Ss.kinds 2048 f.types=true→f.types.length≤2048:=by
  intro h; simp only [Ss.kinds,Bool.and_eq_true,decide_eq_true_eq] at h; exact h.1
 have her:e.right=true→e.muts.length=e.globals.length:=by
  intro h; simp only [Ss.Env.right,Bool.and_eq_true,decide_eq_true_eq] at h; exact h.1.1.2
 rw [hX,hH]
 generalize (f.blocks.any fun b=>decide (256<b.params.length))=pa at *
 generalize e.right=er at *
 generalize hsm:f.small=sm at *
 generalize Ss.kinds 2048 f.types=kt at *
 generalize f.sig.right=sr at *
 have hsl:=he.1.1
 have hgl:=he.2.2.1.1
 obtain ⟨sg,im,gl,mu,me⟩:=e
 obtain ⟨⟨fi,fo⟩,ts,bs⟩:=f
 simp only at *
 have cer':VPure Tryz.prog 63 [.agg [vl jO sg, .int .i64 im,vl vint gl,vl V.bool mu, .bool me]] (.bool er):=cer
 have csm':VPure Tryz.prog 64 [.agg [vl vint fi,vl vint fo,vl vint ts,vl je bs]] (.bool sm):=csm
 have csr':VPure Tryz.prog 66 [.agg [vl vint fi,vl vint fo]] (.bool sr):=csr
 generalize hZ:(match Ss.defsOf ⟨⟨fi,fo⟩,ts,bs⟩ with
  | none=>false
  | some ds=>Ss.shapeOk ⟨⟨fi,fo⟩,ts,bs⟩&&Ss.checkBlocks ⟨sg,im,gl,mu,me⟩ ⟨⟨fi,fo⟩,ts,bs⟩ ds (G.nearI (Ss.succs bs)) 0 bs)=Z
 refine jb (c:=jf Tryz.f23) Tryz.func23 rfl rfl (by simp [Tryz.ntmps23]) ?_
 rw [Tryz.ntmps23]
 intro hwf
 repeat (first|refine QG ?_|refine QY ?_)
 repeat refine QS ?_
 refine QP ?_
 refine jc (cer') (by rfl) ?_
 by_cases h1:er=true
 case neg =>
  have h1':er=false:=by simpa using h1
  refine QM (by conv=>lhs;simp[-List.map_set,QV,h1']) ?_
  refine QN ?_
  repeat (first|refine QG ?_|refine QY ?_)
  exact ja hwf (by simp [h1']) rfl
 refine QM (by conv=>lhs;simp[-List.map_set,QV,h1]) ?_
 refine jc (csm') (by rfl) ?_
 by_cases h2:sm=true
 case neg =>
  have h2':sm=false:=by simpa using h2
  refine QM (by conv=>lhs;simp[-List.map_set,QV,h2']) ?_
  refine QN ?_
  repeat (first|refine QG ?_|refine QY ?_)
  exact ja hwf (by simp [h2']) rfl
 by_cases h3:(256:Int)<(bs.length:Int)
 ·refine QM (by conv=>lhs;simp[-List.map_set,QV,h2,h3]) ?_
  refine QN ?_
  repeat (first|refine QG ?_|refine QY ?_)
  exact ja hwf (by rw [show decide (bs.length≤256)=false by simp; omega]; simp) rfl
 have h3':bs.length≤256:=by omega
 refine QM (by conv=>lhs;simp[-List.map_set,QV,h2,h3]) ?_
 refine jc (ckt) (by rfl) ?_
 by_cases h4:kt=true
 case neg =>
  have h4':kt=false:=by simpa using h4
  refine QM (by conv=>lhs;simp[-List.map_set,QV,h4']) ?_
  refine QN ?_
  repeat (first|refine QG ?_|refine QY ?_)
  exact ja hwf (by simp [h4']) rfl
 refine QM (by conv=>lhs;simp[-List.map_set,QV,h4]) ?_
 refine jc (csr') (by rfl) ?_
 by_cases h5:sr=true
 case neg =>
  have h5':sr=false:=by simpa using h5
  refine QM (by conv=>lhs;simp[-List.map_set,QV,h5']) ?_
  refine QN ?_
  repeat (first|refine QG ?_|refine QY ?_)
  exact ja hwf (by simp [h5']) rfl
 rw [h1,h2,h4,h5,decide_eq_true h3']
 simp only [Bool.true_and]
 have htl:=hks h4
 obtain ⟨_,_,hsf,_⟩:=hsb h2
 refine QM (by conv=>lhs;simp[-List.map_set,QV,h5]) ?_
 refine QN ?_
 repeat (first|refine QG ?_|refine QY ?_)
 repeat refine QS ?_
 refine QP ?_
 refine jc (cpa) (by rfl) ?_
 by_cases h6:pa=true
 ·refine QM (by conv=>lhs;simp[-List.map_set,QV,h6]) ?_
  refine QN ?_
  repeat (first|refine QG ?_|refine QY ?_)
  exact ja hwf (by simp [h6]) rfl
 have h6':pa=false:=by simpa using h6
 rw [h6']
 simp only [Bool.not_false,Bool.true_and]
 refine QM (by conv=>lhs;simp[-List.map_set,QV,h6']) ?_
 refine qh rfl (define_v _ ⟨sg,im,gl,mu,me⟩ ⟨⟨fi,fo⟩,ts,bs⟩ (lid S.nx 2) hf (by simp only; omega) (by simp)) ?_
 rintro X S' ⟨ds,hdl,rfl,hdd,rfl⟩
 rw [St_St (by rw [qo]; simp [lid]),JF (by simp),jao,qo,lid_lid]
 simp only [List.set_cons_succ,List.set_cons_zero,List.cons_append,List.nil_append,List.length_cons,List.length_nil,Nat.zero_add,Nat.add_zero]
 cases hdf:Ss.defsOf ⟨⟨fi,fo⟩,ts,bs⟩ with
 | none =>
  rw [hdf] at hZ
  simp only at hZ
  obtain ⟨z,hz⟩ : ∃ z,(none:Option (List Ss.Def)).isSome=z:=⟨_,rfl⟩
  have hz':z=false:=by rw [←hz]; rfl
  rw [hz]
  refine QM (by conv=>lhs;simp[-List.map_set,QV,hz']) ?_
  refine QN ?_
  repeat (first|refine QG ?_|refine QY ?_)
  exact ja hwf (by simp [←hZ]) rfl
 | some ds2 =>
  obtain rfl:=hdd _ hdf
  rw [hdf] at hZ
  simp only at hZ
  obtain ⟨hdl2,hdin⟩:=Ss.defs_in hdf
  simp only at hdin
  obtain ⟨z,hz⟩ : ∃ z,(some ds:Option (List Ss.Def)).isSome=z:=⟨_,rfl⟩
  have hz':z=true:=by rw [←hz]; rfl
  rw [hz]
  refine QM (by conv=>lhs;simp[-List.map_set,QV,hz']) ?_
  refine qh rfl (shape_v _ ⟨sg,im,gl,mu,me⟩ ⟨⟨fi,fo⟩,ts,bs⟩ (lid S.nx 2) (lid S.nx 3) hf (hsm.trans h2) (by simp [hdl]) (by simp [lid]) (fun b hb=>(hdin b hb).1)) ?_
  rintro X S' ⟨nv,hnv,rfl,hnvv,rfl⟩
  rw [JF (by simp)]
  simp only [List.set_cons_succ,List.set_cons_zero]
  generalize hso:Ss.shapeOk ⟨⟨fi,fo⟩,ts,bs⟩=so at *
  by_cases h7:so=true
  case neg =>
   have h7':so=false:=by simpa using h7
   refine QM (by conv=>lhs;simp[-List.map_set,QV,h7']) ?_
   refine QN ?_
   repeat (first|refine QG ?_|refine QY ?_)
   exact ja hwf (by simp [←hZ,h7']) rfl
  have hnv2:=hnvv h7
  subst hnv2
  rw [h7,Bool.true_and] at hZ
  have hright:G.right (Ss.succs bs)=true:=by
   have:=hso.trans h7
   simp only [Ss.shapeOk,Bool.and_eq_true] at this
   exact this.1.1.1.1
  have hto:=Ss.right_to (f:=⟨⟨fi,fo⟩,ts,bs⟩) hright
  simp only at hto
  have hnl:=G.nearI_len (Ss.succs bs)
  generalize hnr:G.nearI (Ss.succs bs)=near at *
  refine QM (by conv=>lhs;simp[-List.map_set,QV,h7]) ?_
  refine QN ?_
  apply ju
  ·exact Reach.frzCellS (enc:=qK) (s:=3) (fun _=>rfl) zw (k:=2) (j:=3) (i:=9) ds (by decide) (by simp) (by simp) (by rfl) (by rw [hdl]; rfl) (by rfl)
  simp only [List.set_cons_succ,List.set_cons_zero]
  refine ji 5 rfl ((zP (k:=2) (by simp) (by rfl) (by rfl) (by simp))) (by conv=>lhs; simp [Fr.set]) ?_
  simp only [List.set_cons_succ,List.set_cons_zero]
  repeat (first|refine QG ?_|refine QY ?_)
  refine jK [5,54,55,56] (by conv=>lhs; simp [Fr.only,Fr.look]) ?_
  refine zo [] hwf (by decide) (by simp [-List.map_set]) (by conv=>lhs; simp [-List.map_set]) (by conv=>lhs; simp [-List.map_set]) (by conv=>lhs; simp [-List.map_set]) ?_
  have ci : ∀ (i k:Nat) (b:Ss.Block) (x:Ss.Ins),b∈bs→x∈b.code→VPure Tryz.prog 71 [ckV ⟨sg,im,gl,mu,me⟩ ⟨⟨fi,fo⟩,ts,bs⟩ ds near,vnat i,vnat k,jt x] (.bool (Ss.insOk ⟨sg,im,gl,mu,me⟩ ⟨⟨fi,fo⟩,ts,bs⟩ ds near i k x)):=by
   intro i k b x hb hx
   have hbF:=hf.2.2.2 b hb
   have hxF:=hbF.2.1.2 x hx
   have hsmb:=((Ss.small_iff _).1 (hsm.trans h2)).2.1 b hb
   simp only [Ss.Block.small,Bool.and_eq_true,List.all_eq_true,Ss.Ins.small,decide_eq_true_eq] at hsmb
   have hxl:=(hsmb.1.2 x hx).2
   exact ins_v ⟨sg,im,gl,mu,me⟩ ⟨⟨fi,fo⟩,ts,bs⟩ ds near i k x hsl hgl (her h1) hdl (by simp only; omega) (by omega) hxF (by omega) ((hdin b hb).2 x hx)
  have ctm : ∀ (i:Nat) (b:Ss.Block),b∈bs→VPure Tryz.prog 72 [ckV ⟨sg,im,gl,mu,me⟩ ⟨⟨fi,fo⟩,ts,bs⟩ ds near,vnat i,je b] (.bool (Ss.termOk ⟨⟨fi,fo⟩,ts,bs⟩ ds near i b)):=fun i b hb =>
   term_v ⟨sg,im,gl,mu,me⟩ ⟨⟨fi,fo⟩,ts,bs⟩ ds near i b hdl (by simp only; omega) (by omega) (by simp only; omega) (by have:=hf.1.2.1; simp only at this ⊢; omega) (hf.2.2.2 b hb) (hto b hb) (fun b hb=>⟨by have:=(hsf b hb).1; omega,(hdin b hb).1⟩)
  repeat refine QS ?_
  refine jd [5,54,55,56] rfl (fun c σ S' => ∃ (k:Nat),k≤bs.length∧c=bs.length-k∧Ss.checkBlocks ⟨sg,im,gl,mu,me⟩ ⟨⟨fi,fo⟩,ts,bs⟩ ds near k (bs.drop k)=Z∧σ=[(5,ckV ⟨sg,im,gl,mu,me⟩ ⟨⟨fi,fo⟩,ts,bs⟩ ds near),(54,vl je bs),(55,vnat bs.length),(56,vnat k)]∧S'=St S [] []) bs.length ?_ ?_
  ·exact ⟨0,by omega,rfl,hZ,by simp [Fr.only],rfl⟩
  ·rintro c σ T ⟨k,hk,rfl,hcb,rfl,rfl⟩
   by_cases hkt:k<bs.length
   ·have hw:=jn hkt (by omega)
    have hst:=jai (e:=⟨sg,im,gl,mu,me⟩) (f:=⟨⟨fi,fo⟩,ts,bs⟩) (ds:=ds) (near:=near) hkt
    have hmem:=List.getElem_mem hkt
    have hcl:=(hsf _ hmem).2.2.2
    have cti:=ctm k _ hmem
    have cii:=fun j x=>ci k j _ x hmem
    obtain ⟨⟨ps,code,⟨tk,ta,to,az⟩⟩,hx⟩ : ∃ b,bs[k]=b:=⟨_,rfl⟩
    rw [hx] at hst hcl cti cii
    simp only at hst hcl cii
    rw [hst] at hcb
    generalize Ss.termOk ⟨⟨fi,fo⟩,ts,bs⟩ ds near k ⟨ps,code,⟨tk,ta,to,az⟩⟩=tm at *
    repeat (first|refine QG ?_|refine QY ?_ (r:=by conv=>lhs;simp[-List.map_set,QV,hkt,hx]))
    repeat refine QS ?_
    refine jd [5,6,7,54,55,56,62,63,64] rfl (fun c σ S' => ∃ (j:Nat),j≤code.length∧c=code.length-j∧Ss.checkCode ⟨sg,im,gl,mu,me⟩ ⟨⟨fi,fo⟩,ts,bs⟩ ds near k j (code.drop j)=Ss.checkCode ⟨sg,im,gl,mu,me⟩ ⟨⟨fi,fo⟩,ts,bs⟩ ds near k 0 code∧σ=[(5,ckV ⟨sg,im,gl,mu,me⟩ ⟨⟨fi,fo⟩,ts,bs⟩ ds near),(6,vnat k),(7, .ptr (lid S.nx 0) 0),(54,vl je bs),(55,vnat bs.length),(56,vnat k),(62,vl jt code),(63,vnat code.length),(64,vnat j)]∧S'=St S [] [some (6,[vl vint ps,vl jt code, .int .i64 tk, .int .i64 ta,vl jq to,vl vint az])]) code.length ?_ ?_
    ·exact ⟨0,by omega,rfl,rfl,by simp [Fr.only],rfl⟩
    ·rintro c σ T ⟨j,hj,rfl,hcc,rfl,rfl⟩
     by_cases hjt:j<code.length
     ·have hwj:=jn hjt (by omega)
      have hsc:=jbV (e:=⟨sg,im,gl,mu,me⟩) (f:=⟨⟨fi,fo⟩,ts,bs⟩) (ds:=ds) (near:=near) (i:=k) hjt
      have cij:=cii j _ (List.getElem_mem hjt)
      obtain ⟨⟨xo,xn,xa,xu⟩,hx2⟩ : ∃ x,code[j]=x:=⟨_,rfl⟩
      rw [hx2] at hsc cij
      generalize Ss.insOk ⟨sg,im,gl,mu,me⟩ ⟨⟨fi,fo⟩,ts,bs⟩ ds near k j ⟨xo,xn,xa,xu⟩=io at *
      have cij':VPure Tryz.prog 71 [ckV ⟨sg,im,gl,mu,me⟩ ⟨⟨fi,fo⟩,ts,bs⟩ ds near,vnat k,vnat j, .agg [.int .i64 xo, .int .u64 xn,vl vint xa,vl vint xu]] (.bool io):=cij
      repeat (first|refine QG ?_|refine QY ?_ (r:=by conv=>lhs;simp[-List.map_set,QV,hjt,hx2]))
      repeat refine QS ?_
      refine QP ?_ (r:=by conv=>lhs;simp[-List.map_set,QV,hjt,hx2])
      refine jc (cij') (by rfl) ?_
      by_cases hio:io=true
      ·refine QM (by conv=>lhs;simp[-List.map_set,QV,hio]) ?_
       refine QN ?_
       repeat (first|refine QG ?_|refine QY ?_)
       refine QA [0] (h:=⟨?_,j+1,hjt,rfl,by rw [←hcc,hsc,hio,Bool.true_and],by simp [hwj],rfl⟩)
       omega
      ·have hio':io=false:=by simpa using hio
       refine QM (by conv=>lhs;simp[-List.map_set,QV,hio']) ?_
       refine QN ?_
       repeat (first|refine QG ?_|refine QY ?_)
       exact ja hwf (by rw [←hcb, ←hcc,hsc,hio']; simp) rfl
     ·have e1:code.drop j=[]:=by rw [List.drop_eq_nil_iff]; omega
      rw [e1,Ss.checkCode] at hcc
      rw [←hcc,Bool.true_and] at hcb
      have cti':VPure Tryz.prog 72 [ckV ⟨sg,im,gl,mu,me⟩ ⟨⟨fi,fo⟩,ts,bs⟩ ds near,vnat k, .agg [vl vint ps,vl jt code, .int .i64 tk, .int .i64 ta,vl jq to,vl vint az]] (.bool tm):=cti
      repeat (first|refine QG ?_|refine QY ?_ (r:=by conv=>lhs;simp[-List.map_set,QV,hjt]))
      repeat refine QS ?_
      refine QP ?_ (r:=by conv=>lhs;simp[-List.map_set,QV,hjt])
      refine jc (cti') (by rfl) ?_
      by_cases htm:tm=true
      ·refine QM (by conv=>lhs;simp[-List.map_set,QV,htm]) ?_
       refine QN ?_
       repeat (first|refine QG ?_|refine QY ?_)
       refine QA [] (h:=⟨?_,k+1,hkt,rfl,by rw [←hcb,htm,Bool.true_and],by simp [hw],rfl⟩)
       omega
      ·have htm':tm=false:=by simpa using htm
       refine QM (by conv=>lhs;simp[-List.map_set,QV,htm']) ?_
       refine QN ?_
       repeat (first|refine QG ?_|refine QY ?_)
       exact ja hwf (by rw [←hcb,htm']; simp) rfl
   ·have e1:bs.drop k=[]:=by rw [List.drop_eq_nil_iff]; omega
    rw [e1,Ss.checkBlocks] at hcb
    repeat (first|refine QG ?_|refine QY ?_ (r:=by conv=>lhs;simp[-List.map_set,QV,hkt]))
    exact ja hwf (by simp [←hcb]) rfl
end Go.Vw

namespace Go.Vw
open Go.Proofs Go.RowKit
set_option maxRecDepth 10000
set_option maxHeartbeats 8000000
end Go.Vw

namespace Go.Vw
open Go.Proofs Go.RowKit
set_option maxRecDepth 10000
set_option maxHeartbeats 2000000
def sameFn (f g:Ss.Fn):Bool:=f.small&&g.small&&decide (f=g)
end Go.Vw

namespace Ss
def smallF:Fn:=⟨⟨[],[127]⟩,[127],[⟨[],[⟨258,0,[],[]⟩,⟨256,5,[],[0]⟩],⟨4,0,[],[0]⟩⟩]⟩
def env0:Env:=⟨[],0,[],[],false⟩
end Ss
namespace Go.Vw
open Go.Proofs Go.RowKit
set_option maxRecDepth 10000
set_option maxHeartbeats 4000000
theorem Reach.nilCell {N b0:Nat} {σ:Fr} {B:Store} {u:Upds} {l:List (Option (Nat × List V))} {k i s:Nat} {cs:List V} (hk:k<l.length) (hck:(l[k]?).join=some (s,cs)) (hi:cs[i]? = some .nils) :
  Reach N b0 σ (St B u l) σ (St B u (l.set k (some (s,cs.set i (.list []))))):=by
 have:=Reach.cell (N:=N) (b0:=b0) (σ:=σ) (o:=lid B.nx k) (i:=i) (s:=s) (cs:=cs) (Ghost.nils_list (St B u l)) (by simp [V.one]) (by rw [jN]; exact hck) hi (by rw [jN]; exact hck)
 rw [JF hk] at this
 exact this
end Go.Vw

namespace Go.Vw
open Go.Proofs Go.RowKit
set_option maxRecDepth 10000
set_option maxHeartbeats 8000000
def NL (x y:V):Prop:=x=y∨(x = .nils∧y = .list [])
theorem Rep.nl {m:Imm} {β:Objs} {x y:V} {v:Value} (h:Rep m β x v) (hn:NL x y):Rep m β y v:=by
 rcases hn with rfl | ⟨rfl,rfl⟩
 ·exact h
 ·cases h with
  | imm h=>cases h with | nils a=>exact .imm (.list0 a 0 (Nat.zero_le _))
theorem Ghost.agg_nl {S:Store} {xs ys:List V} (hl:xs.length=ys.length) (h : ∀ (i:Nat) (x y:V),xs[i]? = some x→ys[i]? = some y→NL x y):Ghost (.agg xs) S (.agg ys) S:=by
 intro m β w v hS hr
 obtain ⟨vs,rfl,hl2,hrr,h1⟩:=hr.inv_agg
 refine ⟨m,β,hS,Ext.refl _ _ _, .agg ys vs (by omega) (fun i y u hy hu => ?_) h1⟩
 have hi:i<xs.length:=by rw [hl]; exact (List.getElem?_eq_some_iff.1 hy).1
 exact (hrr i xs[i] u (List.getElem?_eq_getElem hi) hu).nl (h i _ y (List.getElem?_eq_getElem hi) hy)
end Go.Vw

namespace Ss
def askedO (u:List Bool) (l:List Int):Bool:=l.any fun o=>decide (0≤o)&&(decide (o<u.length)&&u.getD o.toNat false)
end Ss
namespace Go.Vw
open Go.Proofs Go.RowKit
set_option maxRecDepth 10000
set_option maxHeartbeats 2000000
end Go.Vw

namespace Ss
/-! ### Where values are made -/
def zB (l:List Ins):List Int:=l.flatMap fun x=>x.outs
def allB (b:Block):List Int:=b.params++zB b.code
def allL (bs:List Block):List Int:=bs.flatMap allB
abbrev dAt (ds:List Def) (v:Int):Def:=ds.getD v.toNat default
theorem jbT {ds:List Def} {v w:Int} {d:Def} (h0:0≤v) (h1:v<ds.length) (hw:0≤w):dAt (ds.set v.toNat d) w=if w=v then d else dAt ds w:=by
 by_cases h:w=v
 ·subst h
  rw [if_pos rfl]
  simp only [dAt,List.getD_eq_getElem?_getD]
  rw [List.getElem?_set_self (by omega)]; rfl
 ·rw [if_neg h]
  simp only [dAt,List.getD_eq_getElem?_getD]
  rw [List.getElem?_set_ne (by omega)]
structure Puts (l:List Int) (ds d:List Def):Prop where
 nd:l.Nodup
 pos : ∀ v∈l,0≤v
 new : ∀ v∈l,(dAt ds v).made=false
 keep : ∀ w,0≤w→w∉l→dAt d w=dAt ds w
 made : ∀ v∈l,(dAt d v).made=true
theorem Puts.trans {l m:List Int} {ds d d':List Def} (h:Puts l ds d) (k:Puts m d d'):Puts (l++m) ds d':=by
 have hdis : ∀ v∈l,v∉m:=fun v hv hm=>by
  have h1:=k.new v hm
  rw [h.made v hv] at h1; cases h1
 refine ⟨List.nodup_append.2 ⟨h.nd,k.nd,fun a ha b hb e=>hdis a ha (e▸hb)⟩,fun v hv => ?_,fun v hv => ?_,fun w h0 hw => ?_,fun v hv => ?_⟩
 ·rcases List.mem_append.1 hv with hv | hv
  ·exact h.pos v hv
  ·exact k.pos v hv
 ·rcases List.mem_append.1 hv with hv | hv
  ·exact h.new v hv
  ·by_cases hl:v∈l
   ·exact absurd hv (hdis v hl)
   ·rw [←h.keep v (k.pos v hv) hl]; exact k.new v hv
 ·simp only [List.mem_append,not_or] at hw
  rw [k.keep w h0 hw.2,h.keep w h0 hw.1]
 ·rcases List.mem_append.1 hv with hv | hv
  ·rw [k.keep v (h.pos v hv) (hdis v hv)]; exact h.made v hv
  ·exact k.made v hv
theorem Puts.nil (ds:List Def):Puts [] ds ds:=⟨List.nodup_nil,by simp,by simp,fun _ _ _=>rfl,by simp⟩
theorem Ky {block pos:Int} : ∀ {l:List Int} {ds d:List Def},put block pos ds l=some d→Puts l ds d ∧ ∀ v∈l,dAt d v=⟨true,block,pos⟩
 | [],ds,d,h=>by simp only [put,Option.some.injEq] at h; subst h; exact ⟨.nil _,by simp⟩
 | v::l,ds,d,h=>by
  simp only [put] at h
  split at h
  ·cases h
  ·rename_i hn
   have h0:0≤v:=by omega
   have h1:v<ds.length:=by omega
   have h2:(dAt ds v).made=false:=by
    cases hm:(dAt ds v).made with
    | false=>rfl
    | true=>exact absurd (.inr (.inr hm)) hn
   obtain ⟨k1,k2⟩:=Ky h
   have hp:Puts [v] ds (ds.set v.toNat ⟨true,block,pos⟩) :=
    ⟨by simp,by simpa using h0,by simpa using h2,fun w hw hnw=>by rw [jbT h0 h1 hw,if_neg (by simpa using hnw)],fun w hw=>by
     obtain rfl:w=v:=by simpa using hw
     rw [jbT h0 h1 h0,if_pos rfl]⟩
   refine ⟨hp.trans k1,fun w hw => ?_⟩
   by_cases hl:w∈l
   ·exact k2 w hl
   ·obtain rfl:w=v:=by simpa [hl] using hw
    rw [k1.keep w h0 hl,jbT h0 h1 h0,if_pos rfl]
theorem Jq {i:Int} : ∀ {l:List Ins} {k:Nat} {ds d:List Def},putCode i k ds l=some d→Puts (zB l) ds d ∧ ∀ (j:Nat) (x:Ins),l[j]? = some x → ∀ v∈x.outs,dAt d v=⟨true,i,((k+j:Nat):Int)⟩
 | [],k,ds,d,h=>by simp only [putCode,Option.some.injEq] at h; subst h; exact ⟨.nil _,by simp⟩
 | x::l,k,ds,d,h=>by
  simp only [putCode] at h
  obtain ⟨d1,h1,h2⟩:=Option.bind_eq_some_iff.1 h
  obtain ⟨p1,q1⟩:=Ky h1
  obtain ⟨p2,q2⟩:=Jq h2
  refine ⟨p1.trans p2,fun j y hj v hv => ?_⟩
  cases j with
  | zero =>
   simp only [List.getElem?_cons_zero,Option.some.injEq] at hj
   subst hj
   have hn:v∉zB l:=fun hm=>by
    have:=p2.new v hm
    rw [p1.made v hv] at this; cases this
   rw [p2.keep v (p1.pos v hv) hn,q1 v hv]; rfl
  | succ j =>
   have:=q2 j y (by simpa using hj) v hv
   rw [this]; congr 2; omega
theorem Jw : ∀ {l:List Block} {i:Nat} {ds d:List Def},putBlocks i ds l=some d→Puts (allL l) ds d ∧ ∀ (j:Nat) (b:Block),l[j]? = some b → ∀ (k:Nat) (x:Ins),b.code[k]? = some x → ∀ v∈x.outs,dAt d v=⟨true,((i+j:Nat):Int),(k:Int)⟩
 | [],i,ds,d,h=>by simp only [putBlocks,Option.some.injEq] at h; subst h; exact ⟨.nil _,by simp⟩
 | b::l,i,ds,d,h=>by
  simp only [putBlocks] at h
  obtain ⟨d2,h1,h2⟩:=Option.bind_eq_some_iff.1 h
  obtain ⟨d1,h3,h4⟩:=Option.bind_eq_some_iff.1 h1
  obtain ⟨p1,_⟩:=Ky h3
  obtain ⟨p2,q2⟩:=Jq h4
  obtain ⟨p3,q3⟩:=Jw h2
  refine ⟨(p1.trans p2).trans p3,fun j y hj k x hk v hv => ?_⟩
  cases j with
  | zero =>
   simp only [List.getElem?_cons_zero,Option.some.injEq] at hj
   subst hj
   have hm:v∈zB b.code:=List.mem_flatMap.2 ⟨x,List.mem_of_getElem? hk,hv⟩
   have hn:v∉allL l:=fun hm'=>by
    have:=p3.new v hm'
    rw [p2.made v hm] at this; cases this
   rw [p3.keep v (p2.pos v hm) hn,q2 k x hk v hv]; simp
  | succ j =>
   have:=q3 j y (by simpa using hj) k x hk v hv
   rw [this]; congr 2; omega
theorem dAt_rep (n:Nat) (v:Int):(dAt (List.replicate n ⟨false,0,0⟩) v).made=false:=by
 simp only [dAt,List.getD_eq_getElem?_getD,List.getElem?_replicate]
 split<;>rfl
theorem zN {f:Fn} {ds:List Def} (h:defsOf f=some ds):(allL f.blocks).Nodup∧(∀ v,0≤v→(dAt ds v).made=true→v∈allL f.blocks) ∧ ∀ (i:Nat) (b:Block),f.blocks[i]? = some b → ∀ (k:Nat) (x:Ins),b.code[k]? = some x → ∀ v∈x.outs,dAt ds v=⟨true,(i:Int),(k:Int)⟩:=by
 obtain ⟨p,q⟩:=Jw h
 refine ⟨p.nd,fun v h0 hm => ?_,fun i b hb k x hx v hv=>by simpa using q i b hb k x hx v hv⟩
 refine Classical.byContradiction fun hn => ?_
 rw [p.keep v h0 hn,dAt_rep] at hm
 cases hm
/-! ### Who asks -/
theorem jae {α:Type} {p:α→α→Bool} : ∀ {l m:List α},Go.Vw.eqF p l m=true → ∀ x∈l, ∃ y,p x y=true
 | [],_,_,x,hx=>by cases hx
 | a::l,[],h,x,hx=>by simp [Go.Vw.eqF] at h
 | a::l,b::m,h,x,hx=>by
  simp only [Go.Vw.eqF,Bool.and_eq_true] at h
  rcases List.mem_cons.1 hx with rfl | hx
  ·exact ⟨b,h.1⟩
  ·exact jae h.2 x hx
theorem qZ {e:Env} {f:Fn} {ds:List Def} {near:List Int} {i:Int} : ∀ {l:List Ins} {k j:Nat} {x:Ins},checkCode e f ds near i k l=true→l[j]? = some x→insOk e f ds near i ((k+j:Nat):Int) x=true
 | [],k,j,x,_,hx=>by simp at hx
 | y::l,k,j,x,h,hx=>by
  simp only [checkCode,Bool.and_eq_true] at h
  cases j with
  | zero=>simp only [List.getElem?_cons_zero,Option.some.injEq] at hx; subst hx; exact h.1
  | succ j =>
   have:=qZ h.2 (j:=j) (x:=x) (by simpa using hx)
   rw [show k+(j+1)=k+1+j by omega]; exact this
theorem qu {e:Env} {f:Fn} {ds:List Def} {near:List Int} : ∀ {l:List Block} {i j:Nat} {b:Block},checkBlocks e f ds near i l=true→l[j]? = some b→checkCode e f ds near ((i+j:Nat):Int) 0 b.code=true∧termOk f ds near ((i+j:Nat):Int) b=true
 | [],i,j,b,_,hb=>by simp at hb
 | y::l,i,j,b,h,hb=>by
  simp only [checkBlocks,Bool.and_eq_true] at h
  cases j with
  | zero=>simp only [List.getElem?_cons_zero,Option.some.injEq] at hb; subst hb; exact h.1
  | succ j =>
   have:=qu h.2 (j:=j) (b:=b) (by simpa using hb)
   rw [show i+(j+1)=i+1+j by omega]; exact this
theorem insOk_asks {e:Env} {f:Fn} {ds:List Def} {near:List Int} {i k:Int} {x:Ins} (h:insOk e f ds near i k x=true):asks f.types ds near i k x.args (form e x.op x.n (insOut f.types x)).inn=true:=by
 simp only [insOk,Bool.and_eq_true] at h
 exact h.2
theorem check_spec {e:Env} {f:Fn} (h:check e f=true):checkHead e f=true ∧ ∃ ds,defsOf f=some ds∧shapeOk f=true∧checkBlocks e f ds (Go.Vw.G.nearI (succs f.blocks)) 0 f.blocks=true:=by
 simp only [check,Bool.and_eq_true] at h
 refine ⟨h.1, ?_⟩
 cases hd:defsOf f with
 | none=>rw [hd] at h; simp at h
 | some ds =>
  rw [hd] at h
  simp only [Bool.and_eq_true] at h
  exact ⟨ds,rfl,h.2.1,h.2.2⟩
end Ss
namespace Go.Vw
open Go.Proofs Go.RowKit
end Go.Vw

namespace Ss
def scanRow (head:Int) (i:Nat) (l:List Int) (st:Int × Nat):Int × Nat:=l.foldl (fun st to=>if to=head then ((i:Int),st.2+1) else st) st
def scanG (head:Int) (nodes:List Int):Nat→List (List Int)→Int × Nat→Int × Nat
 | _,[],st=>st
 | i,l::r,st=>scanG head nodes (i+1) r (if (i:Int)∈nodes then st else scanRow head i l st)
def porch (bs:List Block) (head:Int) (nodes:List Int):Option Int :=
 if (scanG head nodes 0 (succs bs) (0,0)).2≠1∨(bs.getD (scanG head nodes 0 (succs bs) (0,0)).1.toNat default).term.kind≠1 then none else some (scanG head nodes 0 (succs bs) (0,0)).1
theorem jaI (head:Int) (i:Nat) : ∀ (l:List Int) (st:Int × Nat),scanRow head i l st=if l.count head=0 then st else ((i:Int),st.2+l.count head)
 | [],st=>by simp [scanRow]
 | a::l,st=>by
  have ih:=jaI head i l
  unfold scanRow at ih ⊢
  rw [List.foldl_cons,ih]
  by_cases e:a=head
  ·subst e
   simp only [if_true,List.count_cons_self,Nat.add_eq_zero_iff,Nat.one_ne_zero,and_false,if_false]
   split
   ·rename_i h0; rw [h0]
   ·exact Prod.ext rfl (by show st.2+1+List.count a l=st.2+(List.count a l+1); omega)
  ·rw [if_neg e,List.count_cons_of_ne (by simpa using e)]
theorem scan_spec (head:Int) (nodes:List Int) : ∀ (rows:List (List Int)) (i:Nat) (st:Int × Nat),st.2≤(scanG head nodes i rows st).2 ∧
  ((scanG head nodes i rows st).2=st.2→scanG head nodes i rows st=st ∧ ∀ (j:Nat) l,rows[j]? = some l→((i+j:Nat):Int)∉nodes→head∉l) ∧
  ((scanG head nodes i rows st).2=st.2+1 → ∃ (j:Nat) (l:List Int),rows[j]? = some l∧((i+j:Nat):Int)∉nodes∧head∈l∧(scanG head nodes i rows st).1=((i+j:Nat):Int) ∧ ∀ (j':Nat) l',rows[j']? = some l'→((i+j':Nat):Int)∉nodes→head∈l'→j'=j)
 | [],i,st=>⟨Nat.le_refl _,fun _=>⟨rfl,by simp⟩,fun h=>by simp [scanG] at h⟩
 | l::r,i,st=>by
  have hsh : ∀ j:Nat,i+1+j=i+(j+1):=fun j=>by omega
  rw [scanG]
  by_cases hn:(i:Int)∈nodes
  ·rw [if_pos hn]
   obtain ⟨h1,h2,h3⟩:=scan_spec head nodes r (i+1) st
   refine ⟨h1,fun h => ?_,fun h => ?_⟩
   ·obtain ⟨e,k⟩:=h2 h
    refine ⟨e,fun j m hm hj => ?_⟩
    cases j with
    | zero=>exact absurd hn (by simpa using hj)
    | succ j=>exact k j m (by simpa using hm) (by rw [hsh]; exact hj)
   ·obtain ⟨j,m,a1,a2,a3,a4,a5⟩:=h3 h
    refine ⟨j+1,m,by simpa using a1,by rw [←hsh]; exact a2,a3,by rw [a4,hsh],fun j' l' b1 b2 b3 => ?_⟩
    cases j' with
    | zero=>exact absurd hn (by simpa using b2)
    | succ j'=>rw [a5 j' l' (by simpa using b1) (by rw [hsh]; exact b2) b3]
  ·rw [if_neg hn]
   obtain ⟨h1,h2,h3⟩:=scan_spec head nodes r (i+1) (scanRow head i l st)
   have e:=jaI head i l st
   by_cases h0:l.count head=0
   ·rw [if_pos h0] at e
    rw [e] at h1 h2 h3 ⊢
    have hnl:head∉l:=List.count_eq_zero.1 h0
    refine ⟨h1,fun h => ?_,fun h => ?_⟩
    ·obtain ⟨e,k⟩:=h2 h
     refine ⟨e,fun j m hm hj => ?_⟩
     cases j with
     | zero=>simp only [List.getElem?_cons_zero,Option.some.injEq] at hm; subst hm; exact hnl
     | succ j=>exact k j m (by simpa using hm) (by rw [hsh]; exact hj)
    ·obtain ⟨j,m,a1,a2,a3,a4,a5⟩:=h3 h
     refine ⟨j+1,m,by simpa using a1,by rw [←hsh]; exact a2,a3,by rw [a4,hsh],fun j' l' b1 b2 b3 => ?_⟩
     cases j' with
     | zero=>simp only [List.getElem?_cons_zero,Option.some.injEq] at b1; subst b1; exact absurd b3 hnl
     | succ j'=>rw [a5 j' l' (by simpa using b1) (by rw [hsh]; exact b2) b3]
   ·rw [if_neg h0] at e
    rw [e] at h1 h2 h3 ⊢
    simp only at h1 h2 h3 ⊢
    have hin:head∈l:=List.count_pos_iff.1 (by omega)
    refine ⟨by omega,fun h=>by omega,fun h => ?_⟩
    obtain ⟨e2,k⟩:=h2 (by omega)
    refine ⟨0,l,rfl,by simpa using hn,hin,by rw [e2]; simp,fun j' l' b1 b2 b3 => ?_⟩
    cases j' with
    | zero=>rfl
    | succ j'=>exact absurd b3 (k j' l' (by simpa using b1) (by rw [hsh]; exact b2))
theorem porch_spec {bs:List Block} {head p:Int} {nodes:List Int} (h:porch bs head nodes=some p) : ∃ (i:Nat) (b:Block),p=i∧bs[i]? = some b∧b.term.kind=1∧(i:Int)∉nodes∧head∈rowOf b ∧ ∀ (j:Nat) (c:Block),bs[j]? = some c→(j:Int)∉nodes→head∈rowOf c→j=i:=by
 unfold porch at h
 split at h
 ·cases h
 ·rename_i hc
  have h2:(scanG head nodes 0 (succs bs) (0,0)).2=1:=by
   by_cases e:(scanG head nodes 0 (succs bs) (0,0)).2=1
   ·exact e
   ·exact absurd (.inl e) hc
  have h3:(bs.getD (scanG head nodes 0 (succs bs) (0,0)).1.toNat default).term.kind=1:=by
   by_cases e:(bs.getD (scanG head nodes 0 (succs bs) (0,0)).1.toNat default).term.kind=1
   ·exact e
   ·exact absurd (.inr e) hc
  obtain ⟨j,l,a1,a2,a3,a4,a5⟩:=(scan_spec head nodes (succs bs) 0 (0,0)).2.2 h2
  rw [Nat.zero_add] at a2 a4
  cases h
  rw [a4] at h3 ⊢
  rw [Int.toNat_natCast] at h3
  simp only [succs,List.getElem?_map,Option.map_eq_some_iff] at a1
  obtain ⟨b,hb,rfl⟩:=a1
  refine ⟨j,b,rfl,hb, ?_,a2,a3,fun j' c hc' hj' hh=>a5 j' (rowOf c) (by simp [succs,hc']) (by rw [Nat.zero_add]; exact hj') hh⟩
  rw [List.getD_eq_getElem?_getD,hb] at h3
  exact h3
end Ss
