import Derived.Test.YtkfllaokjaldnaaGreatC12
/- Part of the proof. -/
set_option linter.unusedVariables false
set_option linter.unusedSimpArgs false
set_option maxRecDepth 10000
set_option maxHeartbeats 8000000
/-
 Is a slice nil? Only where it is empty.
-/
namespace Go.Vw
open Go.RowKit
section
variable {P:Program} {N b:Nat} {Q:Exit->Fr->Store->Prop} {σ:Fr} {S:Store}
theorem aqn {m:Imm} {β:Objs} {l:List V} {v:Value} (h:Rep m β (.list l) v) : ∃ ad len cap,v = .slice ad len cap/\(ad=none->l=[]):=by
 have:=h.inv_list;generalize hl:V.list l=x at this
 cases this with
 | list0 a cap hc=>cases hl; exact ⟨a,0,cap,rfl,fun _=>rfl⟩
 | list xs vs b off cap s arr T fz hm hl' hc hcm hs hr hcells=>cases hl; exact ⟨some ⟨b,off,none⟩,_,cap,rfl,fun h=>by cases h⟩
 | _=>cases hl
theorem aon {t e:TypeId} (ht:P.underlying t=some (.slice e)) (ad:Option Addr) (len cap:Nat) (w:World):(Op.equal t (.slice ad len cap) (.slice none 0 0)).run P w = .ok ad.isNone w:=by
 have hd:Op.maxDepth=9999+1:=rfl;unfold Op.equal;rw [hd];unfold Op.equalIn
 cases ad<;>simp [run_underlying ht]
theorem arp {c:Code} {o1 o2:Oper} {d1 d2 s:Nat} {t t' e:TypeId} {y u:Operand} {l:List V} (h:Code.kind c=1) (hops:(Code.ops c).toList=[o1,o2]) (h1:Wy P N (Code.ops c) o1=some ⟨some d1,none, .move (.tmp s)⟩) (hg1:o1.guard=none)
  (hop:o2.op = .binOp .eql t y u t') (hg:o2.guard=none) (hd:o2.dst=some d2) (hlt:decide (d2<N)=true) (hy:jt y=some (.tmp d1)) (hu:u = .const (.slice none 0 0)) (ht:P.underlying t=some (.slice e)) (hv:σ.lk s = .list l)
  (H : ∀ b:Bool,(b=true->l=[])->Q .normal ((σ.set d1 (.list l)).set d2 (.bool b)) S):VWp P N b c Q σ S:=by
 cases c with
 | region id ops dr =>
  cases dr
  .intro m β w a hS hF;refine wp_region_list ?_;simp only [Code.ops] at hops h1;rw [hops];simp only [wpList];have hw1:Region.wanted o1 (yielded ops a.tmps)=true:=by simp [Region.wanted,hg1]
   rw [if_pos hw1];refine .inl ?_;obtain ⟨c1,c2,c3,c4⟩:=Zw h1;simp only at c2;refine jan (N:=N) (b:=b) (m0:=m) (β0:=β) (w0:=w) (k:=fun x S'=>x = .list l/\S'=S) c1 c4 (by simp [vop,jh,ev,hv]) hS hF (ExtB.refl _ _ _ _) ?_;rintro x S' m' β' w' a' ⟨rfl,rfl⟩ k2 k3 k4;rw [<-c2] at k3;have hw2:Region.wanted o2 (yielded ops a'.tmps)=true:=by simp [Region.wanted,hg]
   rw [if_pos hw2];refine .inl ?_;have hF':FrameRep N m' β' (σ.set d1 (.list l)) a':=k3;have hr:=jG hF' hy;have hl:ev (σ.set d1 (.list l)) (.tmp d1) = .list l:=by simp [ev,Fr.look_set]
   rw [hl] at hr;obtain ⟨ad,len,cap,e1,e2⟩:=aqn hr;have e3:a'.eval u = .slice none 0 0:=by rw [hu]; rfl
   have hgd:(eqGuard .eql t y u (.slice ad len cap) (.slice none 0 0)).run P w' = .ok () w':=rfl;have hrun:(execOp a'.eval o2).run P w' = .ok (.value (.bool ad.isNone)) w':=by
    simp [execOp,hop,e1,e3,hgd,binOp,aon ht]
   unfold Oper.wp;rw [hrun];refine ⟨_,S',m',β',H ad.isNone (fun hn=>e2 (by simpa using hn)),k2, ?_,k4⟩;have:=hF'.put o2.dst (fun t ht=>by rw [hd] at ht; cases ht; exact aP hlt) (x := .bool ad.isNone) (v := .bool ad.isNone) (.imm (.bool _));rw [hd] at this ⊢;exact this
  .simp [Code.kind] at h
 | _=>simp [Code.kind] at h
end
section
variable {P:Program} {N b:Nat} {Q:Exit->Fr->Store->Prop} {σ:Fr} {S:Store}
theorem JP {c c2:Code} {cs:List CO} {Q2:Exit->Fr->Store->Prop} (zc zs:Store) (es:List Nat) (n0 i j:Nat) (ord1 ord2:List Nat) (h:Code.kind c=2) (hm:P.follows .mixedOrders=true) (hc:qj P N (Code.ops c)=some cs) (hnc:callsOk cs i j n0=true) (hij:i≠j)
  (hp:jaP es (qV (Code.ops c)) (Code.ops c) cs n0 0 (Array.replicate (Code.ops c).size false)=true)
  (hi:(zw n0 0 (Array.replicate (Code.ops c).size false)).getD i true=false) (hj:(zw n0 0 (Array.replicate (Code.ops c).size false)).getD j true=false)
  (hu:(List.range n0).all (fun k=>(zw n0 0 (Array.replicate (Code.ops c).size false)).getD k true)=true)
  (hB1:lexO es (qV (jA (Code.ops c) j i)) (jA (Code.ops c) j i) cs ord1 (zw n0 0 (Array.replicate (Code.ops c).size false))=true) (hB2:lexO es (qV (jA (Code.ops c) i j)) (jA (Code.ops c) i j) cs ord2 (zw n0 0 (Array.replicate (Code.ops c).size false))=true)
  (hn0:decide (n0<=(Code.ops c).size)=true) (hn1:ord1.length+n0=(Code.ops c).size) (hn2:ord2.length+n0=(Code.ops c).size) (hE:zD (qV (Code.ops c)) cs es=true) (hz:(ZZ.mk S zc zs es).ok S)
  {cs0 cs1 cs2:List CO} (hp0:cs.take n0=cs0) (hp1:ZG cs ord1=cs1) (hp2:ZG cs ord2=cs2)
  (H:jI P (some (ZZ.mk S zc zs es)) cs0 (fun σ1 S1 => ∃ σm Sm,VWp P N b c2 Q2 σm Sm/\jI P (some (ZZ.mk S zc zs es)) cs1 (fun σ S=>Reach N b σ S σm Sm) σ1 S1/\jI P (some (ZZ.mk S zc zs es)) cs2 (fun σ S=>Reach N b σ S σm Sm) σ1 S1) σ S):VWp P N b c (JS (VWp P N b c2 Q2) Q) σ S :=
 afh (ZZ.mk S zc zs es) n0 i j ord1 ord2 h hm hc hnc hij hp hi hj hu hB1 hB2 hn0 hn1 hn2 hE hz S.sub_refl hp0 hp1 hp2 H
end
end Go.Vw
namespace Ss
def putv (to:List Int) (v:Int):Int:=if 0<=v/\v<to.length then to.getD v.toNat 0 else v
def repIns (to:List Int) (x:Ins):Ins:=⟨x.op,x.n,x.args.map (putv to),x.outs⟩
def repEdge (to:List Int) (x:Edge):Edge:=⟨x.to,x.args.map (putv to)⟩
def repTerm (to:List Int) (t:Term):Term:=⟨t.kind,if t.kind=2\/t.kind=3 then putv to t.arg else t.arg,t.to.map (repEdge to),t.args.map (putv to)⟩
def repBlock (to:List Int) (b:Block):Block:=⟨b.params,b.code.map (repIns to),repTerm to b.term⟩
def replace (f:Fn) (to:List Int):Fn:=⟨f.sig,f.types,f.blocks.map (repBlock to)⟩
theorem jcO:putv []=fun v=>v:=by funext v; simp [putv]; omega
theorem repIns_nil (x:Ins):repIns [] x=x:=by simp [repIns,jcO]
theorem repEdge_nil (x:Edge):repEdge [] x=x:=by simp [repEdge,jcO]
theorem repTerm_nil (t:Term):repTerm [] t=t:=by
 have:repEdge []=id:=by funext x; exact repEdge_nil x
 simp [repTerm,jcO,this]
theorem repBlock_nil (b:Block):repBlock [] b=b:=by
 have:repIns []=id:=by funext x; exact repIns_nil x
 simp [repBlock,repTerm_nil,this]
theorem replace_nil (f:Fn):replace f []=f:=by
 have:repBlock []=id:=by funext x; exact repBlock_nil x
 simp [replace,this]
end Ss
namespace Go.Vw
open Go.Proofs Go.RowKit
theorem Agree.St {S B:Store} {l:List (Option (Nat × List V))} (h:Agree S B):Agree S (St B [] l):=by
 refine ⟨by rw [jR,lid]; have:=h.1; omega,fun o ho => ?_⟩;rw [jk (aS ho h.1)];exact h.2 o ho
end Go.Vw
namespace Ss
end Ss
namespace Go.Vw
open Go.Proofs Go.RowKit
theorem qA (l:List Int):jq cj l=l.map cj:=by
 induction l with
 | nil=>rfl
 | cons x l ih =>
  simp only [jq,List.flatMap_cons,List.map_cons] at ih ⊢;rw [ih]; rfl
end Go.Vw
namespace Go.Vw
open Go.Proofs Go.RowKit
attribute [-simp] List.map_set
theorem Check_v (e:Ss.Env) (f:Ss.Fn) (he:e.Fits) (hf:f.Fits):VPure Tryz.prog 23 [qQ e,jM f] (.bool (Ss.check e f)):=by
 intro S;have cer:=akc e he;have csm:=jcx f hf;have hsb := @qn f;have ckt:VPure Tryz.prog 65 [.int .i64 2048,vl cj f.types] (.bool (Ss.kinds 2048 f.types)):=jcY 2048 f.types (by have:=hf.2.1.1; omega);have csr:=jbJ f.sig hf.1;have cpa:=ayq f.blocks (fun b=>decide (256<b.params.length)) 68 [] rfl (by have:=hf.2.2.1; omega) (fun b _=>arc b);have hpa:(f.blocks.all fun b=>decide (b.params.length<=256)) = !(f.blocks.any fun b=>decide (256<b.params.length)):=by
  rw [List.not_any_eq_all_not]; congr 1; funext b; by_cases h:b.params.length<=256<;>simp [h]<;>omega
 have hH:Ss.checkHead e f=(e.right&&f.small&&decide (f.blocks.length<=256)&&Ss.kinds 2048 f.types&&f.sig.right && !(f.blocks.any fun b=>decide (256<b.params.length))):=by rw [<-hpa]; rfl
 have hX:Ss.check e f=(Ss.checkHead e f&&match Ss.defsOf f with
  | none=>false
  | some ds=>Ss.shapeOk f&&Ss.cH e f ds (G.cD (Ss.succs f.blocks)) 0 f.blocks):=rfl
 have hks:Ss.kinds 2048 f.types=true->f.types.length<=2048:=by
  intro h; simp only [Ss.kinds,af,aj] at h; exact h.1
 have her:e.right=true->e.muts.length=e.globals.length:=by
  intro h; simp only [Ss.Env.right,af,aj] at h; exact h.1.1.2
 rw [hX,hH];generalize (f.blocks.any fun b=>decide (256<b.params.length))=pa at *
 generalize e.right=er at *
 generalize hsm:f.small=sm at *
 generalize Ss.kinds 2048 f.types=kt at *
 generalize f.sig.right=sr at *
 have hsl:=he.1.1;have hgl:=he.2.2.1.1;obtain ⟨sg,im,gl,mu,me⟩:=e;obtain ⟨⟨fi,fo⟩,ts,bs⟩:=f;simp only at *
 have cer':VPure Tryz.prog 63 [.agg [vl jn sg, .int .i64 im,vl cj gl,vl V.bool mu, .bool me]] (.bool er):=cer;have csm':VPure Tryz.prog 64 [.agg [vl cj fi,vl cj fo,vl cj ts,vl je bs]] (.bool sm):=csm;have csr':VPure Tryz.prog 66 [.agg [vl cj fi,vl cj fo]] (.bool sr):=csr;generalize hZ:(match Ss.defsOf ⟨⟨fi,fo⟩,ts,bs⟩ with
  | none=>false
  | some ds=>Ss.shapeOk ⟨⟨fi,fo⟩,ts,bs⟩&&Ss.cH ⟨sg,im,gl,mu,me⟩ ⟨⟨fi,fo⟩,ts,bs⟩ ds (G.cD (Ss.succs bs)) 0 bs)=Z
 refine b7 Tryz.func23 Tryz.ntmps23 fun hwf=>?_
 refine bz ?_
 refine QP ?_;refine QL (cer') ?_
 by_cases h1:er=true
 case neg =>
  have h1':er=false:=by simpa using h1
  refine bJ h1' ?_;refine bW ?_
  exact ja hwf (by simp [h1']) rfl
 refine bJ h1 ?_;refine QL (csm') ?_
 by_cases h2:sm=true
 case neg =>
  have h2':sm=false:=by simpa using h2
  refine bJ h2' ?_;refine bW ?_
  exact ja hwf (by simp [h2']) rfl
 by_cases h3:(256:Int)<(bs.length:Int)
 .refine bK h2 h3 ?_;refine bW ?_
  exact ja hwf (by rw [show decide (bs.length<=256)=false by simp; omega]; simp) rfl
 have h3':bs.length<=256:=by omega
 refine bK h2 h3 ?_;refine QL (ckt) ?_
 by_cases h4:kt=true
 case neg =>
  have h4':kt=false:=by simpa using h4
  refine bJ h4' ?_;refine bW ?_
  exact ja hwf (by simp [h4']) rfl
 refine bJ h4 ?_;refine QL (csr') ?_
 by_cases h5:sr=true
 case neg =>
  have h5':sr=false:=by simpa using h5
  refine bJ h5' ?_;refine bW ?_
  exact ja hwf (by simp [h5']) rfl
 rw [h1,h2,h4,h5,bv h3'];simp only [aE];have htl:=hks h4;obtain ⟨_,_,hsf,_⟩:=hsb h2;refine bJ h5 ?_;refine bW ?_
 refine QP ?_;refine QL (cpa) ?_
 by_cases h6:pa=true
 .refine bJ h6 ?_;refine bW ?_
  exact ja hwf (by simp [h6]) rfl
 have h6':pa=false:=by simpa using h6
 rw [h6'];simp only [Bool.not_false,aE];refine bJ h6' ?_;refine jK rfl (arf _ ⟨sg,im,gl,mu,me⟩ ⟨⟨fi,fo⟩,ts,bs⟩ (lid S.nx 2) hf (by simp only; omega) (by simp)) ?_;rintro X S' ⟨ds,hdl,rfl,hdd,rfl⟩;rw [St_St (by rw [jR]; simp [lid]),JM (by simp),jbn,jR,lid_lid];simp only [aq,au,bl,bm,aC,aM,a8,Nat.add_zero]
 cases hdf:Ss.defsOf ⟨⟨fi,fo⟩,ts,bs⟩ with
 | none =>
  rw [hdf] at hZ;simp only at hZ;obtain ⟨z,hz⟩ : ∃ z,(none:Option (List Ss.Def)).isSome=z:=⟨_,rfl⟩
  have hz':z=false:=by rw [<-hz]; rfl
  rw [hz];refine bJ hz' ?_;refine bW ?_
  exact ja hwf (by simp [<-hZ]) rfl
 | some ds2 =>
  obtain rfl:=hdd _ hdf;rw [hdf] at hZ;simp only at hZ;obtain ⟨hdl2,hdin⟩:=Ss.defs_in hdf;simp only at hdin;obtain ⟨z,hz⟩ : ∃ z,(some ds:Option (List Ss.Def)).isSome=z:=⟨_,rfl⟩
  have hz':z=true:=by rw [<-hz]; rfl
  rw [hz];refine bJ hz' ?_;refine jK rfl (au3 _ ⟨sg,im,gl,mu,me⟩ ⟨⟨fi,fo⟩,ts,bs⟩ (lid S.nx 2) (lid S.nx 3) hf (hsm.trans h2) (by simp [hdl]) (by simp [lid]) (fun b hb=>(hdin b hb).1)) ?_;rintro X S' ⟨nv,hnv,rfl,hnvv,rfl⟩;rw [JM (by simp)];simp only [aq,au];generalize hso:Ss.shapeOk ⟨⟨fi,fo⟩,ts,bs⟩=so at *
  by_cases h7:so=true
  case neg =>
   have h7':so=false:=by simpa using h7
   refine bJ h7' ?_;refine bW ?_
   exact ja hwf (by simp [<-hZ,h7']) rfl
  have hnv2:=hnvv h7;subst hnv2;rw [h7,aE] at hZ;have hright:G.right (Ss.succs bs)=true:=by
   have:=hso.trans h7;simp only [Ss.shapeOk,af] at this;exact this.1.1.1.1
  have hto:=Ss.right_to (f:=⟨⟨fi,fo⟩,ts,bs⟩) hright;simp only at hto;have hnl:=G.adn (Ss.succs bs);generalize hnr:G.cD (Ss.succs bs)=near at *
  refine bJ h7 ?_;refine QN ?_
  apply jv
  .exact Reach.frzCellS (enc:=qL) (s:=3) (fun _=>rfl) zC (k:=2) (j:=3) (i:=9) ds (by decide) (by simp) (by simp) (by rfl) (by rw [hdl]; rfl) (by rfl)
  simp only [aq,au];refine QH 5 2 ?_
  refine bz ?_
  refine QO [5,54,55,56] ?_;refine QK [] ?_;have ci : ∀ (i k:Nat) (b:Ss.Block) (x:Ss.Ins),b∈bs->x∈b.code->VPure Tryz.prog 71 [ckV ⟨sg,im,gl,mu,me⟩ ⟨⟨fi,fo⟩,ts,bs⟩ ds near,cu i,cu k,js x] (.bool (Ss.insOk ⟨sg,im,gl,mu,me⟩ ⟨⟨fi,fo⟩,ts,bs⟩ ds near i k x)):=by
   intro i k b x hb hx;have hbF:=hf.2.2.2 b hb;have hxF:=hbF.2.1.2 x hx;have hsmb:=((Ss.aao _).1 (hsm.trans h2)).2.1 b hb;simp only [Ss.Block.small,af,aD,Ss.Ins.small,aj] at hsmb;have hxl:=(hsmb.1.2 x hx).2;exact azg ⟨sg,im,gl,mu,me⟩ ⟨⟨fi,fo⟩,ts,bs⟩ ds near i k x hsl hgl (her h1) hdl (by simp only; omega) (by omega) hxF (by omega) ((hdin b hb).2 x hx)
  have ctm : ∀ (i:Nat) (b:Ss.Block),b∈bs->VPure Tryz.prog 72 [ckV ⟨sg,im,gl,mu,me⟩ ⟨⟨fi,fo⟩,ts,bs⟩ ds near,cu i,je b] (.bool (Ss.termOk ⟨⟨fi,fo⟩,ts,bs⟩ ds near i b)):=fun i b hb =>
   axt ⟨sg,im,gl,mu,me⟩ ⟨⟨fi,fo⟩,ts,bs⟩ ds near i b hdl (by simp only; omega) (by omega) (by simp only; omega) (by have:=hf.1.2.1; simp only at this ⊢; omega) (hf.2.2.2 b hb) (hto b hb) (fun b hb=>⟨by have:=(hsf b hb).1; omega,(hdin b hb).1⟩)
  refine bX [5,54,55,56] (fun c σ S' => ∃ (k:Nat),k<=bs.length/\c=bs.length-k/\Ss.cH ⟨sg,im,gl,mu,me⟩ ⟨⟨fi,fo⟩,ts,bs⟩ ds near k (bs.drop k)=Z/\σ=[(5,ckV ⟨sg,im,gl,mu,me⟩ ⟨⟨fi,fo⟩,ts,bs⟩ ds near),(54,vl je bs),(55,cu bs.length),(56,cu k)]/\S'=St S [] []) bs.length ?_ ?_
  .exact ⟨0,by omega,rfl,hZ,by simp [Fr.oy],rfl⟩
  .rintro c σ T ⟨k,hk,rfl,hcb,rfl,rfl⟩
   by_cases hkt:k<bs.length
   .have hw:=jg hkt (by omega);have hst:=jbh (e:=⟨sg,im,gl,mu,me⟩) (f:=⟨⟨fi,fo⟩,ts,bs⟩) (ds:=ds) (near:=near) hkt;have hmem:=ah hkt;have hcl:=(hsf _ hmem).2.2.2;have cti:=ctm k _ hmem;have cii:=fun j x=>ci k j _ x hmem
    obtain ⟨⟨ps,code,⟨tk,ta,to,az⟩⟩,hx⟩ : ∃ b,bs[k]=b:=⟨_,rfl⟩
    rw [hx] at hst hcl cti cii;simp only at hst hcl cii;rw [hst] at hcb;generalize Ss.termOk ⟨⟨fi,fo⟩,ts,bs⟩ ds near k ⟨ps,code,⟨tk,ta,to,az⟩⟩=tm at *
    refine bF hkt hx ?_
    refine bX [5,6,7,54,55,56,62,63,64] (fun c σ S' => ∃ (j:Nat),j<=code.length/\c=code.length-j/\Ss.cx ⟨sg,im,gl,mu,me⟩ ⟨⟨fi,fo⟩,ts,bs⟩ ds near k j (code.drop j)=Ss.cx ⟨sg,im,gl,mu,me⟩ ⟨⟨fi,fo⟩,ts,bs⟩ ds near k 0 code/\σ=[(5,ckV ⟨sg,im,gl,mu,me⟩ ⟨⟨fi,fo⟩,ts,bs⟩ ds near),(6,cu k),(7, .ptr (lid S.nx 0) 0),(54,vl je bs),(55,cu bs.length),(56,cu k),(62,vl js code),(63,cu code.length),(64,cu j)]/\S'=St S [] [some (6,[vl cj ps,vl js code, .int .i64 tk, .int .i64 ta,vl ji to,vl cj az])]) code.length ?_ ?_
    .exact ⟨0,by omega,rfl,rfl,by simp [Fr.oy],rfl⟩
    .rintro c σ T ⟨j,hj,rfl,hcc,rfl,rfl⟩
     by_cases hjt:j<code.length
     .have hwj:=jg hjt (by omega);have hsc:=jdl (e:=⟨sg,im,gl,mu,me⟩) (f:=⟨⟨fi,fo⟩,ts,bs⟩) (ds:=ds) (near:=near) (i:=k) hjt;have cij:=cii j _ (ah hjt);obtain ⟨⟨xo,xn,xa,xu⟩,hx2⟩ : ∃ x,code[j]=x:=⟨_,rfl⟩
      rw [hx2] at hsc cij;generalize Ss.insOk ⟨sg,im,gl,mu,me⟩ ⟨⟨fi,fo⟩,ts,bs⟩ ds near k j ⟨xo,xn,xa,xu⟩=io at *
      have cij':VPure Tryz.prog 71 [ckV ⟨sg,im,gl,mu,me⟩ ⟨⟨fi,fo⟩,ts,bs⟩ ds near,cu k,cu j, .agg [.int .i64 xo, .int .u64 xn,vl cj xa,vl cj xu]] (.bool io):=cij
      refine bF hjt hx2 ?_
      refine bQ hjt hx2 ?_;refine QL (cij') ?_
      by_cases hio:io=true
      .refine bJ hio ?_;refine bW ?_
       refine QA [0] (h:=⟨?_,j+1,hjt,rfl,by rw [<-hcc,hsc,hio,aE],by simp [hwj],rfl⟩);omega
      .have hio':io=false:=by simpa using hio
       refine bJ hio' ?_;refine bW ?_
       exact ja hwf (by rw [<-hcb, <-hcc,hsc,hio']; simp) rfl
     .have e1:code.drop j=[]:=by rw [aH]; omega
      rw [e1,Ss.cx] at hcc;rw [<-hcc,aE] at hcb;have cti':VPure Tryz.prog 72 [ckV ⟨sg,im,gl,mu,me⟩ ⟨⟨fi,fo⟩,ts,bs⟩ ds near,cu k, .agg [vl cj ps,vl js code, .int .i64 tk, .int .i64 ta,vl ji to,vl cj az]] (.bool tm):=cti
      refine bD hjt ?_
      refine bN hjt ?_;refine QL (cti') ?_
      by_cases htm:tm=true
      .refine bJ htm ?_;refine bW ?_
       refine QA [] (h:=⟨?_,k+1,hkt,rfl,by rw [<-hcb,htm,aE],by simp [hw],rfl⟩);omega
      .have htm':tm=false:=by simpa using htm
       refine bJ htm' ?_;refine bW ?_
       exact ja hwf (by rw [<-hcb,htm']; simp) rfl
   .have e1:bs.drop k=[]:=by rw [aH]; omega
    rw [e1,Ss.cH] at hcb
    refine bD hkt ?_
    exact ja hwf (by simp [<-hcb]) rfl
end Go.Vw
namespace Ss
end Ss
namespace Go.Vw
open Go.Proofs Go.RowKit
theorem Reach.nilCell {N b0:Nat} {σ:Fr} {B:Store} {u:Upds} {l:List (Option (Nat × List V))} {k i s:Nat} {cs:List V} (hk:k<l.length) (hck:(l[k]?).join=some (s,cs)) (hi:cs[i]? = some .nils) :
  Reach N b0 σ (St B u l) σ (St B u (l.set k (some (s,cs.set i (.list []))))):=by
 have:=Reach.cell (N:=N) (b0:=b0) (σ:=σ) (o:=lid B.nx k) (i:=i) (s:=s) (cs:=cs) (Ghost.nl (St B u l)) (by simp [V.one]) (by rw [jB]; exact hck) hi (by rw [jB]; exact hck);rw [JM hk] at this;exact this
def NL (x y:V):Prop:=x=y\/(x = .nils/\y = .list [])
theorem Rep.nl {m:Imm} {β:Objs} {x y:V} {v:Value} (h:Rep m β x v) (hn:NL x y):Rep m β y v:=by
 rcases hn with rfl | ⟨rfl,rfl⟩
 .exact h
 .cases h with
  | imm h=>cases h with | nils a=>exact .imm (.list0 a 0 (Nat.zero_le _))
theorem Ghost.agg_nl {S:Store} {xs ys:List V} (hl:xs.length=ys.length) (h : ∀ (i:Nat) (x y:V),xs[i]? = some x->ys[i]? = some y->NL x y):Ghost (.agg xs) S (.agg ys) S:=by
 intro m β w v hS hr;obtain ⟨vs,rfl,hl2,hrr,h1⟩:=hr.inv_agg;refine ⟨m,β,hS,Ext.refl _ _ _, .agg ys vs (by omega) (fun i y u hy hu => ?_) h1⟩;have hi:i<xs.length:=by rw [hl]; exact (ae.1 hy).1
 exact (hrr i xs[i] u (ac hi) hu).nl (h i _ y (ac hi) hy)
end Go.Vw
namespace Ss
/-! ### Where values are made -/
def zK (l:List Ins):List Int:=l.flatMap fun x=>x.outs
def allB (b:Block):List Int:=b.params++zK b.code
def allL (bs:List Block):List Int:=bs.flatMap allB
abbrev dAt (ds:List Def) (v:Int):Def:=ds.getD v.toNat default
theorem jdj {ds:List Def} {v w:Int} {d:Def} (h0:0<=v) (h1:v<ds.length) (hw:0<=w):dAt (ds.set v.toNat d) w=if w=v then d else dAt ds w:=by
 by_cases h:w=v
 .subst h;rw [if_pos rfl];simp only [dAt,ag];rw [aX (by omega)]; rfl
 .rw [if_neg h];simp only [dAt,ag];rw [aQ (by omega)]
structure Puts (l:List Int) (ds d:List Def):Prop where
 nd:l.Nodup
 pos : ∀ v∈l,0<=v
 new : ∀ v∈l,(dAt ds v).made=false
 keep : ∀ w,0<=w->w∉l->dAt d w=dAt ds w
 made : ∀ v∈l,(dAt d v).made=true
theorem Puts.trans {l m:List Int} {ds d d':List Def} (h:Puts l ds d) (k:Puts m d d'):Puts (l++m) ds d':=by
 have hdis : ∀ v∈l,v∉m:=fun v hv hm=>by
  have h1:=k.new v hm;rw [h.made v hv] at h1; cases h1
 refine ⟨List.nodup_append.2 ⟨h.nd,k.nd,fun a ha b hb e=>hdis a ha (e▸hb)⟩,fun v hv => ?_,fun v hv => ?_,fun w h0 hw => ?_,fun v hv => ?_⟩
 .rcases aG.1 hv with hv | hv
  .exact h.pos v hv
  .exact k.pos v hv
 .rcases aG.1 hv with hv | hv
  .exact h.new v hv
  .by_cases hl:v∈l
   .exact absurd hv (hdis v hl)
   .rw [<-h.keep v (k.pos v hv) hl]; exact k.new v hv
 .simp only [aG,not_or] at hw;rw [k.keep w h0 hw.2,h.keep w h0 hw.1]
 .rcases aG.1 hv with hv | hv
  .rw [k.keep v (h.pos v hv) (hdis v hv)]; exact h.made v hv
  .exact k.made v hv
theorem Puts.nil (ds:List Def):Puts [] ds ds:=⟨List.nodup_nil,by simp,by simp,fun _ _ _=>rfl,by simp⟩
theorem KP {block pos:Int} : ∀ {l:List Int} {ds d:List Def},put block pos ds l=some d->Puts l ds d /\ ∀ v∈l,dAt d v=⟨true,block,pos⟩
 | [],ds,d,h=>by simp only [put,ay] at h; subst h; exact ⟨.nil _,by simp⟩
 | v::l,ds,d,h=>by
  simp only [put] at h;split at h
  .cases h
  .rename_i hn;have h0:0<=v:=by omega
   have h1:v<ds.length:=by omega
   have h2:(dAt ds v).made=false:=by
    cases hm:(dAt ds v).made with
    | false=>rfl
    | true=>exact absurd (.inr (.inr hm)) hn
   obtain ⟨k1,k2⟩:=KP h;have hp:Puts [v] ds (ds.set v.toNat ⟨true,block,pos⟩) :=
    ⟨by simp,by simpa using h0,by simpa using h2,fun w hw hnw=>by rw [jdj h0 h1 hw,if_neg (by simpa using hnw)],fun w hw=>by
     obtain rfl:w=v:=by simpa using hw
     rw [jdj h0 h1 h0,if_pos rfl]⟩
   refine ⟨hp.trans k1,fun w hw => ?_⟩
   by_cases hl:w∈l
   .exact k2 w hl
   .obtain rfl:w=v:=by simpa [hl] using hw
    rw [k1.keep w h0 hl,jdj h0 h1 h0,if_pos rfl]
theorem Jx {i:Int} : ∀ {l:List Ins} {k:Nat} {ds d:List Def},putCode i k ds l=some d->Puts (zK l) ds d /\ ∀ (j:Nat) (x:Ins),l[j]? = some x -> ∀ v∈x.outs,dAt d v=⟨true,i,((k+j:Nat):Int)⟩
 | [],k,ds,d,h=>by simp only [putCode,ay] at h; subst h; exact ⟨.nil _,by simp⟩
 | x::l,k,ds,d,h=>by
  simp only [putCode] at h;obtain ⟨d1,h1,h2⟩:=aN.1 h;obtain ⟨p1,q1⟩:=KP h1;obtain ⟨p2,q2⟩:=Jx h2;refine ⟨p1.trans p2,fun j y hj v hv => ?_⟩
  cases j with
  | zero =>
   simp only [aK,ay] at hj;subst hj;have hn:v∉zK l:=fun hm=>by
    have:=p2.new v hm;rw [p1.made v hv] at this; cases this
   rw [p2.keep v (p1.pos v hv) hn,q1 v hv]; rfl
  | succ j =>
   have:=q2 j y (by simpa using hj) v hv;rw [this]; congr 2; omega
theorem JC : ∀ {l:List Block} {i:Nat} {ds d:List Def},cI i ds l=some d->Puts (allL l) ds d /\ ∀ (j:Nat) (b:Block),l[j]? = some b -> ∀ (k:Nat) (x:Ins),b.code[k]? = some x -> ∀ v∈x.outs,dAt d v=⟨true,((i+j:Nat):Int),(k:Int)⟩
 | [],i,ds,d,h=>by simp only [cI,ay] at h; subst h; exact ⟨.nil _,by simp⟩
 | b::l,i,ds,d,h=>by
  simp only [cI] at h;obtain ⟨d2,h1,h2⟩:=aN.1 h;obtain ⟨d1,h3,h4⟩:=aN.1 h1;obtain ⟨p1,_⟩:=KP h3;obtain ⟨p2,q2⟩:=Jx h4;obtain ⟨p3,q3⟩:=JC h2;refine ⟨(p1.trans p2).trans p3,fun j y hj k x hk v hv => ?_⟩
  cases j with
  | zero =>
   simp only [aK,ay] at hj;subst hj;have hm:v∈zK b.code:=bh.2 ⟨x,aA hk,hv⟩;have hn:v∉allL l:=fun hm'=>by
    have:=p3.new v hm';rw [p2.made v hm] at this; cases this
   rw [p3.keep v (p2.pos v hm) hn,q2 k x hk v hv]; simp
  | succ j =>
   have:=q3 j y (by simpa using hj) k x hk v hv;rw [this]; congr 2; omega
theorem ajn (n:Nat) (v:Int):(dAt (List.replicate n ⟨false,0,0⟩) v).made=false:=by
 simp only [dAt,ag,List.getElem?_replicate];split<;>rfl
theorem qR {f:Fn} {ds:List Def} (h:defsOf f=some ds):(allL f.blocks).Nodup/\(∀ v,0<=v->(dAt ds v).made=true->v∈allL f.blocks) /\ ∀ (i:Nat) (b:Block),f.blocks[i]? = some b -> ∀ (k:Nat) (x:Ins),b.code[k]? = some x -> ∀ v∈x.outs,dAt ds v=⟨true,(i:Int),(k:Int)⟩:=by
 obtain ⟨p,q⟩:=JC h;refine ⟨p.nd,fun v h0 hm => ?_,fun i b hb k x hx v hv=>by simpa using q i b hb k x hx v hv⟩;refine Classical.byContradiction fun hn => ?_
 rw [p.keep v h0 hn,ajn] at hm
 cases hm
/-! ### Who asks -/
theorem abd {α:Type} {p:α->α->Bool} : ∀ {l m:List α},Go.Vw.eqF p l m=true -> ∀ x∈l, ∃ y,p x y=true
 | [],_,_,x,hx=>by cases hx
 | a::l,[],h,x,hx=>by simp [Go.Vw.eqF] at h
 | a::l,b::m,h,x,hx=>by
  simp only [Go.Vw.eqF,af] at h;rcases aL.1 hx with rfl | hx
  .exact ⟨b,h.1⟩
  .exact abd h.2 x hx
theorem aaj {e:Env} {f:Fn} {ds:List Def} {near:List Int} {i:Int} : ∀ {l:List Ins} {k j:Nat} {x:Ins},cx e f ds near i k l=true->l[j]? = some x->insOk e f ds near i ((k+j:Nat):Int) x=true
 | [],k,j,x,_,hx=>by simp at hx
 | y::l,k,j,x,h,hx=>by
  simp only [cx,af] at h
  cases j with
  | zero=>simp only [aK,ay] at hx; subst hx; exact h.1
  | succ j =>
   have:=aaj h.2 (j:=j) (x:=x) (by simpa using hx);rw [show k+(j+1)=k+1+j by omega]; exact this
theorem aad {e:Env} {f:Fn} {ds:List Def} {near:List Int} : ∀ {l:List Block} {i j:Nat} {b:Block},cH e f ds near i l=true->l[j]? = some b->cx e f ds near ((i+j:Nat):Int) 0 b.code=true/\termOk f ds near ((i+j:Nat):Int) b=true
 | [],i,j,b,_,hb=>by simp at hb
 | y::l,i,j,b,h,hb=>by
  simp only [cH,af] at h
  cases j with
  | zero=>simp only [aK,ay] at hb; subst hb; exact h.1
  | succ j =>
   have:=aad h.2 (j:=j) (b:=b) (by simpa using hb);rw [show i+(j+1)=i+1+j by omega]; exact this
theorem YT {e:Env} {f:Fn} {ds:List Def} {near:List Int} {i k:Int} {x:Ins} (h:insOk e f ds near i k x=true):asks f.types ds near i k x.args (form e x.op x.n (insOut f.types x)).inn=true:=by
 simp only [insOk,af] at h;exact h.2
theorem aae {e:Env} {f:Fn} (h:check e f=true):checkHead e f=true /\ ∃ ds,defsOf f=some ds/\shapeOk f=true/\cH e f ds (Go.Vw.G.cD (succs f.blocks)) 0 f.blocks=true:=by
 simp only [check,af] at h;refine ⟨h.1, ?_⟩
 cases hd:defsOf f with
 | none=>rw [hd] at h; simp at h
 | some ds =>
  rw [hd] at h;simp only [af] at h;exact ⟨ds,rfl,h.2.1,h.2.2⟩
end Ss
namespace Go.Vw
open Go.Proofs Go.RowKit
end Go.Vw
namespace Ss
def scanRow (head:Int) (i:Nat) (l:List Int) (st:Int × Nat):Int × Nat:=l.foldl (fun st to=>if to=head then ((i:Int),st.2+1) else st) st
def scanG (head:Int) (nodes:List Int):Nat->List (List Int)->Int × Nat->Int × Nat
 | _,[],st=>st
 | i,l::r,st=>scanG head nodes (i+1) r (if (i:Int)∈nodes then st else scanRow head i l st)
def porch (bs:List Block) (head:Int) (nodes:List Int):Option Int :=
 if (scanG head nodes 0 (succs bs) (0,0)).2≠1\/(bs.getD (scanG head nodes 0 (succs bs) (0,0)).1.toNat default).term.kind≠1 then none else some (scanG head nodes 0 (succs bs) (0,0)).1
theorem jbL (head:Int) (i:Nat) : ∀ (l:List Int) (st:Int × Nat),scanRow head i l st=if l.count head=0 then st else ((i:Int),st.2+l.count head)
 | [],st=>by simp [scanRow]
 | a::l,st=>by
  have ih:=jbL head i l;unfold scanRow at ih ⊢;rw [List.foldl_cons,ih]
  by_cases e:a=head
  .subst e;simp only [if_true,List.count_cons_self,Nat.add_eq_zero_iff,Nat.one_ne_zero,and_false,if_false];split
   .rename_i h0; rw [h0]
   .exact Prod.ext rfl (by show st.2+1+List.count a l=st.2+(List.count a l+1); omega)
  .rw [if_neg e,List.count_cons_of_ne (by simpa using e)]
theorem abj (head:Int) (nodes:List Int) : ∀ (rows:List (List Int)) (i:Nat) (st:Int × Nat),st.2<=(scanG head nodes i rows st).2 /\
  ((scanG head nodes i rows st).2=st.2->scanG head nodes i rows st=st /\ ∀ (j:Nat) l,rows[j]? = some l->((i+j:Nat):Int)∉nodes->head∉l) /\
  ((scanG head nodes i rows st).2=st.2+1 -> ∃ (j:Nat) (l:List Int),rows[j]? = some l/\((i+j:Nat):Int)∉nodes/\head∈l/\(scanG head nodes i rows st).1=((i+j:Nat):Int) /\ ∀ (j':Nat) l',rows[j']? = some l'->((i+j':Nat):Int)∉nodes->head∈l'->j'=j)
 | [],i,st=>⟨a9 _,fun _=>⟨rfl,by simp⟩,fun h=>by simp [scanG] at h⟩
 | l::r,i,st=>by
  have hsh : ∀ j:Nat,i+1+j=i+(j+1):=fun j=>by omega
  rw [scanG]
  by_cases hn:(i:Int)∈nodes
  .rw [if_pos hn];obtain ⟨h1,h2,h3⟩:=abj head nodes r (i+1) st;refine ⟨h1,fun h => ?_,fun h => ?_⟩
   .obtain ⟨e,k⟩:=h2 h;refine ⟨e,fun j m hm hj => ?_⟩
    cases j with
    | zero=>exact absurd hn (by simpa using hj)
    | succ j=>exact k j m (by simpa using hm) (by rw [hsh]; exact hj)
   .obtain ⟨j,m,a1,a2,a3,a4,a5⟩:=h3 h;refine ⟨j+1,m,by simpa using a1,by rw [<-hsh]; exact a2,a3,by rw [a4,hsh],fun j' l' b1 b2 b3 => ?_⟩
    cases j' with
    | zero=>exact absurd hn (by simpa using b2)
    | succ j'=>rw [a5 j' l' (by simpa using b1) (by rw [hsh]; exact b2) b3]
  .rw [if_neg hn];obtain ⟨h1,h2,h3⟩:=abj head nodes r (i+1) (scanRow head i l st);have e:=jbL head i l st
   by_cases h0:l.count head=0
   .rw [if_pos h0] at e;rw [e] at h1 h2 h3 ⊢;have hnl:head∉l:=List.count_eq_zero.1 h0;refine ⟨h1,fun h => ?_,fun h => ?_⟩
    .obtain ⟨e,k⟩:=h2 h;refine ⟨e,fun j m hm hj => ?_⟩
     cases j with
     | zero=>simp only [aK,ay] at hm; subst hm; exact hnl
     | succ j=>exact k j m (by simpa using hm) (by rw [hsh]; exact hj)
    .obtain ⟨j,m,a1,a2,a3,a4,a5⟩:=h3 h;refine ⟨j+1,m,by simpa using a1,by rw [<-hsh]; exact a2,a3,by rw [a4,hsh],fun j' l' b1 b2 b3 => ?_⟩
     cases j' with
     | zero=>simp only [aK,ay] at b1; subst b1; exact absurd b3 hnl
     | succ j'=>rw [a5 j' l' (by simpa using b1) (by rw [hsh]; exact b2) b3]
   .rw [if_neg h0] at e;rw [e] at h1 h2 h3 ⊢;simp only at h1 h2 h3 ⊢;have hin:head∈l:=List.count_pos_iff.1 (by omega);refine ⟨by omega,fun h=>by omega,fun h => ?_⟩;obtain ⟨e2,k⟩:=h2 (by omega);refine ⟨0,l,rfl,by simpa using hn,hin,by rw [e2]; simp,fun j' l' b1 b2 b3 => ?_⟩
    cases j' with
    | zero=>rfl
    | succ j'=>exact absurd b3 (k j' l' (by simpa using b1) (by rw [hsh]; exact b2))
theorem acj {bs:List Block} {head p:Int} {nodes:List Int} (h:porch bs head nodes=some p) : ∃ (i:Nat) (b:Block),p=i/\bs[i]? = some b/\b.term.kind=1/\(i:Int)∉nodes/\head∈rowOf b /\ ∀ (j:Nat) (c:Block),bs[j]? = some c->(j:Int)∉nodes->head∈rowOf c->j=i:=by
 unfold porch at h;split at h
 .cases h
 .rename_i hc;have h2:(scanG head nodes 0 (succs bs) (0,0)).2=1:=by
   by_cases e:(scanG head nodes 0 (succs bs) (0,0)).2=1
   .exact e
   .exact absurd (.inl e) hc
  have h3:(bs.getD (scanG head nodes 0 (succs bs) (0,0)).1.toNat default).term.kind=1:=by
   by_cases e:(bs.getD (scanG head nodes 0 (succs bs) (0,0)).1.toNat default).term.kind=1
   .exact e
   .exact absurd (.inr e) hc
  obtain ⟨j,l,a1,a2,a3,a4,a5⟩:=(abj head nodes (succs bs) 0 (0,0)).2.2 h2;rw [a8] at a2 a4
  cases h
  rw [a4] at h3 ⊢;rw [bq] at h3;simp only [succs,a6,av] at a1;obtain ⟨b,hb,rfl⟩:=a1;refine ⟨j,b,rfl,hb, ?_,a2,a3,fun j' c hc' hj' hh=>a5 j' (rowOf c) (by simp [succs,hc']) (by rw [a8]; exact hj') hh⟩;rw [ag,hb] at h3;exact h3
end Ss
/-
 What the nearest ones tell.
-/
namespace Go.Vw.G
open Go.Vw
structure NearOk (g:List (List Nat)) (near:List Int):Prop where
 len:near.length=g.length
 zero:nd near 0 = -1
 out : ∀ x,x<g.length->x∉order g->nd near x = -1
 near : ∀ x∈order g,x≠0 -> ∃ p:Nat,nd near x=p/\p∈order g/\p≠x/\Dom g (order g) p x /\ ∀ d,Dom g (order g) d x->d≠x->Dom g (order g) d p
section
variable {g:List (List Nat)}
theorem aa8 (hg:Ok g):NearOk g (rNear g):=by
 obtain ⟨F,K,nearF,h1,h2⟩:=af3 hg;rw [ajt hg h2];have h0:0<nearF.length:=by rw [h2.len]; exact hg.pos
 have hset:=ag1 h0 (-1);refine ⟨by simpa using h2.len,by rw [hset,if_pos rfl],fun x hx hxl => ?_,fun x hx hx0 => ?_⟩
 .rw [hset]; split
  .rfl
  .exact h2.out x hx hxl
 .rw [hset,if_neg hx0]; exact h2.near x hx hx0
theorem ahb {near:List Int} {a x:Nat} (hx:x<near.length) (h:nd near x = -1) : ∀ n,dom1 near a (n+1) x=decide (a=x):=by
 intro n;have hok:okIx near (x:Int):=⟨by omega,by omega⟩
 rw [dom1,if_pos hok]
 by_cases e:a=x
 .subst e; simp
 .have e' : ¬ (a:Int)=(x:Int):=by omega
  rw [if_neg e'];have:near.getD x 0 = -1:=h;simp only [bq,this];have hno : ¬ okIx near (-1):=fun h=>by have:=h.1; omega
  cases n with
  | zero=>simp [dom1,e]
  | succ n=>rw [dom1,if_neg hno]; simp [e]
theorem ae4 (hg:Ok g) {near:List Int} (hN:NearOk g near) (a:Nat) : ∀ (n b:Nat),b∈order g->rk g (order g) b<n->(dom1 near a n b=true↔Dom g (order g) a b)
 | 0,b,_,h=>by omega
 | n+1,b,hb,h=>by
  have ho:=aah hg;have hbl:=ho.lt b hb
  by_cases hb0:b=0
  .subst hb0;rw [ahb (by rw [hN.len]; exact hbl) hN.zero];simp only [aj];constructor
   .intro e; subst e; exact Dom.self 0
   .intro hd
    by_cases e:a=0
    .exact e
    .exact absurd (Way.start 0 (Ne.symm e)) (hd 0)
  .obtain ⟨p,q1,q2,q3,q4,q5⟩:=hN.near b hb hb0;have hok:okIx near (b:Int):=⟨by omega,by rw [hN.len]; omega⟩
   rw [dom1,if_pos hok]
   by_cases e:a=b
   .subst e;simp only [if_true,true_iff];exact Dom.self a
   .have e' : ¬ (a:Int)=(b:Int):=by omega
    have hnd:near.getD b 0=(p:Int):=q1;rw [if_neg e'];simp only [bq,hnd];have hr:=q4.rk ho q2 hb q3;rw [ae4 hg hN a n p q2 (by omega)];exact ⟨fun hd=>hd.trans q4,fun hd=>q5 a hd e⟩
theorem zg (hg:Ok g) {near:List Int} (hN:NearOk g near) {a b:Nat} (ha:a<g.length) (hb:b<g.length):cy near a b=true↔(a∈order g/\b∈order g/\Dom g (order g) a b)\/a=b:=by
 have ho:=aah hg;have hoka:okIx near (a:Int):=⟨by omega,by rw [hN.len]; omega⟩
 rw [cy,if_pos hoka];have hm:=hg.max
 by_cases hbl:b∈order g
 .have hr:rk g (order g) b<257:=by
   have h1:=abu ho hbl;obtain ⟨t,k1,k2,k3⟩:=aa6 hg;have:(order g).length<=g.length:=by simp [order,k1]; exact k2
   omega
  rw [ae4 hg hN a 257 b hbl hr];constructor
  .exact fun h => .inl ⟨h.mem ho hbl,hbl,h⟩
  .rintro (h | h)
   .exact h.2.2
   .subst h; exact Dom.self a
 .rw [ahb (n:=256) (by rw [hN.len]; exact hb) (hN.out b hb hbl)];simp only [aj];constructor
  .exact .inr
  .rintro (h | h)
   .exact absurd h.2.1 hbl
   .exact h
theorem ways (hg:Ok g) {near:List Int} (hN:NearOk g near) {a b:Nat} (ha:a<g.length) (hb:b<g.length) :
  cy near a b=(((without g none).getD a false&&(without g none).getD b false && !((without g (some a)).getD b false))||decide (a=b)):=by
 have h1:=zg hg hN ha hb;have w1:=aak hg a;have w2:=aak hg b;have w3:=Zj hg (b:=b) ha;unfold Met at w1 w2 w3;rw [Bool.eq_iff_iff,h1];simp only [bk,af,Bool.not_eq_true',aj,w1,w2];constructor
 .rintro (⟨k1,k2,k3⟩ | h)
  .refine .inl ⟨⟨k1,k2⟩, ?_⟩
   cases hx:(without g (some a)).getD b false with
   | false=>rfl
   | true=>obtain ⟨_,k,hw⟩:=w3.1 hx; exact absurd hw (k3 k)
  .exact .inr h
 .rintro (⟨⟨k1,k2⟩,k3⟩ | h)
  .by_cases e:b=a
   .exact .inr e.symm
   .refine .inl ⟨k1,k2,fun k hw => ?_⟩;have:=w3.2 ⟨e,k,hw⟩;rw [k3] at this; cases this
  .exact .inr h
end
end Go.Vw.G
/-
 The nodes of a loop, found from a list of nodes to do.
-/
namespace Go.Vw.G
open Go.Vw
inductive Bk (fr:List (List Nat)) (h:Nat) (ts:List Nat):Nat->Prop
 | start {n:Nat} (hn:n∈ts):Bk fr h ts n
 | step {n p:Nat} (hb:Bk fr h ts n) (hn:n≠h) (hp:p∈fr.getD n []):Bk fr h ts p
structure Srch (fr:List (List Nat)) (h:Nat) (ts:List Nat) (N:Nat) (inn:List Bool) (todo:List Nat):Prop where
 len:inn.length=N
 head:inn.getD h false=true
 sound : ∀ n,inn.getD n false=true->n=h\/Bk fr h ts n
 work : ∀ t∈todo,Bk fr h ts t
 closed : ∀ n,inn.getD n false=true->n≠h -> ∀ p∈fr.getD n [],inn.getD p false=true\/p∈todo
 all : ∀ t∈ts,inn.getD t false=true\/t∈todo
 lt : ∀ t∈todo,t<N
theorem Srch.start {fr:List (List Nat)} {h:Nat} {ts:List Nat} {N:Nat} (hh:h<N) (ht : ∀ t∈ts,t<N):Srch fr h ts N ((List.replicate N false).set h true) ts:=by
 have hl:h<(List.replicate N false).length:=by simpa using hh
 have hset : ∀ n,((List.replicate N false).set h true).getD n false=true↔n=h:=by
  intro n;have:=jcW hl n;unfold Met at this;rw [this];constructor
  .rintro (h1 | h1)
   .exact h1
   .rw [aaw] at h1; cases h1
  .exact .inl
 refine ⟨by simp,(hset h).2 rfl,fun n hn => .inl ((hset n).1 hn),fun t h1 => .start h1,fun n hn hne=>absurd ((hset n).1 hn) hne,fun t h1 => .inr h1,ht⟩
section
variable {fr:List (List Nat)} {h:Nat} {ts:List Nat} {N:Nat} {inn:List Bool} {n:Nat}
theorem Srch.seen {todo todo':List Nat} (hS:Srch fr h ts N inn todo) (hn:inn.getD n false=true) (hsub : ∀ t∈todo',t∈todo) (hre : ∀ t∈todo,t=n\/t∈todo'):Srch fr h ts N inn todo':=by
 refine ⟨hS.len,hS.head,hS.sound,fun t ht=>hS.work t (hsub t ht),fun m hm hne p hp => ?_,fun t ht => ?_,fun t ht=>hS.lt t (hsub t ht)⟩
 .rcases hS.closed m hm hne p hp with h1 | h1
  .exact .inl h1
  .rcases hre p h1 with h2 | h2
   .subst h2; exact .inl hn
   .exact .inr h2
 .rcases hS.all t ht with h1 | h1
  .exact .inl h1
  .rcases hre t h1 with h2 | h2
   .subst h2; exact .inl hn
   .exact .inr h2
theorem Srch.take {todo todo':List Nat} (hS:Srch fr h ts N inn todo) (hn:n∈todo) (hfl : ∀ p∈fr.getD n [],p<N) (hni:inn.getD n false=false) (hsub : ∀ t∈todo',t∈todo\/t∈fr.getD n []) (hre : ∀ t∈todo,t=n\/t∈todo') (hfr : ∀ t∈fr.getD n [],t∈todo'):Srch fr h ts N (inn.set n true) todo':=by
 have hnl:n<inn.length:=by rw [hS.len]; exact hS.lt n hn
 have hset : ∀ m,(inn.set n true).getD m false=true↔m=n\/inn.getD m false=true:=fun m=>jcW hnl m
 have hnh:n≠h:=by intro e; subst e; rw [hS.head] at hni; cases hni
 refine ⟨by simpa using hS.len,(hset h).2 (.inr hS.head),fun m hm => ?_,fun t ht => ?_,fun m hm hne p hp => ?_,fun t ht => ?_,fun t ht => ?_⟩
 .rcases (hset m).1 hm with e | h1
  .subst e; exact .inr (hS.work m hn)
  .exact hS.sound m h1
 .rcases hsub t ht with h1 | h1
  .exact hS.work t h1
  .exact .step (hS.work n hn) hnh h1
 .rcases (hset m).1 hm with e | h1
  .subst e; exact .inr (hfr p hp)
  .rcases hS.closed m h1 hne p hp with h2 | h2
   .exact .inl ((hset p).2 (.inr h2))
   .rcases hre p h2 with h3 | h3
    .exact .inl ((hset p).2 (.inl h3))
    .exact .inr h3
 .rcases hS.all t ht with h1 | h1
  .exact .inl ((hset t).2 (.inr h1))
  .rcases hre t h1 with h3 | h3
   .exact .inl ((hset t).2 (.inl h3))
   .exact .inr h3
 .rcases hsub t ht with h1 | h1
  .exact hS.lt t h1
  .exact hfl t h1
theorem Srch.done (hS:Srch fr h ts N inn []) (n:Nat):inn.getD n false=true↔n=h\/Bk fr h ts n:=by
 refine ⟨hS.sound n, ?_⟩;rintro (e | hb)
 .subst e; exact hS.head
 .induction hb with
  | start hn =>
   rcases hS.all _ hn with h1 | h1
   .exact h1
   .simp at h1
  | step _ hne hp ih =>
   rcases hS.closed _ ih hne _ hp with h1 | h1
   .exact h1
   .simp at h1
end
def picked (inn:List Bool):Nat->List Nat
 | 0=>[]
 | k+1=>if inn.getD k false then picked inn k++[k] else picked inn k
theorem abv (inn:List Bool) : ∀ k,(picked inn k).length<=k
 | 0=>a9 _
 | k+1=>by have:=abv inn k; simp only [picked]; split<;>simp<;>omega
open Classical in
/-- Whether each node is of a loop. -/
noncomputable def loopIn (fr:List (List Nat)) (h:Nat) (ts:List Nat) (N:Nat):List Bool:=(List.range N).map fun n=>decide (n=h\/Bk fr h ts n)
theorem apb {fr:List (List Nat)} {h:Nat} {ts:List Nat} {N:Nat} {inn:List Bool} (hS:Srch fr h ts N inn []):inn=loopIn fr h ts N:=by
 refine List.ext_getElem (by simp [loopIn,hS.len]) fun i h1 h2 => ?_
 have:=hS.done i;have e:inn.getD i false=inn[i]:=by simp [h1]
 rw [e] at this;simp only [loopIn,List.getElem_map,List.getElem_range]
 cases hx:inn[i] with
 | false=>rw [hx] at this; simp only [aF,false_iff] at this; simp [this]
 | true=>rw [hx] at this; simp only [true_iff] at this; simp [this]
def backs (near:List Int) (h:Nat) (row:List Nat):List Nat:=row.filter fun p=>cy near h p
noncomputable def loopsTo (near:List Int) (fr:List (List Nat)) (N:Nat):Nat->List (Nat × List Nat)
 | 0=>[]
 | h+1=>if (0<h/\near.getD h 0<0)\/backs near h (fr.getD h [])=[] then loopsTo near fr N h
  else loopsTo near fr N h++[(h,picked (loopIn fr h (backs near h (fr.getD h [])) N) N)]
theorem abp (near:List Int) (fr:List (List Nat)) (N:Nat) : ∀ k,(loopsTo near fr N k).length<=k
 | 0=>a9 _
 | k+1=>by have:=abp near fr N k; simp only [loopsTo]; split<;>simp<;>omega
def todoM (M:Nat) (inn:List Bool) (todo:List Nat):Nat:=unmet inn*(M+1)+todo.length
theorem alv {M:Nat} {inn:List Bool} {n:Nat} {todo todo':List Nat} {k:Nat} (hn:n<inn.length) (hf:inn[n]=false) (hk:k<=M) (hl:todo'.length+1=todo.length+k):todoM M (inn.set n true) todo'<todoM M inn todo:=by
 have:=abm hn hf;simp only [todoM, <-this,Nat.add_mul,Nat.one_mul];omega
end Go.Vw.G
/-
 What is so of each loop: its head cy its nodes that are reached, and they come from its nodes alone.
-/
namespace Go.Vw.G
open Go.Vw
theorem jbX (inn:List Bool) (n:Nat) : ∀ k,n∈picked inn k↔n<k/\inn.getD n false=true
 | 0=>by simp [picked]
 | k+1=>by
  have ih:=jbX inn n k;simp only [picked];split
  .rename_i h;rw [aG,ih];simp only [aU];constructor
   .rintro (⟨h1,h2⟩ | h1)
    .exact ⟨by omega,h2⟩
    .subst h1; exact ⟨by omega,h⟩
   .rintro ⟨h1,h2⟩
    by_cases e:n=k
    .exact .inr e
    .exact .inl ⟨by omega,h2⟩
  .rename_i h;rw [ih];constructor
   .rintro ⟨h1,h2⟩; exact ⟨by omega,h2⟩
   .rintro ⟨h1,h2⟩;refine ⟨?_,h2⟩
    by_cases e:n=k
    .subst e; exact absurd h2 h
    .omega
theorem jbY {fr:List (List Nat)} {h:Nat} {ts:List Nat} {N n:Nat} (hn:n<N):(loopIn fr h ts N).getD n false=true↔n=h\/Bk fr h ts n:=by
 classical
 have e:(loopIn fr h ts N).getD n false=true↔(n=h\/Bk fr h ts n):=by simp [loopIn,hn]
 exact e
theorem Bk.lt {g:List (List Nat)} (hg:Ok g) {h:Nat} {ts:List Nat} (hts : ∀ t∈ts,t<g.length) {n:Nat} (hb:Bk (froms g) h ts n):n<g.length:=by
 induction hb with
 | start hn=>exact hts _ hn
 | step hb hne hp ih=>exact ((aar hg _ _ ih).1 hp).1
theorem Bk.dom {g:List (List Nat)} (hg:Ok g) {h:Nat} {ts:List Nat} (hts : ∀ t∈ts,t<g.length) (htd : ∀ t∈ts,Dom g (order g) h t) {n:Nat} (hb:Bk (froms g) h ts n) (hn:n∈order g):Dom g (order g) h n:=by
 induction hb with
 | start ht=>exact htd _ ht
 | @step n p hb hne hp ih =>
  have hl:=Bk.lt hg hts hb;have hp':=(aar hg n p hl).1 hp;have ho:=aah hg;have hno:n∈order g:=(ho.mem n).2 (From.step ((ho.mem p).1 hn) hp'.2 (jV _ _));exact (ih hno).pred (Ne.symm hne) hp'.2
structure HeadOk (g:List (List Nat)) (x:Nat × List Nat):Prop where
 lt:x.1<g.length
 head:x.1∈x.2
 nodes : ∀ n∈x.2,n<g.length
 dom : ∀ n∈x.2,(without g none).getD n false=true->cy (rNear g) (x.1:Int) (n:Int)=true
 pred : ∀ n∈x.2,n≠x.1 -> ∀ p∈(froms g).getD n [],p∈x.2
theorem heads {g:List (List Nat)} (hg:Ok g) : ∀ k,k<=g.length -> ∀ x∈loopsTo (rNear g) (froms g) g.length k,HeadOk g x
 | 0,_,x,hx=>by simp [loopsTo] at hx
 | h+1,hk,x,hx=>by
  have ih:=heads hg h (by omega);simp only [loopsTo] at hx;split at hx
  .exact ih x hx
  .rename_i hc;rcases aG.1 hx with hx | hx
   .exact ih x hx
   .have hN:=aa8 hg;have ho:=aah hg;have hh:h∈order g:=by
     by_cases hh:h∈order g
     .exact hh
     .refine absurd (.inl ⟨?_, ?_⟩) hc
      .rcases Nat.eq_zero_or_pos h with e | e
       .subst e; exact absurd (ZJ ho) hh
       .exact e
      .have:=hN.out h (by omega) hh;have e:(rNear g).getD h 0=nd (rNear g) h:=rfl;omega
    have hrow : ∀ p∈(froms g).getD h [],p<g.length:=fun p hp=>((aar hg h p (by omega)).1 hp).1
    have hts : ∀ t∈backs (rNear g) h ((froms g).getD h []),t<g.length:=fun t ht=>hrow t (List.mem_filter.1 ht).1
    have htd : ∀ t∈backs (rNear g) h ((froms g).getD h []),Dom g (order g) h t:=by
     intro t ht;have h1:=(List.mem_filter.1 ht).2;rcases (zg hg hN (by omega) (hts t ht)).1 h1 with h2 | h2
     .exact h2.2.2
     .subst h2; exact Dom.self _
    rw [aU] at hx;subst hx;generalize backs (rNear g) h ((froms g).getD h [])=ts at *
    have hmem : ∀ n,n∈picked (loopIn (froms g) h ts g.length) g.length↔n<g.length/\(n=h\/Bk (froms g) h ts n):=by
     intro n;rw [jbX];constructor
     .rintro ⟨h1,h2⟩; exact ⟨h1,(jbY h1).1 h2⟩
     .rintro ⟨h1,h2⟩; exact ⟨h1,(jbY h1).2 h2⟩
    refine ⟨by show h<g.length; omega,(hmem h).2 ⟨by omega, .inl rfl⟩,fun n hn=>((hmem n).1 hn).1, ?_, ?_⟩
    .intro n hn hm;obtain ⟨h1,h2⟩:=(hmem n).1 hn;have hno:=(aak hg n).1 hm;refine (zg hg hN (by show h<g.length; omega) h1).2 ?_;rcases h2 with e | hb
     .exact .inr e.symm
     .exact .inl ⟨hh,hno,Bk.dom hg hts htd hb hno⟩
    .intro n hn hne p hp;obtain ⟨h1,h2⟩:=(hmem n).1 hn;rcases h2 with e | hb
     .exact absurd e hne
     .exact (hmem p).2 ⟨((aar hg n p h1).1 hp).1, .inr (.step hb hne hp)⟩
end Go.Vw.G
namespace Ss
open Go.Vw.G
def chain (near:List Int):Nat->Int->List Int
 | 0,_=>[]
 | n+1,b=>if okIx near b then b::chain near n (near.getD b.toNat 0) else []
/-! ### The same by a map of places -/
abbrev Far:=List ((Int × Int) × Int)
def farGet (k:Int × Int):Far->Int
 | []=>0
 | (k',w)::r=>if k=k' then w else farGet k r
def farPut (k:Int × Int) (w:Int):Far->Far
 | []=>[(k,w)]
 | (k',w')::r=>if k=k' then (k,w)::r else (k',w')::farPut k w r
def pcov (near:List Int) (n:Int) (M:Far) (x:Ins):Bool:=decide (x.op=257)&&(chain near 257 n).any fun up=>decide (x.n<farGet (x.args.getD 0 0,up) M)
def pnext (near:List Int) (n:Int) (M:Far) (x:Ins):Far:=if x.op=257/\pcov near n M x=false then farPut (x.args.getD 0 0,n) (x.n+1) M else M
def pcode (near:List Int) (n:Int):Far->List Ins->List Ins × Far
 | M,[]=>([],M)
 | M,x::r=>if pcov near n M x then pcode near n (pnext near n M x) r else (x::(pcode near n (pnext near n M x) r).1,(pcode near n (pnext near n M x) r).2)
end Ss
namespace Go.Vw
open Go.Proofs Go.RowKit
attribute [-simp] List.map_set
theorem jad (S:Store) (l:List Int) (hl:l.length<=1048576):b9 75 [vl cj l] S (fun r T=>r = .slice (lid S.nx 0) 0 l.length/\T=St S [] [some (1,l.map cj)]):=by
 refine b7 Tryz.func75 Tryz.ntmps75 fun hwf=>?_
 refine QY ?_;refine QT ?_;refine arp (l:=l.map cj) rfl rfl (by rfl) rfl rfl rfl rfl (by rfl) rfl rfl Tryz.underlying23 rfl ?_;intro b hb;simp only [Fr.set]
 by_cases h:b=true
 .have hl0:l=[]:=by simpa using hb h
  subst hl0;subst h
  refine bz ?_
  exact ⟨_,_,(Ghost.nils (St S [] []) 1).toB _,by rw [jR]; rfl,by rw [jbn]; rfl⟩
 .have h':b=false:=by simpa using h
  subst h';have hb1:l.length*8<=140737488355328:=by omega
  have hb2:l.length<=140737488355328:=by omega
  repeat first|refine QG ?_|refine QY ?_ (r:=by conv=>lhs;simp[QV,hb1,hb2,Wq,ac1,qA,rep0])
  exact ajs [1] hwf (by decide) (by simp) (by simp; rfl) (by simp; rfl) ⟨by simp,by simp⟩
theorem ajm (l:List Int) (hl:l.length<=1048576):b8 75 [vl cj l] (vl cj l):=by
 intro S;refine Jm fun hwf=>zq ((jad S l hl).mono ?_)
 rintro r T ⟨rfl,rfl⟩;exact jf hwf ((frz1 (k:=0) (by simp) (by rfl) (jo cj (fun _=>rfl) _) (by simp)).toB _) rfl
theorem auq (v:Int) (to:List Int) (ht:to.length<2^63):b8 73 ([cj v]++[.ref (vl cj to)]) (cj (Ss.putv to v)):=by
 intro S;refine b7 Tryz.func73 Tryz.ntmps73 fun hwf=>?_
 by_cases h1:0<=v
 .obtain ⟨n,rfl⟩ : ∃ n:Nat,v=n:=⟨v.toNat,by omega⟩
  by_cases h2:n<to.length
  .refine bD h2 ?_
   exact ja hwf (by simp [Ss.putv,h2]) rfl
  .refine bD h2 ?_
   exact ja hwf (by simp [Ss.putv,h2]) rfl
 .refine bD h1 ?_
  exact ja hwf (by simp [Ss.putv,h1]) rfl
theorem ae1 (S:Store) (l to:List Int) (ps:Nat) (hps:S.get ps=some (1,[.func 73 [.ref (vl cj to)]])) (hl:l.length<=1048576) (ht:to.length<2^63):b9 74 ([vl cj l]++[.ptr ps 0]) S (fun r T=>r = .slice (lid S.nx 0) 0 l.length/\T=St S [] [some (1,(l.map (Ss.putv to)).map cj)]):=by
 have cp:=fun v=>auq v to ht
 generalize Ss.putv to=g at *
 refine b7 Tryz.func74 Tryz.ntmps74 fun hwf=>?_
 have hpn:=ju hwf hps;have p1:=fun u l => @jk S u l _ hpn
 have pP:=fun ks=>qW (n:=S.nx) ks hpn
 have pT:=fun ks=>qu (n:=S.nx) ks hpn
 refine QY ?_;refine QY ?_;refine qZ 4 1 rfl (by conv=>lhs; simp [Fr.set]) ?_
 refine bz ?_
 refine bX [1,4,7,8,9] (fun c σ S' => ∃ (k:Nat) (out:List Int),k<=l.length/\c=l.length-k/\out=(l.take k).map g/\out.length=k/\σ=[(1, .ptr ps 0),(4, .slice (lid S.nx 0) 0 k),(7,vl cj l),(8,cu l.length),(9,cu k)]/\S'=St S [] [some (1,out.map cj)]) l.length ?_ ?_
 .exact ⟨0,[],by omega,rfl,by simp,rfl,by simp [Fr.oy],by simp⟩
 .rintro c σ T ⟨k,out,hk,rfl,ho,hlen,rfl,rfl⟩
  by_cases hkt:k<l.length
  .have hw:=jg hkt (by omega);have cpk:=cp l[k];have htk:(l.take (k+1)).map g=(l.take k).map g++[g l[k]]:=by rw [List.take_add_one,ac hkt,List.map_append]; rfl
   generalize g l[k]=gv at *
   have hb:(k+1)*8<=140737488355328:=by omega
   have hb':k+1<=140737488355328:=by omega
   refine bD hkt ?_
   refine QP ?_ (r:=by conv=>lhs;simp[QV,hkt,p1,hps]);refine jao (cpk) (by rfl) (by rfl) (by rfl) ?_;refine bM hb hb' hlen ?_;refine QN ?_
   refine bH hb hb' hlen hw ?_
   refine qh [2] (by conv=>lhs; simp [Fr.oy]) hwf (by decide) (by simp [pP,pT]) (by conv=>lhs; simp [pP,pT]) (by conv=>lhs; simp [pP,pT]) (by conv=>lhs; simp [pP,pT]) ⟨?_,k+1,out++[gv],hkt,rfl,by rw [htk,ho],by simp [hlen],by simp [hw],by simp⟩;omega
  .have hke:k=l.length:=by omega
   subst hke;rw [List.take_length] at ho
   refine bD hkt ?_
   rw [<-ho];exact zM ⟨by simp,rfl⟩
end Go.Vw
