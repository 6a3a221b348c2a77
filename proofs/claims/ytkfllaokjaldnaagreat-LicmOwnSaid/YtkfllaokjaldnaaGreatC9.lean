import Derived.Test.YtkfllaokjaldnaaGreatC8
import Derived.Test.YtkfllaokjaldnaaGreatC7
import Derived.Test.YtkfllaokjaldnaaGreatProg
import Derived.Test.YtkfllaokjaldnaaGreatC6
/- Part of the proof. -/
set_option linter.unusedVariables false
set_option linter.unusedSimpArgs false
set_option maxRecDepth 10000
set_option maxHeartbeats 4000000
/-
 Is a slice nil? Only where it is empty.
-/
namespace Go.Vw
open Go.RowKit
section
variable {P:Program} {N b:Nat} {Q:Exit→Fr→Store→Prop} {σ:Fr} {S:Store}
theorem list_addr {m:Imm} {β:Objs} {l:List V} {v:Value} (h:Rep m β (.list l) v) : ∃ ad len cap,v = .slice ad len cap∧(ad=none→l=[]):=by
 have:=h.inv_list;generalize hl:V.list l=x at this
 cases this with
 | list0 a cap hc=>cases hl; exact ⟨a,0,cap,rfl,fun _=>rfl⟩
 | list xs vs b off cap s arr T fz hm hl' hc hcm hs hr hcells=>cases hl; exact ⟨some ⟨b,off,none⟩,_,cap,rfl,fun h=>by cases h⟩
 | _=>cases hl
theorem equal_nil {t e:TypeId} (ht:P.underlying t=some (.slice e)) (ad:Option Addr) (len cap:Nat) (w:World):(Op.equal t (.slice ad len cap) (.slice none 0 0)).run P w = .ok ad.isNone w:=by
 have hd:Op.maxDepth=9999+1:=rfl;unfold Op.equal;rw [hd];unfold Op.equalIn
 cases ad<;>simp [run_underlying ht]
theorem vw_isnil {c:Code} {o1 o2:Oper} {d1 d2 s:Nat} {t t' e:TypeId} {y u:Operand} {l:List V} (h:Code.kind c=1) (hops:(Code.ops c).toList=[o1,o2]) (h1:Wq P N (Code.ops c) o1=some ⟨some d1,none, .move (.tmp s)⟩) (hg1:o1.guard=none)
  (hop:o2.op = .binOp .eql t y u t') (hg:o2.guard=none) (hd:o2.dst=some d2) (hlt:decide (d2<N)=true) (hy:jt y=some (.tmp d1)) (hu:u = .const (.slice none 0 0)) (ht:P.underlying t=some (.slice e)) (hv:σ.look s = .list l)
  (H : ∀ b:Bool,(b=true→l=[])→Q .normal ((σ.set d1 (.list l)).set d2 (.bool b)) S):VWp P N b c Q σ S:=by
 cases c with
 | region id ops dr =>
  cases dr
  ·intro m β w a hS hF;refine wp_region_list ?_;simp only [Code.ops] at hops h1;rw [hops];simp only [wpList];have hw1:Region.wanted o1 (yielded ops a.tmps)=true:=by simp [Region.wanted,hg1]
   rw [if_pos hw1];refine .inl ?_;obtain ⟨c1,c2,c3,c4⟩:=Zh h1;simp only at c2;refine ZP (N:=N) (b:=b) (m0:=m) (β0:=β) (w0:=w) (k:=fun x S'=>x = .list l∧S'=S) c1 c4 (by simp [vop,jn,ev,hv]) hS hF (ExtB.refl _ _ _ _) ?_;rintro x S' m' β' w' a' ⟨rfl,rfl⟩ k2 k3 k4;rw [←c2] at k3;have hw2:Region.wanted o2 (yielded ops a'.tmps)=true:=by simp [Region.wanted,hg]
   rw [if_pos hw2];refine .inl ?_;have hF':FrameRep N m' β' (σ.set d1 (.list l)) a':=k3;have hr:=jR hF' hy;have hl:ev (σ.set d1 (.list l)) (.tmp d1) = .list l:=by simp [ev,Fr.look_set]
   rw [hl] at hr;obtain ⟨ad,len,cap,e1,e2⟩:=list_addr hr;have e3:a'.eval u = .slice none 0 0:=by rw [hu]; rfl
   have hgd:(eqGuard .eql t y u (.slice ad len cap) (.slice none 0 0)).run P w' = .ok () w':=rfl;have hrun:(execOp a'.eval o2).run P w' = .ok (.value (.bool ad.isNone)) w':=by
    simp [execOp,hop,e1,e3,hgd,binOp,equal_nil ht]
   unfold Oper.wp;rw [hrun];refine ⟨_,S',m',β',H ad.isNone (fun hn=>e2 (by simpa using hn)),k2, ?_,k4⟩;have:=hF'.put o2.dst (fun t ht=>by rw [hd] at ht; cases ht; exact of_decide_eq_true hlt) (x := .bool ad.isNone) (v := .bool ad.isNone) (.imm (.bool _));rw [hd] at this ⊢;exact this
  ·simp [Code.kind] at h
 | _=>simp [Code.kind] at h
end
section
variable {P:Program} {N b:Nat} {Q:Exit→Fr→Store→Prop} {σ:Fr} {S:Store}
theorem Jh {c c2:Code} {cs:List CO} {Q2:Exit→Fr→Store→Prop} (zc zs:Store) (es:List Nat) (n0 i j:Nat) (ord1 ord2:List Nat) (h:Code.kind c=2) (hm:P.follows .mixedOrders=true) (hc:qv P N (Code.ops c)=some cs) (hnc:callsOk cs i j n0=true) (hij:i≠j)
  (hp:jav es (zh (Code.ops c)) (Code.ops c) cs n0 0 (Array.replicate (Code.ops c).size false)=true)
  (hi:(zH n0 0 (Array.replicate (Code.ops c).size false)).getD i true=false) (hj:(zH n0 0 (Array.replicate (Code.ops c).size false)).getD j true=false)
  (hu:(List.range n0).all (fun k=>(zH n0 0 (Array.replicate (Code.ops c).size false)).getD k true)=true)
  (hB1:lexO es (zh (jD (Code.ops c) j i)) (jD (Code.ops c) j i) cs ord1 (zH n0 0 (Array.replicate (Code.ops c).size false))=true) (hB2:lexO es (zh (jD (Code.ops c) i j)) (jD (Code.ops c) i j) cs ord2 (zH n0 0 (Array.replicate (Code.ops c).size false))=true)
  (hn0:decide (n0≤(Code.ops c).size)=true) (hn1:ord1.length+n0=(Code.ops c).size) (hn2:ord2.length+n0=(Code.ops c).size) (hE:zN (zh (Code.ops c)) cs es=true) (hz:(ZZ.mk S zc zs es).ok S)
  {cs0 cs1 cs2:List CO} (hp0:cs.take n0=cs0) (hp1:Zo cs ord1=cs1) (hp2:Zo cs ord2=cs2)
  (H:jP P (some (ZZ.mk S zc zs es)) cs0 (fun σ1 S1 => ∃ σm Sm,VWp P N b c2 Q2 σm Sm∧jP P (some (ZZ.mk S zc zs es)) cs1 (fun σ S=>Reach N b σ S σm Sm) σ1 S1∧jP P (some (ZZ.mk S zc zs es)) cs2 (fun σ S=>Reach N b σ S σm Sm) σ1 S1) σ S):VWp P N b c (Km (VWp P N b c2 Q2) Q) σ S :=
 vw_drawSplit (ZZ.mk S zc zs es) n0 i j ord1 ord2 h hm hc hnc hij hp hi hj hu hB1 hB2 hn0 hn1 hn2 hE hz S.sub_refl hp0 hp1 hp2 H
end
end Go.Vw
namespace Ss
structure Grp where
 first:Int
 many:Int
 kind:Int
 ty:Int
deriving DecidableEq,Inhabited
def groups:List Grp:=[⟨69,1,0,127⟩,⟨70,10,1,127⟩,⟨80,1,0,126⟩,⟨81,10,1,126⟩,⟨103,3,2,127⟩,⟨106,15,3,127⟩,⟨121,3,2,126⟩,⟨124,15,3,126⟩,⟨167,1,4,126⟩,⟨172,2,5,127⟩,⟨192,2,6,127⟩,⟨194,3,6,126⟩]
def Grp.has (op:Int) (g:Grp):Bool:=decide (g.first≤op)&&decide (op-g.first<g.many)
def findIn (op:Int):List Grp→Option Grp
 | []=>none
 | g::gs=>if g.has op then some g else findIn op gs
def find (op:Int):Option Grp:=findIn op groups
theorem YF {op:Int} {g:Grp} : ∀ {gs:List Grp},findIn op gs=some g→g∈gs∧g.has op=true
 | [],h=>by simp [findIn] at h
 | x::xs,h=>by
  simp only [findIn] at h;split at h
  ·rename_i hx; cases h; exact ⟨by simp,hx⟩
  ·obtain ⟨h1,h2⟩:=YF h; exact ⟨by simp [h1],h2⟩
def division (k:Int):Bool:=decide (3≤k)&&decide (k≤6)
def total (op:Int):Bool:=match find op with
 | some g => !(decide (g.kind=3)&&division (op-g.first))
 | none=>false
def pure (op:Int):Bool:=decide (op=256)||decide (op=27)||total op
def Grp.ins (g:Grp):List Int:=if g.kind=1∨g.kind=3 then [g.ty,g.ty] else [g.ty]
def Grp.out (g:Grp):Int:=if g.kind=0∨g.kind=1∨g.kind=4 then 127 else if g.kind=5 then 126 else g.ty
def numSig (op:Int):List Int × Int × Bool:=match find op with
 | some g=>(g.ins,g.out,true)
 | none=>([],0,false)
end Ss
namespace Go.Vw
open Go.Proofs Go.RowKit
attribute [-simp] List.map_set
def Zg (g:Ss.Grp):V := .agg [vint g.first,vint g.many,vint g.kind,vint g.ty]
theorem encGrp_eq (g:Ss.Grp):Zg g = .agg [vint g.first,vint g.many,vint g.kind,vint g.ty]:=nr rfl
theorem encGrp_nc (g:Ss.Grp):(Zg g).ncells=4:=nr rfl
theorem jcw (g:Ss.Grp):(Zg g).closed=true:=rfl
attribute [simp] encGrp_eq encGrp_nc
theorem groups_v:VPure Tryz.prog 140 [] (vl Zg Ss.groups):=by
 intro S;refine QB (c:=jd Tryz.f140) Tryz.func140 Tryz.ntmps140 fun hwf=>?_
 have hr:rep0 [V.int .i64 0, .int .i64 0, .int .i64 0, .int .i64 0] 12=[.int .i64 0, .int .i64 0, .int .i64 0, .int .i64 0, .int .i64 0, .int .i64 0, .int .i64 0, .int .i64 0, .int .i64 0, .int .i64 0, .int .i64 0, .int .i64 0, .int .i64 0, .int .i64 0, .int .i64 0, .int .i64 0, .int .i64 0, .int .i64 0, .int .i64 0, .int .i64 0, .int .i64 0, .int .i64 0, .int .i64 0, .int .i64 0, .int .i64 0, .int .i64 0, .int .i64 0, .int .i64 0, .int .i64 0, .int .i64 0, .int .i64 0, .int .i64 0, .int .i64 0, .int .i64 0, .int .i64 0, .int .i64 0, .int .i64 0, .int .i64 0, .int .i64 0, .int .i64 0, .int .i64 0, .int .i64 0, .int .i64 0, .int .i64 0, .int .i64 0, .int .i64 0, .int .i64 0, .int .i64 0]:=rfl
 repeat first|refine QG ?_|refine QY ?_ (r:=by conv=>lhs;simp[QV,hr])
 exact jh (l:=[none]) hwf (Ghost.toB (frzSt (k:=0) (enc:=Zg) (s:=4) (fun _=>rfl) jcw Ss.groups (by simp) (by rfl)) _) rfl
def findV (op:Int):Option Ss.Grp→V
 | some g => .tuple [Zg g,vint (op-g.first), .bool true]
 | none => .tuple [Zg ⟨0,0,0,0⟩,vint 0, .bool false]
theorem find_v (op:Int) (ho:Ss.I64 op):VPure Tryz.prog 117 [vint op] (findV op (Ss.find op)):=by
 intro S;have hgs : ∀ g∈Ss.groups,0≤g.first∧g.first≤1000∧0≤g.many∧g.many≤1000:=by decide
 have hlen:Ss.groups.length=12:=rfl;have cg:=groups_v;unfold Ss.find;generalize Ss.groups=gs at *
 obtain ⟨ho1,ho2⟩:=ho;refine qd (c:=jd Tryz.f117) Tryz.func117 rfl (by conv=>lhs; reduce) (by simp [Tryz.ntmps117]) ?_;rw [Tryz.ntmps117];intro hwf
 repeat first|refine QG ?_|refine QY ?_
 refine QT ?_;refine QP ?_;refine QL (cg) ?_;refine QW ?_
 repeat first|refine QG ?_|refine QY ?_
 refine QT ?_;refine jc [0,2,7,8,9] rfl (fun c σ S' => ∃ (k:Nat),k≤gs.length∧c=gs.length-k∧Ss.findIn op (gs.drop k)=Ss.findIn op gs∧σ=[(0,vint op),(2, .ptr (lid S.nx 0) 0),(7,vl Zg gs),(8,vnat gs.length),(9,vnat k)]∧S'=St S [] [some (4,[.int .i64 0, .int .i64 0, .int .i64 0, .int .i64 0])]) gs.length ?_ ?_
 ·exact ⟨0,by omega,rfl,rfl,by simp [Fr.only],rfl⟩
 ·rintro c σ T ⟨k,hk,rfl,hd,rfl,rfl⟩
  by_cases hkt:k<gs.length
  ·have hw:=ji hkt (by omega);have hst:Ss.findIn op (gs.drop k)=if gs[k].has op then some gs[k] else Ss.findIn op (gs.drop (k+1)):=by rw [List.drop_eq_getElem_cons hkt,Ss.findIn]
   have hgk:=hgs _ (List.getElem_mem hkt);obtain ⟨⟨g1,g2,g3,g4⟩,hx⟩ : ∃ g,gs[k]=g:=⟨_,rfl⟩
   rw [hx] at hst hgk;simp only at hgk
   by_cases h1:g1≤op
   ·have hws:IntKind.i64.wrap (op-g1)=op-g1:=wrap_i64 (by omega) (by omega)
    by_cases h2:op-g1<g2
    ·have hst':Ss.findIn op gs=some ⟨g1,g2,g3,g4⟩:=by rw [←hd,hst]; simp [Ss.Grp.has,h1,h2]
     rw [hst']
     repeat first|refine QG ?_|refine QY ?_ (r:=by conv=>lhs;simp[QV,hkt,hx,h1,h2,hws])
     refine QT ?_;refine QJ (St S [] [none,some (4,[.int .i64 g1, .int .i64 g2, .int .i64 g3, .int .i64 g4])]) (St S [] [none,some (4,[.int .i64 g1, .int .i64 g2, .int .i64 g3, .int .i64 g4])]) [] ?_ (r:=by conv=>lhs; simp [QV,hws]);refine QI ?_;refine QM (by conv=>lhs;simp[QV,hws]) ?_;refine QN ?_
     repeat first|refine QG ?_|refine QY ?_
     exact Zp (by simp; rfl) (ja hwf (by simp [findV]) rfl)
    ·rw [show Ss.Grp.has op ⟨g1,g2,g3,g4⟩=false by simp [Ss.Grp.has,h1,h2]] at hst
     repeat first|refine QG ?_|refine QY ?_ (r:=by conv=>lhs;simp[QV,hkt,hx,h1,h2,hws])
     refine QA [0] (h:=⟨?_,k+1,hkt,rfl,by rw [←hd,hst]; rfl,by simp [hw],rfl⟩);omega
   ·rw [show Ss.Grp.has op ⟨g1,g2,g3,g4⟩=false by simp [Ss.Grp.has,h1]] at hst
    repeat first|refine QG ?_|refine QY ?_ (r:=by conv=>lhs;simp[QV,hkt,hx,h1])
    refine QA [0] (h:=⟨?_,k+1,hkt,rfl,by rw [←hd,hst]; rfl,by simp [hw],rfl⟩);omega
  ·have e:gs.drop k=[]:=by rw [List.drop_eq_nil_iff]; omega
   rw [e] at hd;have hd':Ss.findIn op gs=none:=by rw [←hd]; rfl
   rw [hd']
   repeat first|refine QG ?_|refine QY ?_ (r:=by conv=>lhs;simp[QV,hkt])
   exact Zp (by simp; rfl) (ja hwf (by simp [findV]) rfl)
theorem division_v (k:Int):VPure Tryz.prog 118 [vint k] (.bool (Ss.division k)):=by
 intro S;refine QB (c:=jd Tryz.f118) Tryz.func118 Tryz.ntmps118 fun hwf=>?_
 by_cases h:3≤k
 ·by_cases h2:k≤6
  ·repeat first|refine QG ?_|refine QY ?_ (r:=by conv=>lhs;simp[QV,h,h2])
   exact ja hwf (by simp [Ss.division,h,h2]) rfl
  ·repeat first|refine QG ?_|refine QY ?_ (r:=by conv=>lhs;simp[QV,h,h2])
   exact ja hwf (by simp [Ss.division,h2]) rfl
 ·repeat first|refine QG ?_|refine QY ?_ (r:=by conv=>lhs;simp[QV,h])
  exact ja hwf (by simp [Ss.division,h]) rfl
theorem Total_v (op:Int) (ho:Ss.I64 op):VPure Tryz.prog 83 [vint op] (.bool (Ss.total op)):=by
 intro S;have cf:=find_v op ho;unfold Ss.total
 cases hf:Ss.find op with
 | none =>
  rw [hf] at cf;have cf':VPure Tryz.prog 117 [vint op] (.tuple [.agg [.int .i64 0, .int .i64 0, .int .i64 0, .int .i64 0], .int .i64 0, .bool false]):=cf;refine QB (c:=jd Tryz.f83) Tryz.func83 Tryz.ntmps83 fun hwf=>?_
  repeat first|refine QG ?_|refine QY ?_
  refine QT ?_;refine QP ?_;refine QL (cf') ?_;refine QW ?_
  repeat first|refine QG ?_|refine QY ?_
  exact ja hwf (by simp) rfl
 | some g =>
  rw [hf] at cf;obtain ⟨g1,g2,g3,g4⟩:=g;have cf':VPure Tryz.prog 117 [vint op] (.tuple [.agg [.int .i64 g1, .int .i64 g2, .int .i64 g3, .int .i64 g4], .int .i64 (op-g1), .bool true]):=cf;have cd:=division_v (op-g1);simp only;generalize Ss.division (op-g1)=dv at *
  refine QB (c:=jd Tryz.f83) Tryz.func83 Tryz.ntmps83 fun hwf=>?_
  repeat first|refine QG ?_|refine QY ?_
  refine QT ?_;refine QP ?_;refine QL (cf') ?_;refine QW ?_
  by_cases h3:g3=3
  ·repeat first|refine QG ?_|refine QY ?_ (r:=by conv=>lhs;simp[QV,h3])
   refine QT ?_;refine QP ?_ (r:=by conv=>lhs;simp[QV,h3]);refine QL (cd) ?_;refine QW ?_
   repeat first|refine QG ?_|refine QY ?_
   exact ja hwf (by simp [h3]) rfl
  ·repeat first|refine QG ?_|refine QY ?_ (r:=by conv=>lhs;simp[QV,h3])
   exact ja hwf (by simp [h3]) rfl
theorem Pure_v (op:Int) (ho:Ss.I64 op):VPure Tryz.prog 31 [vint op] (.bool (Ss.pure op)):=by
 intro S;have ct:=Total_v op ho;unfold Ss.pure;generalize Ss.total op=x at *
 refine QB (c:=jd Tryz.f31) Tryz.func31 Tryz.ntmps31 fun hwf=>?_
 by_cases h1:op=256
 ·repeat first|refine QG ?_|refine QY ?_ (r:=by conv=>lhs;simp[QV,h1])
  exact ja hwf (by simp [h1]) rfl
 by_cases h2:op=27
 ·repeat first|refine QG ?_|refine QY ?_ (r:=by conv=>lhs;simp[QV,h1,h2])
  exact ja hwf (by simp [h2]) rfl
 repeat first|refine QG ?_|refine QY ?_ (r:=by conv=>lhs;simp[QV,h1,h2])
 refine QT ?_;refine QP ?_ (r:=by conv=>lhs;simp[QV,h1,h2]);refine QL (ct) ?_;refine QW ?_
 repeat first|refine QG ?_|refine QY ?_
 exact ja hwf (by simp [h1,h2]) rfl
theorem NumSig_v (op:Int) (ho:Ss.I64 op):VPure Tryz.prog 133 [vint op] (.tuple [vl vint (Ss.numSig op).1,vint (Ss.numSig op).2.1, .bool (Ss.numSig op).2.2]):=by
 intro S;have cf:=find_v op ho;unfold Ss.numSig
 cases hf:Ss.find op with
 | none =>
  rw [hf] at cf;have cf':VPure Tryz.prog 117 [vint op] (.tuple [.agg [.int .i64 0, .int .i64 0, .int .i64 0, .int .i64 0], .int .i64 0, .bool false]):=cf;refine QB (c:=jd Tryz.f133) Tryz.func133 Tryz.ntmps133 fun hwf=>?_
  repeat first|refine QG ?_|refine QY ?_
  refine QT ?_;refine QP ?_;refine QL (cf') ?_;refine QW ?_
  repeat first|refine QG ?_|refine QY ?_
  exact jh (l:=[_]) hwf (Ghost.toB (Ghost.tuple [] [_,_] (Ghost.nils_list _)) _) rfl
 | some g =>
  rw [hf] at cf;obtain ⟨g1,g2,g3,g4⟩:=g;have cf':VPure Tryz.prog 117 [vint op] (.tuple [.agg [.int .i64 g1, .int .i64 g2, .int .i64 g3, .int .i64 g4], .int .i64 (op-g1), .bool true]):=cf;simp only
  by_cases h1:g3=1
  ·subst h1;have hX:Ss.Grp.ins ⟨g1,g2,1,g4⟩=[g4,g4]∧Ss.Grp.out ⟨g1,g2,1,g4⟩=127:=by simp [Ss.Grp.ins,Ss.Grp.out]
   rw [hX.1,hX.2];refine QB (c:=jd Tryz.f133) Tryz.func133 Tryz.ntmps133 fun hwf=>?_
   repeat first|refine QG ?_|refine QY ?_
   refine QT ?_;refine QP ?_;refine QL (cf') ?_;refine QW ?_
   repeat first|refine QG ?_|refine QY ?_
   refine QT ?_;refine QJ (St S [] [some (4,[.int .i64 g1, .int .i64 g2, .int .i64 1, .int .i64 g4])]) (St S [] [some (4,[.int .i64 g1, .int .i64 g2, .int .i64 1, .int .i64 g4])]) [] ?_ (r:=by conv=>lhs; simp [QV]);refine QI ?_;refine QW ?_
   repeat first|refine QG ?_|refine QY ?_
   exact jh hwf ((Ghost.tuple [] [_,_] (frz1 (k:=3) (by simp) (by rfl) (by rfl) (by rfl))).toB _) rfl
  by_cases h3:g3=3
  ·subst h3;have hX:Ss.Grp.ins ⟨g1,g2,3,g4⟩=[g4,g4]∧Ss.Grp.out ⟨g1,g2,3,g4⟩=g4:=by simp [Ss.Grp.ins,Ss.Grp.out]
   rw [hX.1,hX.2];refine QB (c:=jd Tryz.f133) Tryz.func133 Tryz.ntmps133 fun hwf=>?_
   repeat first|refine QG ?_|refine QY ?_
   refine QT ?_;refine QP ?_;refine QL (cf') ?_;refine QW ?_
   repeat first|refine QG ?_|refine QY ?_
   refine QT ?_;refine QJ (St S [] [some (4,[.int .i64 g1, .int .i64 g2, .int .i64 3, .int .i64 g4])]) (St S [] [some (4,[.int .i64 g1, .int .i64 g2, .int .i64 3, .int .i64 g4])]) [] ?_ (r:=by conv=>lhs; simp [QV]);refine QI ?_;refine QW ?_
   repeat first|refine QG ?_|refine QY ?_
   exact jh hwf ((Ghost.tuple [] [_,_] (frz1 (k:=3) (by simp) (by rfl) (by rfl) (by rfl))).toB _) rfl
  by_cases h0:g3=0
  ·subst h0;have hX:Ss.Grp.ins ⟨g1,g2,0,g4⟩=[g4]∧Ss.Grp.out ⟨g1,g2,0,g4⟩=127:=by simp [Ss.Grp.ins,Ss.Grp.out]
   rw [hX.1,hX.2];refine QB (c:=jd Tryz.f133) Tryz.func133 Tryz.ntmps133 fun hwf=>?_
   repeat first|refine QG ?_|refine QY ?_
   refine QT ?_;refine QP ?_;refine QL (cf') ?_;refine QW ?_
   repeat first|refine QG ?_|refine QY ?_
   refine QT ?_;refine QJ (St S [] [some (4,[.int .i64 g1, .int .i64 g2, .int .i64 0, .int .i64 g4])]) (St S [] [some (4,[.int .i64 g1, .int .i64 g2, .int .i64 0, .int .i64 g4])]) [] ?_ (r:=by conv=>lhs; simp [QV]);refine QI ?_;refine QW ?_
   repeat first|refine QG ?_|refine QY ?_
   exact jh hwf ((Ghost.tuple [] [_,_] (frz1 (k:=1) (by simp) (by rfl) (by rfl) (by rfl))).toB _) rfl
  by_cases h4:g3=4
  ·subst h4;have hX:Ss.Grp.ins ⟨g1,g2,4,g4⟩=[g4]∧Ss.Grp.out ⟨g1,g2,4,g4⟩=127:=by simp [Ss.Grp.ins,Ss.Grp.out]
   rw [hX.1,hX.2];refine QB (c:=jd Tryz.f133) Tryz.func133 Tryz.ntmps133 fun hwf=>?_
   repeat first|refine QG ?_|refine QY ?_
   refine QT ?_;refine QP ?_;refine QL (cf') ?_;refine QW ?_
   repeat first|refine QG ?_|refine QY ?_
   refine QT ?_;refine QJ (St S [] [some (4,[.int .i64 g1, .int .i64 g2, .int .i64 4, .int .i64 g4])]) (St S [] [some (4,[.int .i64 g1, .int .i64 g2, .int .i64 4, .int .i64 g4])]) [] ?_ (r:=by conv=>lhs; simp [QV]);refine QI ?_;refine QW ?_
   repeat first|refine QG ?_|refine QY ?_
   exact jh hwf ((Ghost.tuple [] [_,_] (frz1 (k:=1) (by simp) (by rfl) (by rfl) (by rfl))).toB _) rfl
  by_cases h5:g3=5
  ·subst h5;have hX:Ss.Grp.ins ⟨g1,g2,5,g4⟩=[g4]∧Ss.Grp.out ⟨g1,g2,5,g4⟩=126:=by simp [Ss.Grp.ins,Ss.Grp.out]
   rw [hX.1,hX.2];refine QB (c:=jd Tryz.f133) Tryz.func133 Tryz.ntmps133 fun hwf=>?_
   repeat first|refine QG ?_|refine QY ?_
   refine QT ?_;refine QP ?_;refine QL (cf') ?_;refine QW ?_
   repeat first|refine QG ?_|refine QY ?_
   refine QT ?_;refine QJ (St S [] [some (4,[.int .i64 g1, .int .i64 g2, .int .i64 5, .int .i64 g4])]) (St S [] [some (4,[.int .i64 g1, .int .i64 g2, .int .i64 5, .int .i64 g4])]) [] ?_ (r:=by conv=>lhs; simp [QV]);refine QI ?_;refine QW ?_
   repeat first|refine QG ?_|refine QY ?_
   exact jh hwf ((Ghost.tuple [] [_,_] (frz1 (k:=1) (by simp) (by rfl) (by rfl) (by rfl))).toB _) rfl
  have hX:Ss.Grp.ins ⟨g1,g2,g3,g4⟩=[g4]∧Ss.Grp.out ⟨g1,g2,g3,g4⟩=g4:=by simp [Ss.Grp.ins,Ss.Grp.out,h1,h3,h0,h4,h5]
  rw [hX.1,hX.2];refine QB (c:=jd Tryz.f133) Tryz.func133 Tryz.ntmps133 fun hwf=>?_
  repeat first|refine QG ?_|refine QY ?_
  refine QT ?_;refine QP ?_;refine QL (cf') ?_;refine QW ?_
  repeat first|refine QG ?_|refine QY ?_ (r:=by conv=>lhs;simp[QV,h1,h3,h0,h4,h5])
  refine QT ?_;refine QJ (St S [] [some (4,[.int .i64 g1, .int .i64 g2, .int .i64 g3, .int .i64 g4])]) (St S [] [some (4,[.int .i64 g1, .int .i64 g2, .int .i64 g3, .int .i64 g4])]) [] ?_ (r:=by conv=>lhs; simp [QV,h1,h3,h0,h4,h5]);refine QI ?_;refine QW ?_
  repeat first|refine QG ?_|refine QY ?_ (r:=by conv=>lhs;simp[QV,h1,h3,h0,h4,h5])
  exact jh hwf ((Ghost.tuple [] [_,_] (frz1 (k:=1) (by simp) (by rfl) (by rfl) (by rfl))).toB _) rfl
end Go.Vw
namespace Ss
structure Acc where
 kind:Int
 width:Int
 store:Bool
 signed:Bool
deriving DecidableEq,Inhabited
def accL:List (Int × Acc):=[(40,⟨127,4,false,false⟩),(41,⟨126,8,false,false⟩),(44,⟨127,1,false,true⟩),(45,⟨127,1,false,false⟩),(46,⟨127,2,false,true⟩),(47,⟨127,2,false,false⟩),(48,⟨126,1,false,true⟩),(49,⟨126,1,false,false⟩),(50,⟨126,2,false,true⟩),(51,⟨126,2,false,false⟩),(52,⟨126,4,false,true⟩),(53,⟨126,4,false,false⟩),(54,⟨127,4,true,false⟩),(55,⟨126,8,true,false⟩),(58,⟨127,1,true,false⟩),(59,⟨127,2,true,false⟩),(60,⟨126,1,true,false⟩),(61,⟨126,2,true,false⟩),(62,⟨126,4,true,false⟩)]
def findK {α:Type} (n:Int):List (Int × α)→Option α
 | []=>none
 | (k,v)::r=>if n=k then some v else findK n r
def accOf (op:Int):Option Acc:=findK op accL
end Ss
namespace Go.Vw
open Go.Proofs Go.RowKit
attribute [-simp] List.map_set
def jbG (a:Ss.Acc):V := .agg [vint a.kind,vint a.width, .bool a.store, .bool a.signed]
theorem encAcc_eq (a:Ss.Acc):jbG a = .agg [vint a.kind,vint a.width, .bool a.store, .bool a.signed]:=nr rfl
attribute [simp] encAcc_eq
def mapI {α:Type} (enc:α→V) (L:List (Int × α)):List V:=L.map fun p => .tuple [.int .i64 p.1,enc p.2]
theorem jbC {α:Type} (enc:α→V) (n:Int) : ∀ (L:List (Int × α)) (i:Nat),(Ss.findK n L=none∧zA (.int .i64 n) (mapI enc L) i=some none) ∨ ∃ j v,Ss.findK n L=some v∧zA (.int .i64 n) (mapI enc L) i=some (some (i+j,enc v))
 | [],i => .inl ⟨rfl,rfl⟩
 | (k,v)::L,i=>by
  by_cases e:n=k
  ·subst e;exact .inr ⟨0,v,by simp [Ss.findK],by simp [mapI,zA,zK]⟩
  ·have e':(n==k)=false:=by simp [e]
   have h0:zA (.int .i64 n) (mapI enc ((k,v)::L)) i=zA (.int .i64 n) (mapI enc L) (i+1):=by
    show (match zK (.int .i64 n) (.int .i64 k) with | some true=>_ | some false=>_ | none=>_)=_;simp only [zK,if_true,e']
    rfl
   have h1:Ss.findK n ((k,v)::L)=Ss.findK n L:=by simp [Ss.findK,e]
   rcases jbC enc n L (i+1) with ⟨h2,h3⟩ | ⟨j,w,h2,h3⟩
   ·exact .inl ⟨h1.trans h2,h0.trans h3⟩
   ·exact .inr ⟨j+1,w,h1.trans h2,by rw [h0,h3]; simp; omega⟩
theorem jcn {α:Type} {enc:α→V} {z:V} {S:Store} {o:Nat} {n:Int} {L:List (Int × α)} (h:S.get o=some (0,mapI enc L)):zi z true S (.map o) (.int .i64 n)=some (match Ss.findK n L with | some v => .tuple [enc v, .bool true] | none => .tuple [z, .bool false]):=by
 simp only [zi,h];rcases jbC enc n L 0 with ⟨h2,h3⟩ | ⟨j,w,h2,h3⟩
 ·simp [h2,h3]
 ·simp [h2,h3]
def updC (S:Store) (o:Nat) (n:Int) (v:V) (cells:List V):Option (Option (Nat × V))→Option Store
 | some none=>some (S.upd o (0,cells++[.tuple [.int .i64 n,v]]))
 | some (some (j,_))=>some (S.upd o (0,cells.set j (.tuple [.int .i64 n,v])))
 | none=>none
def updM (S:Store) (o:Nat) (n:Int) (v:V):Option (Nat × List V)→Option Store
 | some (0,cells)=>updC S o n v cells (zA (.int .i64 n) cells 0)
 | _=>none
theorem Yw {S:Store} {o:Nat} {n:Int} {v:V} {cells:List V} (h:S.get o=some (0,cells)):qE S (.map o) (.int .i64 n) v=updC S o n v cells (zA (.int .i64 n) cells 0):=by
 simp only [qE,h]
 cases zA (.int .i64 n) cells 0 with
 | none=>rfl
 | some r=>cases r with
  | none=>rfl
  | some p=>rfl
theorem updC_new (S:Store) (o:Nat) (n:Int) (v:V) (cells:List V):updC S o n v cells (some none)=some (S.upd o (0,cells++[.tuple [.int .i64 n,v]])):=nr rfl
theorem lookV_nil (k:V) (i:Nat):zA k [] i=some none:=nr rfl
theorem lookV_cons64 (n m:Int) (v:V) (r:List V) (i:Nat):zA (.int .i64 n) (.tuple [.int .i64 m,v]::r) i=if n=m then some (some (i,v)) else zA (.int .i64 n) r (i+1):=by
 by_cases e:n=m
 ·subst e; simp [zA,zK]
 ·have e':(n==m)=false:=by simp [e]
  rw [if_neg e];show (match zK (.int .i64 n) (.int .i64 m) with | some true=>_ | some false=>_ | none=>_)=_;simp only [zK,if_true,e']
theorem acc_cells:mapI jbG Ss.accL=[.tuple [.int .i64 40, .agg [.int .i64 127, .int .i64 4, .bool false, .bool false]], .tuple [.int .i64 41, .agg [.int .i64 126, .int .i64 8, .bool false, .bool false]], .tuple [.int .i64 44, .agg [.int .i64 127, .int .i64 1, .bool false, .bool true]], .tuple [.int .i64 45, .agg [.int .i64 127, .int .i64 1, .bool false, .bool false]], .tuple [.int .i64 46, .agg [.int .i64 127, .int .i64 2, .bool false, .bool true]], .tuple [.int .i64 47, .agg [.int .i64 127, .int .i64 2, .bool false, .bool false]], .tuple [.int .i64 48, .agg [.int .i64 126, .int .i64 1, .bool false, .bool true]], .tuple [.int .i64 49, .agg [.int .i64 126, .int .i64 1, .bool false, .bool false]], .tuple [.int .i64 50, .agg [.int .i64 126, .int .i64 2, .bool false, .bool true]], .tuple [.int .i64 51, .agg [.int .i64 126, .int .i64 2, .bool false, .bool false]], .tuple [.int .i64 52, .agg [.int .i64 126, .int .i64 4, .bool false, .bool true]], .tuple [.int .i64 53, .agg [.int .i64 126, .int .i64 4, .bool false, .bool false]], .tuple [.int .i64 54, .agg [.int .i64 127, .int .i64 4, .bool true, .bool false]], .tuple [.int .i64 55, .agg [.int .i64 126, .int .i64 8, .bool true, .bool false]], .tuple [.int .i64 58, .agg [.int .i64 127, .int .i64 1, .bool true, .bool false]], .tuple [.int .i64 59, .agg [.int .i64 127, .int .i64 2, .bool true, .bool false]], .tuple [.int .i64 60, .agg [.int .i64 126, .int .i64 1, .bool true, .bool false]], .tuple [.int .i64 61, .agg [.int .i64 126, .int .i64 2, .bool true, .bool false]], .tuple [.int .i64 62, .agg [.int .i64 126, .int .i64 4, .bool true, .bool false]]]:=rfl
theorem accesses_v (S:Store):VCalls Tryz.prog 146 [] S fun r T=>r = .map (lid S.nx 0)∧T=St S [] [some (0,mapI jbG Ss.accL)]:=by
 rw [acc_cells];refine QB (c:=jd Tryz.f146) Tryz.func146 Tryz.ntmps146 fun hwf=>?_
 have hmu:=fun (S:Store) (o:Nat) (n:Int) (v:V) (cells:List V) (h:S.get o=some (0,cells))=>Yw (n:=n) (v:=v) h
 repeat first|refine QG ?_|refine QY ?_ (r:=by conv=>lhs;simp[QV,hmu,updC_new,lookV_nil,lookV_cons64])
 exact qZ ⟨by simp,rfl⟩
theorem Access_v (op:Int):VPure Tryz.prog 134 [vint op] (.tuple [vint ((Ss.accOf op).getD ⟨0,0,false,false⟩).kind,vint ((Ss.accOf op).getD ⟨0,0,false,false⟩).width, .bool ((Ss.accOf op).getD ⟨0,0,false,false⟩).store, .bool (Ss.accOf op).isSome]):=by
 intro S;have ca:=accesses_v;have hlk : ∀ (S:Store) (o:Nat),S.get o=some (0,mapI jbG Ss.accL)→zi (.agg [.int .i64 0, .int .i64 0, .bool false, .bool false]) true S (.map o) (.int .i64 op)=some (match Ss.accOf op with | some v => .tuple [jbG v, .bool true] | none => .tuple [.agg [.int .i64 0, .int .i64 0, .bool false, .bool false], .bool false]):=fun S o h=>by
  have h1:=jcn (z := .agg [.int .i64 0, .int .i64 0, .bool false, .bool false]) (n:=op) h;unfold Ss.accOf
  cases hh:Ss.findK op Ss.accL<;>rw [hh] at h1<;>exact h1
 generalize mapI jbG Ss.accL=cells at *
 cases hf:Ss.accOf op with
 | none =>
  rw [hf] at hlk;simp only at hlk;refine QB (c:=jd Tryz.f134) Tryz.func134 Tryz.ntmps134 fun hwf=>?_
  repeat first|refine QG ?_|refine QY ?_
  refine QT ?_;refine QP ?_;refine jT (xs:=[]) rfl (ca _) ?_;rintro X S' ⟨rfl,rfl⟩;rw [qF hwf];refine QM (by conv=>lhs;simp[QV,hlk]) ?_;refine QN ?_
  repeat first|refine QG ?_|refine QY ?_
  exact ja hwf (by simp) rfl
 | some a =>
  obtain ⟨a1,a2,a3,a4⟩:=a;rw [hf] at hlk;have hlk' : ∀ (S:Store) (o:Nat),S.get o=some (0,cells)→zi (.agg [.int .i64 0, .int .i64 0, .bool false, .bool false]) true S (.map o) (.int .i64 op)=some (.tuple [.agg [.int .i64 a1, .int .i64 a2, .bool a3, .bool a4], .bool true]):=hlk
  refine QB (c:=jd Tryz.f134) Tryz.func134 Tryz.ntmps134 fun hwf=>?_
  repeat first|refine QG ?_|refine QY ?_
  refine QT ?_;refine QP ?_;refine jT (xs:=[]) rfl (ca _) ?_;rintro X S' ⟨rfl,rfl⟩;rw [qF hwf];refine QM (by conv=>lhs;simp[QV,hlk']) ?_;refine QN ?_
  repeat first|refine QG ?_|refine QY ?_
  exact ja hwf (by simp) rfl
end Go.Vw
namespace Ss
structure FormR where
 inn:List Int
 outs:List Int
 most:Int
 ok:Bool
deriving DecidableEq,Inhabited
def formMem (op:Int):FormR :=
 if op=257 then ⟨[127],[],8589934592,true⟩
 else if op=63 then ⟨[],[127],0,true⟩
 else if op=64 then ⟨[127],[127],0,true⟩
 else match accOf op with
  | some a=>if a.store then ⟨[127,a.kind],[],4294967295,true⟩ else ⟨[127],[a.kind],4294967295,true⟩
  | none=>⟨[],[],0,false⟩
def formNum (e:Env) (op:Int):FormR :=
 match numSig op with
 | (l,t,true)=>⟨l,[t],0,true⟩
 | _=>if e.mem then formMem op else ⟨[],[],0,false⟩
def formGlob (e:Env) (op n:Int):FormR :=
 if n<e.globals.length then (if op=35 then ⟨[],[e.globals.getD n.toNat 0],n,true⟩ else ⟨[e.globals.getD n.toNat 0],[],n,e.muts.getD n.toNat false⟩) else ⟨[],[],0,false⟩
def form (e:Env) (op n out:Int):FormR :=
 if op=256 then (if out=127 then ⟨[],[127],4294967295,true⟩ else ⟨[],[126],18446744073709551615,true⟩)
 else if op=258 then ⟨[],[],0,true⟩
 else if op=27 then ⟨[out,out,127],[out],0,true⟩
 else if op=16 then (if n<e.sigs.length then ⟨(e.sigs.getD n.toNat default).inn,(e.sigs.getD n.toNat default).out,n,true⟩ else ⟨[],[],0,false⟩)
 else if op=35∨op=36 then formGlob e op n
 else formNum e op
end Ss
namespace Go.Vw
open Go.Proofs Go.RowKit
attribute [-simp] List.map_set
theorem Kp {n:Int} (h1:0≤n) (h2:n<18446744073709551616):IntKind.u64.wrap n=n:=by
 have e:IntKind.u64.wrap n=n % 18446744073709551616:=by simp [IntKind.wrap,IntKind.bits,IntKind.signed]
 rw [e]; omega
def jbd (r:Ss.FormR):V := .tuple [vl vint r.inn,vl vint r.outs,vu r.most, .bool r.ok]
theorem opSlice_one {α:Type} {enc:α→V} {l:List α} {k:IntKind} {m s:Nat} {S:Store} (hs : ∀ a,(enc a).ncells=s) (h:m<l.length):qD s S (vl enc l) (some (.int k (m:Int))) (some (.int k ((m:Int)+1))) none=some (vl enc [l[m]]):=by
 have e1:((m:Int)+1).toNat=m+1:=by omega
 have e2:((l.map enc).take (m+1)).drop m=[enc l[m]]:=by
  rw [List.drop_take];simp [List.drop_eq_getElem_cons,h]
 simp only [qD,vl,qQ,List.length_map];rw [if_pos (by omega),if_pos (by omega),e1];simp only [Int.toNat_natCast];rw [if_pos ⟨by omega,by omega,by omega,by simp, .inr (by simp [hs])⟩];simp [e2]
theorem form_c32 (e:Ss.Env) (op n out:Int) (hsl:e.sigs.length≤140737488355328) (hgl:e.globals.length≤140737488355328) (hml:e.muts.length=e.globals.length) (h1:op=256) (h2:out=127) :
  VPure Tryz.prog 108 [zk e,vint op,vu n,vint out] (jbd ⟨[],[127],4294967295,true⟩):=by
 intro S;obtain ⟨sg,im,gl,mu,me⟩:=e;simp only at hsl hgl hml;refine QB (c:=jd Tryz.f108) Tryz.func108 Tryz.ntmps108 fun hwf=>?_
 refine QT ?_;refine QY ?_;refine QT ?_;refine QY ?_;refine jx 12 rfl ((frz1 (k:=1) (len:=1) (by simp) (by rfl) (by rfl) (by rfl))) (by conv=>lhs; simp [Fr.set]) ?_;simp only [List.set_cons_succ,List.set_cons_zero]
 repeat first|refine QG ?_|refine QY ?_ (r:=by conv=>lhs;simp[QV,h1,h2])
 exact jh hwf (((Ghost.tuple [] [_,_,_] (Ghost.nils_list _))).toB _) rfl
theorem form_c64 (e:Ss.Env) (op n out:Int) (hsl:e.sigs.length≤140737488355328) (hgl:e.globals.length≤140737488355328) (hml:e.muts.length=e.globals.length) (h1:op=256) (h2 : ¬ out=127) :
  VPure Tryz.prog 108 [zk e,vint op,vu n,vint out] (jbd ⟨[],[126],18446744073709551615,true⟩):=by
 intro S;obtain ⟨sg,im,gl,mu,me⟩:=e;simp only at hsl hgl hml;refine QB (c:=jd Tryz.f108) Tryz.func108 Tryz.ntmps108 fun hwf=>?_
 refine QT ?_;refine QY ?_;refine QT ?_;refine QY ?_;refine jx 12 rfl ((frz1 (k:=1) (len:=1) (by simp) (by rfl) (by rfl) (by rfl))) (by conv=>lhs; simp [Fr.set]) ?_;simp only [List.set_cons_succ,List.set_cons_zero]
 repeat first|refine QG ?_|refine QY ?_ (r:=by conv=>lhs;simp[QV,h1,h2])
 exact jh hwf ((((Ghost.tuple [] [_,_,_] (Ghost.nils_list _)).trans (Ghost.tuple [_] [_,_] (frz1 (k:=2) (by simp) (by rfl) (by rfl) (by rfl))))).toB _) rfl
theorem form_tick (e:Ss.Env) (op n out:Int) (hsl:e.sigs.length≤140737488355328) (hgl:e.globals.length≤140737488355328) (hml:e.muts.length=e.globals.length) (h1:op=258) :
  VPure Tryz.prog 108 [zk e,vint op,vu n,vint out] (jbd ⟨[],[],0,true⟩):=by
 intro S;obtain ⟨sg,im,gl,mu,me⟩:=e;simp only at hsl hgl hml;refine QB (c:=jd Tryz.f108) Tryz.func108 Tryz.ntmps108 fun hwf=>?_
 refine QT ?_;refine QY ?_;refine QT ?_;refine QY ?_;refine jx 12 rfl ((frz1 (k:=1) (len:=1) (by simp) (by rfl) (by rfl) (by rfl))) (by conv=>lhs; simp [Fr.set]) ?_;simp only [List.set_cons_succ,List.set_cons_zero]
 repeat first|refine QG ?_|refine QY ?_ (r:=by conv=>lhs;simp[QV,h1])
 exact jh hwf ((((Ghost.tuple [] [_,_,_] (Ghost.nils_list _)).trans (Ghost.tuple [_] [_,_] (Ghost.nils_list _)))).toB _) rfl
theorem form_sel (e:Ss.Env) (op n out:Int) (hsl:e.sigs.length≤140737488355328) (hgl:e.globals.length≤140737488355328) (hml:e.muts.length=e.globals.length) (h1:op=27) :
  VPure Tryz.prog 108 [zk e,vint op,vu n,vint out] (jbd ⟨[out,out,127],[out],0,true⟩):=by
 intro S;obtain ⟨sg,im,gl,mu,me⟩:=e;simp only at hsl hgl hml;refine QB (c:=jd Tryz.f108) Tryz.func108 Tryz.ntmps108 fun hwf=>?_
 refine QT ?_;refine QY ?_;refine QT ?_;refine QY ?_;refine jx 12 rfl ((frz1 (k:=1) (len:=1) (by simp) (by rfl) (by rfl) (by rfl))) (by conv=>lhs; simp [Fr.set]) ?_;simp only [List.set_cons_succ,List.set_cons_zero]
 repeat first|refine QG ?_|refine QY ?_ (r:=by conv=>lhs;simp[QV,h1])
 exact jh hwf ((((Ghost.tuple [] [_,_,_] (frz1 (k:=2) (by simp) (by rfl) (by rfl) (by rfl))).trans (Ghost.tuple [_] [_,_] (frz1 (k:=3) (by simp) (by rfl) (by rfl) (by rfl))))).toB _) rfl
theorem form_call (e:Ss.Env) (op n out:Int) (hsl:e.sigs.length≤140737488355328) (hgl:e.globals.length≤140737488355328) (hml:e.muts.length=e.globals.length) (h0:0≤n) (h1:op=16) :
  VPure Tryz.prog 108 [zk e,vint op,vu n,vint out] (jbd (if n<e.sigs.length then ⟨(e.sigs.getD n.toNat default).inn,(e.sigs.getD n.toNat default).out,n,true⟩ else ⟨[],[],0,false⟩)):=by
 intro S;obtain ⟨sg,im,gl,mu,me⟩:=e;simp only at hsl hgl hml;obtain ⟨m,rfl⟩ : ∃ m:Nat,n=m:=⟨n.toNat,by omega⟩
 have hc:IntKind.u64.wrap (sg.length:Int)=(sg.length:Int):=Kp (by omega) (by omega);simp only
 by_cases h2:m<sg.length
 ·have h2':(m:Int)<(sg.length:Int):=by omega
  have h2n : ¬ (sg.length:Int)≤(m:Int):=by omega
  rw [if_pos h2'];obtain ⟨⟨a,b⟩,hab⟩ : ∃ x,sg[m]=x:=⟨_,rfl⟩
  have hgd:sg.getD (m:Int).toNat default=⟨a,b⟩:=by simp [h2,hab]
  rw [hgd];refine QB (c:=jd Tryz.f108) Tryz.func108 Tryz.ntmps108 fun hwf=>?_
  refine QT ?_;refine QY ?_;refine QT ?_;refine QY ?_;refine jx 12 rfl ((frz1 (k:=1) (len:=1) (by simp) (by rfl) (by rfl) (by rfl))) (by conv=>lhs; simp [Fr.set]) ?_;simp only [List.set_cons_succ,List.set_cons_zero]
  repeat first|refine QG ?_|refine QY ?_ (r:=by conv=>lhs;simp[QV,h1,hc,h2,h2n,hab])
  exact ja hwf (by simp [jbd,vl]) rfl
 ·have h2' : ¬ (m:Int)<(sg.length:Int):=by omega
  have h2n:(sg.length:Int)≤(m:Int):=by omega
  rw [if_neg h2'];refine QB (c:=jd Tryz.f108) Tryz.func108 Tryz.ntmps108 fun hwf=>?_
  refine QT ?_;refine QY ?_;refine QT ?_;refine QY ?_;refine jx 12 rfl ((frz1 (k:=1) (len:=1) (by simp) (by rfl) (by rfl) (by rfl))) (by conv=>lhs; simp [Fr.set]) ?_;simp only [List.set_cons_succ,List.set_cons_zero]
  repeat first|refine QG ?_|refine QY ?_ (r:=by conv=>lhs;simp[QV,h1,hc,h2,h2n])
  exact jh hwf ((((Ghost.tuple [] [_,_,_] (Ghost.nils_list _)).trans (Ghost.tuple [_] [_,_] (Ghost.nils_list _)))).toB _) rfl
theorem form_glob (e:Ss.Env) (op n out:Int) (hsl:e.sigs.length≤140737488355328) (hgl:e.globals.length≤140737488355328) (hml:e.muts.length=e.globals.length) (h0:0≤n) (h1:op=35∨op=36) :
  VPure Tryz.prog 108 [zk e,vint op,vu n,vint out] (jbd (Ss.formGlob e op n)):=by
 intro S;obtain ⟨sg,im,gl,mu,me⟩:=e;simp only at hsl hgl hml;obtain ⟨m,rfl⟩ : ∃ m:Nat,n=m:=⟨n.toNat,by omega⟩
 have hc:IntKind.u64.wrap (gl.length:Int)=(gl.length:Int):=Kp (by omega) (by omega);simp only [Ss.formGlob]
 by_cases h2:m<gl.length
 case neg =>
  have h2' : ¬ (m:Int)<(gl.length:Int):=by omega
  have h2n:(gl.length:Int)≤(m:Int):=by omega
  rw [if_neg h2'];rcases h1 with h1 | h1
  ·skip
   refine QB (c:=jd Tryz.f108) Tryz.func108 Tryz.ntmps108 fun hwf=>?_
   refine QT ?_;refine QY ?_;refine QT ?_;refine QY ?_;refine jx 12 rfl ((frz1 (k:=1) (len:=1) (by simp) (by rfl) (by rfl) (by rfl))) (by conv=>lhs; simp [Fr.set]) ?_;simp only [List.set_cons_succ,List.set_cons_zero]
   repeat first|refine QG ?_|refine QY ?_ (r:=by conv=>lhs;simp[QV,h1,hc,h2,h2n])
   exact jh hwf ((((Ghost.tuple [] [_,_,_] (Ghost.nils_list _)).trans (Ghost.tuple [_] [_,_] (Ghost.nils_list _)))).toB _) rfl
  ·skip
   refine QB (c:=jd Tryz.f108) Tryz.func108 Tryz.ntmps108 fun hwf=>?_
   refine QT ?_;refine QY ?_;refine QT ?_;refine QY ?_;refine jx 12 rfl ((frz1 (k:=1) (len:=1) (by simp) (by rfl) (by rfl) (by rfl))) (by conv=>lhs; simp [Fr.set]) ?_;simp only [List.set_cons_succ,List.set_cons_zero]
   repeat first|refine QG ?_|refine QY ?_ (r:=by conv=>lhs;simp[QV,h1,hc,h2,h2n])
   exact jh hwf ((((Ghost.tuple [] [_,_,_] (Ghost.nils_list _)).trans (Ghost.tuple [_] [_,_] (Ghost.nils_list _)))).toB _) rfl
 have h2':(m:Int)<(gl.length:Int):=by omega
 have h2n : ¬ (gl.length:Int)≤(m:Int):=by omega
 have hw:IntKind.u64.wrap ((m:Int)+1)=(m:Int)+1:=Kp (by omega) (by omega);have hsl1 : ∀ S:Store,qD 1 S (vl vint gl) (some (.int .u64 (m:Int))) (some (.int .u64 ((m:Int)+1))) none=some (vl vint [gl[m]]):=fun S=>opSlice_one nc_vint h2
 have hgd:gl.getD (m:Int).toNat 0=gl[m]:=by simp [h2]
 have hm:m<mu.length:=by omega
 obtain ⟨b,hb⟩ : ∃ b,mu[m]=b:=⟨_,rfl⟩
 have hmd:mu.getD (m:Int).toNat false=b:=by simp [hm,hb]
 rw [if_pos h2',hgd,hmd];rcases h1 with h1 | h1
 ·subst h1;rw [if_pos rfl];refine QB (c:=jd Tryz.f108) Tryz.func108 Tryz.ntmps108 fun hwf=>?_
  refine QT ?_;refine QY ?_;refine QT ?_;refine QY ?_;refine jx 12 rfl ((frz1 (k:=1) (len:=1) (by simp) (by rfl) (by rfl) (by rfl))) (by conv=>lhs; simp [Fr.set]) ?_;simp only [List.set_cons_succ,List.set_cons_zero]
  repeat first|refine QG ?_|refine QY ?_ (r:=by conv=>lhs;simp[QV,hc,h2,h2n,hw,hsl1])
  exact jh hwf (((Ghost.tuple [] [_,_,_] (Ghost.nils_list _))).toB _) rfl
 ·subst h1;rw [if_neg (by decide)];refine QB (c:=jd Tryz.f108) Tryz.func108 Tryz.ntmps108 fun hwf=>?_
  refine QT ?_;refine QY ?_;refine QT ?_;refine QY ?_;refine jx 12 rfl ((frz1 (k:=1) (len:=1) (by simp) (by rfl) (by rfl) (by rfl))) (by conv=>lhs; simp [Fr.set]) ?_;simp only [List.set_cons_succ,List.set_cons_zero]
  repeat first|refine QG ?_|refine QY ?_ (r:=by conv=>lhs;simp[QV,hc,h2,h2n,hw,hsl1])
  refine QT ?_;refine QD (r:=by conv=>lhs;simp[QV,hm,hb]) (k:=?_);refine QN ?_
  repeat first|refine QG ?_|refine QY ?_
  exact jh hwf (((Ghost.tuple [_] [_,_] (Ghost.nils_list _))).toB _) rfl
theorem form_num (e:Ss.Env) (op n out:Int) (hsl:e.sigs.length≤140737488355328) (hgl:e.globals.length≤140737488355328) (hml:e.muts.length=e.globals.length) (ho:Ss.I64 op) (h1 : ¬ op=256) (h2 : ¬ op=258) (h3 : ¬ op=27) (h4 : ¬ op=16) (h5 : ¬ op=35) (h6 : ¬ op=36) :
  VPure Tryz.prog 108 [zk e,vint op,vu n,vint out] (jbd (Ss.formNum e op)):=by
 intro S;obtain ⟨sg,im,gl,mu,me⟩:=e;simp only at hsl hgl hml;have hns:=NumSig_v op ho;simp only [Ss.formNum];generalize hsg:Ss.numSig op=sgv at *
 obtain ⟨l,t,b⟩:=sgv;simp only at hns
 by_cases hnt:b=true
 ·subst hnt;simp only;refine QB (c:=jd Tryz.f108) Tryz.func108 Tryz.ntmps108 fun hwf=>?_
  refine QT ?_;refine QY ?_;refine QT ?_;refine QY ?_;refine jx 12 rfl ((frz1 (k:=1) (len:=1) (by simp) (by rfl) (by rfl) (by rfl))) (by conv=>lhs; simp [Fr.set]) ?_;simp only [List.set_cons_succ,List.set_cons_zero]
  repeat first|refine QG ?_|refine QY ?_ (r:=by conv=>lhs;simp[QV,h1,h2,h3,h4,h5,h6])
  refine QT ?_;refine QP ?_;refine QL (hns) ?_;refine QW ?_
  repeat first|refine QG ?_|refine QY ?_
  exact jh hwf (((Ghost.tuple [_] [_,_] (frz1 (k:=2) (by simp) (by rfl) (by rfl) (by rfl)))).toB _) rfl
 have hnt':b=false:=by simpa using hnt
 rw [hnt'];simp only
 by_cases hme:me=true
 case neg =>
  have hme':me=false:=by simpa using hme
  rw [if_neg hme];refine QB (c:=jd Tryz.f108) Tryz.func108 Tryz.ntmps108 fun hwf=>?_
  refine QT ?_;refine QY ?_;refine QT ?_;refine QY ?_;refine jx 12 rfl ((frz1 (k:=1) (len:=1) (by simp) (by rfl) (by rfl) (by rfl))) (by conv=>lhs; simp [Fr.set]) ?_;simp only [List.set_cons_succ,List.set_cons_zero]
  repeat first|refine QG ?_|refine QY ?_ (r:=by conv=>lhs;simp[QV,h1,h2,h3,h4,h5,h6])
  refine QT ?_;refine QP ?_;refine QL (hns) ?_;refine QM (by conv=>lhs;simp[QV,hnt']) ?_;refine QN ?_
  repeat first|refine QG ?_|refine QY ?_ (r:=by conv=>lhs;simp[QV,hme'])
  exact jh hwf ((((Ghost.tuple [] [_,_,_] (Ghost.nils_list _)).trans (Ghost.tuple [_] [_,_] (Ghost.nils_list _)))).toB _) rfl
 rw [if_pos hme];unfold Ss.formMem
 by_cases k1:op=257
 ·rw [if_pos k1];refine QB (c:=jd Tryz.f108) Tryz.func108 Tryz.ntmps108 fun hwf=>?_
  refine QT ?_;refine QY ?_;refine QT ?_;refine QY ?_;refine jx 12 rfl ((frz1 (k:=1) (len:=1) (by simp) (by rfl) (by rfl) (by rfl))) (by conv=>lhs; simp [Fr.set]) ?_;simp only [List.set_cons_succ,List.set_cons_zero]
  repeat first|refine QG ?_|refine QY ?_ (r:=by conv=>lhs;simp[QV,h1,h2,h3,h4,h5,h6])
  refine QT ?_;refine QP ?_;refine QL (hns) ?_;refine QM (by conv=>lhs;simp[QV,hnt']) ?_;refine QN ?_
  repeat first|refine QG ?_|refine QY ?_ (r:=by conv=>lhs;simp[QV,hme,k1])
  exact jh hwf (((Ghost.tuple [_] [_,_] (Ghost.nils_list _))).toB _) rfl
 rw [if_neg k1]
 by_cases k2:op=63
 ·rw [if_pos k2];refine QB (c:=jd Tryz.f108) Tryz.func108 Tryz.ntmps108 fun hwf=>?_
  refine QT ?_;refine QY ?_;refine QT ?_;refine QY ?_;refine jx 12 rfl ((frz1 (k:=1) (len:=1) (by simp) (by rfl) (by rfl) (by rfl))) (by conv=>lhs; simp [Fr.set]) ?_;simp only [List.set_cons_succ,List.set_cons_zero]
  repeat first|refine QG ?_|refine QY ?_ (r:=by conv=>lhs;simp[QV,h1,h2,h3,h4,h5,h6])
  refine QT ?_;refine QP ?_;refine QL (hns) ?_;refine QM (by conv=>lhs;simp[QV,hnt']) ?_;refine QN ?_
  repeat first|refine QG ?_|refine QY ?_ (r:=by conv=>lhs;simp[QV,hme,k1,k2])
  exact jh hwf (((Ghost.tuple [] [_,_,_] (Ghost.nils_list _))).toB _) rfl
 rw [if_neg k2]
 by_cases k3:op=64
 ·rw [if_pos k3];refine QB (c:=jd Tryz.f108) Tryz.func108 Tryz.ntmps108 fun hwf=>?_
  refine QT ?_;refine QY ?_;refine QT ?_;refine QY ?_;refine jx 12 rfl ((frz1 (k:=1) (len:=1) (by simp) (by rfl) (by rfl) (by rfl))) (by conv=>lhs; simp [Fr.set]) ?_;simp only [List.set_cons_succ,List.set_cons_zero]
  repeat first|refine QG ?_|refine QY ?_ (r:=by conv=>lhs;simp[QV,h1,h2,h3,h4,h5,h6])
  refine QT ?_;refine QP ?_;refine QL (hns) ?_;refine QM (by conv=>lhs;simp[QV,hnt']) ?_;refine QN ?_
  repeat first|refine QG ?_|refine QY ?_ (r:=by conv=>lhs;simp[QV,hme,k1,k2,k3])
  exact ja hwf (by simp [jbd,vl]) rfl
 rw [if_neg k3];have hac:=Access_v op
 cases hf:Ss.accOf op with
 | none =>
  rw [hf] at hac;have hac':VPure Tryz.prog 134 [vint op] (.tuple [.int .i64 0, .int .i64 0, .bool false, .bool false]):=hac;simp only;refine QB (c:=jd Tryz.f108) Tryz.func108 Tryz.ntmps108 fun hwf=>?_
  refine QT ?_;refine QY ?_;refine QT ?_;refine QY ?_;refine jx 12 rfl ((frz1 (k:=1) (len:=1) (by simp) (by rfl) (by rfl) (by rfl))) (by conv=>lhs; simp [Fr.set]) ?_;simp only [List.set_cons_succ,List.set_cons_zero]
  repeat first|refine QG ?_|refine QY ?_ (r:=by conv=>lhs;simp[QV,h1,h2,h3,h4,h5,h6])
  refine QT ?_;refine QP ?_;refine QL (hns) ?_;refine QM (by conv=>lhs;simp[QV,hnt']) ?_;refine QN ?_
  repeat first|refine QG ?_|refine QY ?_ (r:=by conv=>lhs;simp[QV,hme,k1,k2,k3])
  refine QT ?_;refine QP ?_;refine QL (hac') ?_;refine QW ?_
  repeat first|refine QG ?_|refine QY ?_
  exact jh hwf ((((Ghost.tuple [] [_,_,_] (Ghost.nils_list _)).trans (Ghost.tuple [_] [_,_] (Ghost.nils_list _)))).toB _) rfl
 | some a =>
  rw [hf] at hac;obtain ⟨a1,a2,a3,a4⟩:=a;have hac':VPure Tryz.prog 134 [vint op] (.tuple [.int .i64 a1, .int .i64 a2, .bool a3, .bool true]):=hac;simp only
  by_cases h9:a3=true
  ·rw [if_pos h9];refine QB (c:=jd Tryz.f108) Tryz.func108 Tryz.ntmps108 fun hwf=>?_
   refine QT ?_;refine QY ?_;refine QT ?_;refine QY ?_;refine jx 12 rfl ((frz1 (k:=1) (len:=1) (by simp) (by rfl) (by rfl) (by rfl))) (by conv=>lhs; simp [Fr.set]) ?_;simp only [List.set_cons_succ,List.set_cons_zero]
   repeat first|refine QG ?_|refine QY ?_ (r:=by conv=>lhs;simp[QV,h1,h2,h3,h4,h5,h6])
   refine QT ?_;refine QP ?_;refine QL (hns) ?_;refine QM (by conv=>lhs;simp[QV,hnt']) ?_;refine QN ?_
   repeat first|refine QG ?_|refine QY ?_ (r:=by conv=>lhs;simp[QV,hme,k1,k2,k3])
   refine QT ?_;refine QP ?_;refine QL (hac') ?_;refine QM (by conv=>lhs;simp[QV,h9]) ?_;refine QN ?_
   repeat first|refine QG ?_|refine QY ?_ (r:=by conv=>lhs;simp[QV,h9])
   exact jh hwf ((((Ghost.tuple [] [_,_,_] (frz1 (k:=2) (by simp) (by rfl) (by rfl) (by rfl))).trans (Ghost.tuple [_] [_,_] (Ghost.nils_list _)))).toB _) rfl
  ·rw [if_neg h9];have h9':a3=false:=by simpa using h9
   refine QB (c:=jd Tryz.f108) Tryz.func108 Tryz.ntmps108 fun hwf=>?_
   refine QT ?_;refine QY ?_;refine QT ?_;refine QY ?_;refine jx 12 rfl ((frz1 (k:=1) (len:=1) (by simp) (by rfl) (by rfl) (by rfl))) (by conv=>lhs; simp [Fr.set]) ?_;simp only [List.set_cons_succ,List.set_cons_zero]
   repeat first|refine QG ?_|refine QY ?_ (r:=by conv=>lhs;simp[QV,h1,h2,h3,h4,h5,h6])
   refine QT ?_;refine QP ?_;refine QL (hns) ?_;refine QM (by conv=>lhs;simp[QV,hnt']) ?_;refine QN ?_
   repeat first|refine QG ?_|refine QY ?_ (r:=by conv=>lhs;simp[QV,hme,k1,k2,k3])
   refine QT ?_;refine QP ?_;refine QL (hac') ?_;refine QM (by conv=>lhs;simp[QV,h9']) ?_;refine QN ?_
   repeat first|refine QG ?_|refine QY ?_ (r:=by conv=>lhs;simp[QV,h9'])
   exact jh hwf (((Ghost.tuple [_] [_,_] (frz1 (k:=2) (by simp) (by rfl) (by rfl) (by rfl)))).toB _) rfl
theorem form_v (e:Ss.Env) (op n out:Int) (hsl:e.sigs.length≤140737488355328) (hgl:e.globals.length≤140737488355328) (hml:e.muts.length=e.globals.length) (ho:Ss.I64 op) (h0:0≤n) :
  VPure Tryz.prog 108 [zk e,vint op,vu n,vint out] (jbd (Ss.form e op n out)):=by
 unfold Ss.form;split
 ·rename_i h1;split
  ·rename_i h2; exact form_c32 e op n out hsl hgl hml h1 h2
  ·rename_i h2; exact form_c64 e op n out hsl hgl hml h1 h2
 ·rename_i h1;split
  ·rename_i h2; exact form_tick e op n out hsl hgl hml h2
  ·rename_i h2;split
   ·rename_i h3; exact form_sel e op n out hsl hgl hml h3
   ·rename_i h3;split
    ·rename_i h4; exact form_call e op n out hsl hgl hml h0 h4
    ·rename_i h4;split
     ·rename_i h5; exact form_glob e op n out hsl hgl hml h0 h5
     ·rename_i h5; exact form_num e op n out hsl hgl hml ho h1 h2 h3 h4 (fun h=>h5 (.inl h)) (fun h=>h5 (.inr h))
theorem EqFI_v (l m:List (Int)) (p:Int→Int→Bool) (fid:FuncId) (caps:List V) (hc:qb Tryz.prog fid=true) (hl:l.length<2^63) (h:l.length=m.length → ∀ (k:Nat) (h1:k<l.length) (h2:k<m.length),VPure Tryz.prog fid ([vint l[k],vint m[k]]++caps) (.bool (p l[k] m[k]))) :
  VPure Tryz.prog 135 [vl (vint) l,vl (vint) m, .func fid caps] (.bool (eqF p l m)):=by
 intro S
 by_cases hlm:l.length=m.length
 ·have hlm':(l.length:Int)=(m.length:Int):=by omega
  have h:=h hlm;refine QB (c:=jd Tryz.f135) Tryz.func135 Tryz.ntmps135 fun hwf=>?_
  repeat first|refine QG ?_|refine QY ?_ (r:=by conv=>lhs;simp[QV,hlm,hlm'])
  refine QT ?_;refine jc [1,2,15,16,17] rfl (fun c σ S' => ∃ (k:Nat),k≤l.length∧c=l.length-k∧eqF p (l.drop k) (m.drop k)=eqF p l m∧σ=[(1,vl (vint) m),(2, .func fid caps),(15,vl (vint) l),(16,vnat m.length),(17,vnat k)]∧S'=St S [] []) l.length ?_ ?_
  ·exact ⟨0,by omega,rfl,rfl,by simp [Fr.only,hlm],rfl⟩
  ·rintro c σ T ⟨k,hk,rfl,hd,rfl,rfl⟩
   by_cases hkt:k<l.length
   ·have hkm:k<m.length:=by omega
    have hw:=ji hkt hl;have hst:eqF p (l.drop k) (m.drop k)=(p l[k] m[k]&&eqF p (l.drop (k+1)) (m.drop (k+1))):=by rw [List.drop_eq_getElem_cons hkt,List.drop_eq_getElem_cons hkm,eqF]
    have hh:=h k hkt hkm;obtain ⟨x,hx⟩ : ∃ x,l[k]=x:=⟨_,rfl⟩
    obtain ⟨y,hy⟩ : ∃ y,m[k]=y:=⟨_,rfl⟩
    rw [hx,hy] at hst hh
    repeat first|refine QG ?_|refine QY ?_ (r:=by conv=>lhs;simp[QV,hkt,hkm,hx,hy])
    refine QT ?_;refine QP ?_ (r:=by conv=>lhs;simp[QV,hkt,hkm,hx,hy]);refine ze rfl hc rfl hh ?_;refine QW ?_
    cases hp:p x y with
    | false =>
     rw [hp] at hst
     repeat first|refine QG ?_|refine QY ?_ (r:=by conv=>lhs;simp[QV,hp])
     exact ja hwf (by rw [←hd,hst]; rfl) rfl
    | true =>
     rw [hp] at hst
     repeat first|refine QG ?_|refine QY ?_ (r:=by conv=>lhs;simp[QV,hp])
     show jp _ _ _ _ _ _ _;exact again ⟨Nat.sub_lt_sub_left hkt (Nat.lt_succ_self k),k+1,hkt,rfl,by rw [←hd,hst]; rfl,by simp [Fr.only,hw],rfl⟩
   ·have e:l.drop k=[]:=by rw [List.drop_eq_nil_iff]; omega
    have e':m.drop k=[]:=by rw [List.drop_eq_nil_iff]; omega
    rw [e,e'] at hd;have hkm : ¬ k<m.length:=by omega
    repeat first|refine QG ?_|refine QY ?_ (r:=by conv=>lhs;simp[QV,hkt,hkm])
    exact ja hwf (by rw [←hd]; rfl) rfl
 ·have hlm' : ¬ (l.length:Int)=(m.length:Int):=by omega
  have e:eqF p l m=false:=eqF_len hlm;rw [e];refine QB (c:=jd Tryz.f135) Tryz.func135 Tryz.ntmps135 fun hwf=>?_
  repeat first|refine QG ?_|refine QY ?_ (r:=by conv=>lhs;simp[QV,hlm,hlm'])
  exact ja hwf rfl rfl
theorem RDominates_v (l:List Int) (a b:Int) (hl:l.length<2^63):VPure Tryz.prog 121 [vl vint l,vint a,vint b] (.bool (G.dominates l a b)):=by
 intro S;refine qU rfl ?_;refine qO (c:=jd Tryz.f121) Tryz.func121 rfl rfl (by simp [Tryz.ntmps121]) ?_;rw [Tryz.ntmps121];refine QT ?_;refine QY ?_
 by_cases ha:G.okIx l a
 ·by_cases hb:G.okIx l b
  ·obtain ⟨ha1,ha2⟩:=ha;obtain ⟨hb1,hb2⟩:=hb;have e1 : ¬ a<0:=by omega
   have e2 : ¬ (l.length:Int)≤a:=by omega
   have e3 : ¬ b<0:=by omega
   have e4 : ¬ (l.length:Int)≤b:=by omega
   refine QT ?_;refine QY ?_ (r:=by conv=>lhs;simp[QV,jI,e1,e2,e3,e4]);refine QT ?_;refine jH rfl rfl rfl ?_;refine QT ?_;refine jB rfl ?_;refine QT ?_;refine QY ?_;refine QT ?_;refine jK 0 rfl rfl ?_;refine QT ?_;refine jc [0,1,2,7] rfl (fun n σ S' => ∃ (k:Nat) (c:Int),k≤257∧n=257-k∧G.okIx l c∧G.dom1 l a (257-k) c=G.dom1 l a 257 b∧σ=[(0,vl vint l),(1,vint a),(2,vint c),(7,vnat k)]∧S'=S) 257 ?_ ?_
   ·exact ⟨0,b,by omega,rfl,⟨hb1,hb2⟩,rfl,by simp [Fr.only,Fr.look,vnat,vint],rfl⟩
   ·rintro n σ S' ⟨k,c,hk,rfl,hc,hd,rfl,rfl⟩;have hfin:G.dominates l a b=G.dom1 l a 257 b:=by simp [G.dominates,G.okIx,ha1,ha2]
    obtain ⟨hc1,hc2⟩:=hc;have hcn:c.toNat<l.length:=by omega
    refine QT ?_;refine QY ?_;refine QT ?_;refine Yi rfl rfl rfl (k≤256) (by first | (simp; done) | (simp; omega)) ?_ ?_
    ·intro hk6;have hst:G.dom1 l a (257-k) c=if a=c then true else G.dom1 l a (256-k) (l[c.toNat]):=by
      rw [show 257-k=(256-k)+1 from by omega,G.dom1,if_pos ⟨hc1,hc2⟩];simp [hcn]
     refine QT ?_;refine jB rfl ?_;refine QT ?_;refine jK 1 rfl rfl ?_;refine QT ?_;refine QY ?_;refine QT ?_;refine Yi rfl rfl rfl (a=c) (by first | (simp; done) | (simp; omega)) ?_ ?_
     ·intro hac;refine QT ?_;refine QY ?_;refine QT ?_;refine jN rfl ?_;rw [hfin, ←hd,hst,if_pos hac];exact Gives.same (Agree.refl S')
     ·intro hac;rw [if_neg hac] at hst;refine QT ?_;refine jB rfl ?_;refine QT ?_;refine QY ?_ (r:=by conv=>lhs;simp[QV,jam,hc1,hcn]);have fls : ¬ G.okIx l l[c.toNat]→G.dom1 l a (256-k) l[c.toNat]=false:=by
       intro h
       cases 256-k<;>simp [G.dom1,h]
      by_cases hx:l[c.toNat]<0
      ·refine QT ?_;refine QY ?_ (r:=by conv=>lhs;simp[QV,jI,hx]);refine QT ?_;refine jG rfl rfl rfl ?_;refine QT ?_;refine QY ?_;refine QT ?_;refine jN rfl ?_;rw [hfin, ←hd,hst,fls (by simp [G.okIx]; omega)];exact Gives.same (Agree.refl S')
      ·by_cases hy:(l.length:Int)≤l[c.toNat]
       ·refine QT ?_;refine QY ?_ (r:=by conv=>lhs;simp[QV,jI,hx,hy]);refine QT ?_;refine jG rfl rfl rfl ?_;refine QT ?_;refine QY ?_;refine QT ?_;refine jN rfl ?_;rw [hfin, ←hd,hst,fls (by simp [G.okIx]; omega)];exact Gives.same (Agree.refl S')
       ·refine QT ?_;refine QY ?_ (r:=by conv=>lhs;simp[QV,jI,hx,hy]);refine QT ?_;refine jH rfl rfl rfl ?_;refine QT ?_;refine jB rfl ?_;have hw:IntKind.i64.wrap ((k:Int)+1)=(k:Int)+1:=wrap_i64 (by omega) (by omega);refine QT ?_;refine QY ?_ (r:=by conv=>lhs;simp[QV,hw]);exact again ⟨Nat.sub_lt_sub_left (by omega) (Nat.lt_succ_self k),k+1,l[c.toNat],by omega,rfl,⟨by omega,by omega⟩,by rw [←hd,hst]; congr 1; omega,by simp [Fr.only,Fr.look,vnat,vint],rfl⟩
    ·intro hk6;refine QT ?_;refine jQ 0 rfl rfl ?_;refine QT ?_;refine QY ?_;refine QT ?_;refine jN rfl ?_;rw [hfin, ←hd,show 257-k=0 from by omega];exact Gives.same (Agree.refl S')
  ·have hfin:G.dominates l a b=false:=by simp [G.dominates,G.dom1,hb]
   obtain ⟨ha1,ha2⟩:=ha;have e1 : ¬ a<0:=by omega
   have e2 : ¬ (l.length:Int)≤a:=by omega
   rw [hfin]
   by_cases e3:b<0
   ·refine QT ?_;refine QY ?_ (r:=by conv=>lhs;simp[QV,jI,e1,e2,e3]);refine QT ?_;refine jG rfl rfl rfl ?_;refine QT ?_;refine QY ?_;refine QT ?_;refine jN rfl ?_;exact Gives.same (Agree.refl S)
   ·have e4:(l.length:Int)≤b:=by simp [G.okIx] at hb; omega
    refine QT ?_;refine QY ?_ (r:=by conv=>lhs;simp[QV,jI,e1,e2,e3,e4]);refine QT ?_;refine jG rfl rfl rfl ?_;refine QT ?_;refine QY ?_;refine QT ?_;refine jN rfl ?_;exact Gives.same (Agree.refl S)
 ·have hfin:G.dominates l a b=false:=by simp [G.dominates,ha]
  rw [hfin]
  by_cases e1:a<0
  ·refine QT ?_;refine QY ?_ (r:=by conv=>lhs;simp[QV,jI,e1]);refine QT ?_;refine jG rfl rfl rfl ?_;refine QT ?_;refine QY ?_;refine QT ?_;refine jN rfl ?_;exact Gives.same (Agree.refl S)
  ·have e2:(l.length:Int)≤a:=by simp [G.okIx] at ha; omega
   refine QT ?_;refine QY ?_ (r:=by conv=>lhs;simp[QV,jI,e1,e2]);refine QT ?_;refine jG rfl rfl rfl ?_;refine QT ?_;refine QY ?_;refine QT ?_;refine jN rfl ?_;exact Gives.same (Agree.refl S)
theorem there_v (l:List Int) (n:Int):VPure Tryz.prog 114 [vint n, .ref (vl vint l)] (.bool (decide (G.okIx l n))):=by
 intro S;refine qU rfl ?_;refine qO (c:=jd Tryz.f114) Tryz.func114 rfl rfl (by simp [Tryz.ntmps114]) ?_;rw [Tryz.ntmps114];refine QT ?_;refine QY ?_
 by_cases h0:0≤n
 ·refine QT ?_;refine QY ?_ (r:=by conv=>lhs;simp[QV,jI,h0]);refine QT ?_;refine jN rfl ?_;have:decide (G.okIx l n)=decide (n<(l.length:Int)):=by simp [G.okIx,h0]
  rw [this];exact Gives.same (Agree.refl S)
 ·refine QT ?_;refine QY ?_ (r:=by conv=>lhs;simp[QV,jI,h0]);refine QT ?_;refine jN rfl ?_;have:decide (G.okIx l n)=false:=by simp [G.okIx,h0]
  rw [this];exact Gives.same (Agree.refl S)
theorem jaV (l:List Int) (a b:Int) (hl:l.length<2^63):VPure Tryz.prog 79 [vl vint l,vint a,vint b] (.bool (G.dominates l a b)):=by
 intro S;refine qU rfl ?_;refine qO (c:=jd Tryz.f79) Tryz.func79 rfl rfl (by simp [Tryz.ntmps79]) ?_;rw [Tryz.ntmps79];refine QT ?_;refine QY ?_;refine jx 3 rfl (Ghost.box (get_add _ _) (jbJ _ _)) (by conv=>lhs; simp [Fr.set]) ?_;have hag:Agree S ((S.add (1,[vl vint l])).del S.nx):=((Agree.refl S).add _).del (Nat.le_refl _);generalize (S.add (1,[vl vint l])).del S.nx=S1 at hag ⊢;refine QT ?_;refine QY ?_;refine QT ?_;refine QP ?_;refine ze rfl rfl rfl (there_v l a) ?_;refine QW ?_
 by_cases ha:G.okIx l a
 ·have hfin:G.dominates l a b=G.dom1 l a 257 b:=by simp [G.dominates,ha]
  rw [hfin];refine jH rfl rfl (by simp [ev,Fr.look,ha]) ?_;refine QT ?_;refine jB rfl ?_;refine QT ?_;refine QY ?_;refine QT ?_;refine jK 0 rfl rfl ?_;refine QT ?_;refine jc [0,1,2,3,7,8] rfl (fun n σ S' => ∃ (k:Nat) (c:Int),k≤257∧n=257-k∧G.dom1 l a (257-k) c=G.dom1 l a 257 b∧σ=[(0,vl vint l),(1,vint a),(2,vint c),(3, .ref (vl vint l)),(7, .func 114 [.ref (vl vint l)]),(8,vnat k)]∧S'=S1) 257 ?_ ?_
  ·exact ⟨0,b,by omega,rfl,rfl,by simp [Fr.only,Fr.look,vnat,vint],rfl⟩
  ·rintro n σ S' ⟨k,c,hk,rfl,hd,rfl,rfl⟩
   by_cases hk6:k≤256
   ·have hst:G.dom1 l a (257-k) c=if G.okIx l c then (if a=c then true else G.dom1 l a (256-k) (l.getD c.toNat 0)) else false:=by
     rw [show 257-k=(256-k)+1 from by omega,G.dom1]
    have h7:(k:Int)≤256:=by omega
    refine QT ?_;refine QP ?_ (r:=by conv=>lhs;simp[QV,h7]);refine ze rfl rfl rfl (there_v l c) ?_;refine QW ?_
    by_cases hc:G.okIx l c
    ·refine jG rfl rfl (by simp [ev,Fr.look,hc]) ?_;rw [if_pos hc] at hst;obtain ⟨hc1,hc2⟩:=hc;have hcn:c.toNat<l.length:=by omega
     refine QT ?_;refine jB rfl ?_;refine QT ?_;refine jK 1 rfl rfl ?_;refine QT ?_;refine QY ?_;refine QT ?_;refine Yi rfl rfl rfl (a=c) (by first | (simp; done) | (simp; omega)) ?_ ?_
     ·intro hac;refine QT ?_;refine QY ?_;refine QT ?_;refine jN rfl ?_;rw [←hd,hst,if_pos hac];exact Gives.same hag
     ·intro hac;rw [if_neg hac] at hst;have hw:IntKind.i64.wrap ((k:Int)+1)=(k:Int)+1:=wrap_i64 (by omega) (by omega);refine QT ?_;refine jB rfl ?_;refine QT ?_;refine QY ?_ (r:=by conv=>lhs;simp[QV,jam,hc1,hcn]);refine QT ?_;refine QY ?_ (r:=by conv=>lhs;simp[QV,hw]);exact again ⟨Nat.sub_lt_sub_left (by omega) (Nat.lt_succ_self k),k+1,l[c.toNat],by omega,rfl,by rw [←hd,hst,show 257-(k+1)=256-k from by omega]; simp [hcn],by simp [Fr.only,Fr.look,vnat,vint],rfl⟩
    ·refine jH rfl rfl (by simp [ev,Fr.look,hc]) ?_;refine QT ?_;refine jQ 0 rfl rfl ?_;refine QT ?_;refine QY ?_;refine QT ?_;refine jN rfl ?_;rw [←hd,hst,if_neg hc];exact Gives.same hag
   ·have h7 : ¬ (k:Int)≤256:=by omega
    refine QT ?_;refine QY ?_ (r:=by conv=>lhs;simp[QV,h7]);refine QT ?_;refine jH rfl rfl rfl ?_;refine QT ?_;refine jQ 0 rfl rfl ?_;refine QT ?_;refine QY ?_;refine QT ?_;refine jN rfl ?_;rw [←hd,show 257-k=0 from by omega];exact Gives.same hag
 ·have hfin:G.dominates l a b=false:=by simp [G.dominates,ha]
  rw [hfin];refine jG rfl rfl (by simp [ev,Fr.look,ha]) ?_;refine QT ?_;refine QY ?_;refine QT ?_;refine jN rfl ?_;exact Gives.same hag
end Go.Vw
