import Derived.Test.YtcpncecdegmliaaGreatC14
/- Part of the proof. -/
set_option linter.unusedVariables false
set_option linter.unusedSimpArgs false
set_option maxRecDepth 10000
set_option maxHeartbeats 4000000
namespace Go.Vw
open Go.Proofs Go.RowKit
attribute [-simp] List.map_set
theorem NumSig_v (op:Int) (ho:Ss.I64 op):VPure Tryz.prog 110 [vint op] (.tuple [vl vint (Ss.numSig op).1,vint (Ss.numSig op).2.1, .bool (Ss.numSig op).2.2]):=by
 intro S;have cf:=find_v op ho;unfold Ss.numSig
 cases hf:Ss.find op with
 | none =>
  rw [hf] at cf;have cf':VPure Tryz.prog 123 [vint op] (.tuple [.agg [.int .i64 0, .int .i64 0, .int .i64 0, .int .i64 0], .int .i64 0, .bool false]):=cf;refine QB (c:=jc Tryz.f110) Tryz.func110 Tryz.ntmps110 fun hwf=>?_
  repeat first|refine QG ?_|refine QY ?_
  refine QT ?_;refine QP ?_;refine QL (cf') ?_;refine QW ?_
  repeat first|refine QG ?_|refine QY ?_
  exact jf (l:=[_]) hwf (Ghost.toB (Ghost.tuple [] [_,_] (Ghost.nils_list _)) _) rfl
 | some g =>
  rw [hf] at cf;obtain ⟨g1,g2,g3,g4⟩:=g;have cf':VPure Tryz.prog 123 [vint op] (.tuple [.agg [.int .i64 g1, .int .i64 g2, .int .i64 g3, .int .i64 g4], .int .i64 (op-g1), .bool true]):=cf;simp only
  by_cases h1:g3=1
  ·subst h1;have hX:Ss.Grp.ins ⟨g1,g2,1,g4⟩=[g4,g4]∧Ss.Grp.out ⟨g1,g2,1,g4⟩=127:=by simp [Ss.Grp.ins,Ss.Grp.out]
   rw [hX.1,hX.2];refine QB (c:=jc Tryz.f110) Tryz.func110 Tryz.ntmps110 fun hwf=>?_
   repeat first|refine QG ?_|refine QY ?_
   refine QT ?_;refine QP ?_;refine QL (cf') ?_;refine QW ?_
   repeat first|refine QG ?_|refine QY ?_
   refine QT ?_;refine QJ (St S [] [some (4,[.int .i64 g1, .int .i64 g2, .int .i64 1, .int .i64 g4])]) (St S [] [some (4,[.int .i64 g1, .int .i64 g2, .int .i64 1, .int .i64 g4])]) [] ?_ (r:=by conv=>lhs; simp [QV]);refine QI ?_;refine QW ?_
   repeat first|refine QG ?_|refine QY ?_
   exact jf hwf ((Ghost.tuple [] [_,_] (frz1 (k:=3) (by simp) (by rfl) (by rfl) (by rfl))).toB _) rfl
  by_cases h3:g3=3
  ·subst h3;have hX:Ss.Grp.ins ⟨g1,g2,3,g4⟩=[g4,g4]∧Ss.Grp.out ⟨g1,g2,3,g4⟩=g4:=by simp [Ss.Grp.ins,Ss.Grp.out]
   rw [hX.1,hX.2];refine QB (c:=jc Tryz.f110) Tryz.func110 Tryz.ntmps110 fun hwf=>?_
   repeat first|refine QG ?_|refine QY ?_
   refine QT ?_;refine QP ?_;refine QL (cf') ?_;refine QW ?_
   repeat first|refine QG ?_|refine QY ?_
   refine QT ?_;refine QJ (St S [] [some (4,[.int .i64 g1, .int .i64 g2, .int .i64 3, .int .i64 g4])]) (St S [] [some (4,[.int .i64 g1, .int .i64 g2, .int .i64 3, .int .i64 g4])]) [] ?_ (r:=by conv=>lhs; simp [QV]);refine QI ?_;refine QW ?_
   repeat first|refine QG ?_|refine QY ?_
   exact jf hwf ((Ghost.tuple [] [_,_] (frz1 (k:=3) (by simp) (by rfl) (by rfl) (by rfl))).toB _) rfl
  by_cases h0:g3=0
  ·subst h0;have hX:Ss.Grp.ins ⟨g1,g2,0,g4⟩=[g4]∧Ss.Grp.out ⟨g1,g2,0,g4⟩=127:=by simp [Ss.Grp.ins,Ss.Grp.out]
   rw [hX.1,hX.2];refine QB (c:=jc Tryz.f110) Tryz.func110 Tryz.ntmps110 fun hwf=>?_
   repeat first|refine QG ?_|refine QY ?_
   refine QT ?_;refine QP ?_;refine QL (cf') ?_;refine QW ?_
   repeat first|refine QG ?_|refine QY ?_
   refine QT ?_;refine QJ (St S [] [some (4,[.int .i64 g1, .int .i64 g2, .int .i64 0, .int .i64 g4])]) (St S [] [some (4,[.int .i64 g1, .int .i64 g2, .int .i64 0, .int .i64 g4])]) [] ?_ (r:=by conv=>lhs; simp [QV]);refine QI ?_;refine QW ?_
   repeat first|refine QG ?_|refine QY ?_
   exact jf hwf ((Ghost.tuple [] [_,_] (frz1 (k:=1) (by simp) (by rfl) (by rfl) (by rfl))).toB _) rfl
  by_cases h4:g3=4
  ·subst h4;have hX:Ss.Grp.ins ⟨g1,g2,4,g4⟩=[g4]∧Ss.Grp.out ⟨g1,g2,4,g4⟩=127:=by simp [Ss.Grp.ins,Ss.Grp.out]
   rw [hX.1,hX.2];refine QB (c:=jc Tryz.f110) Tryz.func110 Tryz.ntmps110 fun hwf=>?_
   repeat first|refine QG ?_|refine QY ?_
   refine QT ?_;refine QP ?_;refine QL (cf') ?_;refine QW ?_
   repeat first|refine QG ?_|refine QY ?_
   refine QT ?_;refine QJ (St S [] [some (4,[.int .i64 g1, .int .i64 g2, .int .i64 4, .int .i64 g4])]) (St S [] [some (4,[.int .i64 g1, .int .i64 g2, .int .i64 4, .int .i64 g4])]) [] ?_ (r:=by conv=>lhs; simp [QV]);refine QI ?_;refine QW ?_
   repeat first|refine QG ?_|refine QY ?_
   exact jf hwf ((Ghost.tuple [] [_,_] (frz1 (k:=1) (by simp) (by rfl) (by rfl) (by rfl))).toB _) rfl
  by_cases h5:g3=5
  ·subst h5;have hX:Ss.Grp.ins ⟨g1,g2,5,g4⟩=[g4]∧Ss.Grp.out ⟨g1,g2,5,g4⟩=126:=by simp [Ss.Grp.ins,Ss.Grp.out]
   rw [hX.1,hX.2];refine QB (c:=jc Tryz.f110) Tryz.func110 Tryz.ntmps110 fun hwf=>?_
   repeat first|refine QG ?_|refine QY ?_
   refine QT ?_;refine QP ?_;refine QL (cf') ?_;refine QW ?_
   repeat first|refine QG ?_|refine QY ?_
   refine QT ?_;refine QJ (St S [] [some (4,[.int .i64 g1, .int .i64 g2, .int .i64 5, .int .i64 g4])]) (St S [] [some (4,[.int .i64 g1, .int .i64 g2, .int .i64 5, .int .i64 g4])]) [] ?_ (r:=by conv=>lhs; simp [QV]);refine QI ?_;refine QW ?_
   repeat first|refine QG ?_|refine QY ?_
   exact jf hwf ((Ghost.tuple [] [_,_] (frz1 (k:=1) (by simp) (by rfl) (by rfl) (by rfl))).toB _) rfl
  have hX:Ss.Grp.ins ⟨g1,g2,g3,g4⟩=[g4]∧Ss.Grp.out ⟨g1,g2,g3,g4⟩=g4:=by simp [Ss.Grp.ins,Ss.Grp.out,h1,h3,h0,h4,h5]
  rw [hX.1,hX.2];refine QB (c:=jc Tryz.f110) Tryz.func110 Tryz.ntmps110 fun hwf=>?_
  repeat first|refine QG ?_|refine QY ?_
  refine QT ?_;refine QP ?_;refine QL (cf') ?_;refine QW ?_
  repeat first|refine QG ?_|refine QY ?_ (r:=by conv=>lhs;simp[QV,h1,h3,h0,h4,h5])
  refine QT ?_;refine QJ (St S [] [some (4,[.int .i64 g1, .int .i64 g2, .int .i64 g3, .int .i64 g4])]) (St S [] [some (4,[.int .i64 g1, .int .i64 g2, .int .i64 g3, .int .i64 g4])]) [] ?_ (r:=by conv=>lhs; simp [QV,h1,h3,h0,h4,h5]);refine QI ?_;refine QW ?_
  repeat first|refine QG ?_|refine QY ?_ (r:=by conv=>lhs;simp[QV,h1,h3,h0,h4,h5])
  exact jf hwf ((Ghost.tuple [] [_,_] (frz1 (k:=1) (by simp) (by rfl) (by rfl) (by rfl))).toB _) rfl
end Go.Vw
namespace Ss
structure Acc where
 kind:Int
 width:Int
 store:Bool
 signed:Bool
deriving DecidableEq,Inhabited
def accL:List (Int × Acc):=[(40,⟨127,4,false,false⟩),(41,⟨126,8,false,false⟩),(44,⟨127,1,false,true⟩),(45,⟨127,1,false,false⟩),(46,⟨127,2,false,true⟩),(47,⟨127,2,false,false⟩),(48,⟨126,1,false,true⟩),(49,⟨126,1,false,false⟩),(50,⟨126,2,false,true⟩),(51,⟨126,2,false,false⟩),(52,⟨126,4,false,true⟩),(53,⟨126,4,false,false⟩),(54,⟨127,4,true,false⟩),(55,⟨126,8,true,false⟩),(58,⟨127,1,true,false⟩),(59,⟨127,2,true,false⟩),(60,⟨126,1,true,false⟩),(61,⟨126,2,true,false⟩),(62,⟨126,4,true,false⟩)]
def findK {α:Type} (n:Int):List (Int × α)→Option α
 | []=>none
 | (k,v)::r=>if n=k then some v else findK n r
def accOf (op:Int):Option Acc:=findK op accL
end Ss
namespace Go.Vw
open Go.Proofs Go.RowKit
attribute [-simp] List.map_set
def jbp (a:Ss.Acc):V := .agg [vint a.kind,vint a.width, .bool a.store, .bool a.signed]
theorem encAcc_eq (a:Ss.Acc):jbp a = .agg [vint a.kind,vint a.width, .bool a.store, .bool a.signed]:=nr rfl
attribute [simp] encAcc_eq
def mapI {α:Type} (enc:α→V) (L:List (Int × α)):List V:=L.map fun p => .tuple [.int .i64 p.1,enc p.2]
theorem jbj {α:Type} (enc:α→V) (n:Int) : ∀ (L:List (Int × α)) (i:Nat),(Ss.findK n L=none∧qR (.int .i64 n) (mapI enc L) i=some none) ∨ ∃ j v,Ss.findK n L=some v∧qR (.int .i64 n) (mapI enc L) i=some (some (i+j,enc v))
 | [],i => .inl ⟨rfl,rfl⟩
 | (k,v)::L,i=>by
  by_cases e:n=k
  ·subst e;exact .inr ⟨0,v,by simp [Ss.findK],by simp [mapI,qR,zh]⟩
  ·have e':(n==k)=false:=by simp [e]
   have h0:qR (.int .i64 n) (mapI enc ((k,v)::L)) i=qR (.int .i64 n) (mapI enc L) (i+1):=by
    show (match zh (.int .i64 n) (.int .i64 k) with | some true=>_ | some false=>_ | none=>_)=_;simp only [zh,if_true,e']
    rfl
   have h1:Ss.findK n ((k,v)::L)=Ss.findK n L:=by simp [Ss.findK,e]
   rcases jbj enc n L (i+1) with ⟨h2,h3⟩ | ⟨j,w,h2,h3⟩
   ·exact .inl ⟨h1.trans h2,h0.trans h3⟩
   ·exact .inr ⟨j+1,w,h1.trans h2,by rw [h0,h3]; simp; omega⟩
theorem jcb {α:Type} {enc:α→V} {z:V} {S:Store} {o:Nat} {n:Int} {L:List (Int × α)} (h:S.get o=some (0,mapI enc L)):qT z true S (.map o) (.int .i64 n)=some (match Ss.findK n L with | some v => .tuple [enc v, .bool true] | none => .tuple [z, .bool false]):=by
 simp only [qT,h];rcases jbj enc n L 0 with ⟨h2,h3⟩ | ⟨j,w,h2,h3⟩
 ·simp [h2,h3]
 ·simp [h2,h3]
def updC (S:Store) (o:Nat) (n:Int) (v:V) (cells:List V):Option (Option (Nat × V))→Option Store
 | some none=>some (S.upd o (0,cells++[.tuple [.int .i64 n,v]]))
 | some (some (j,_))=>some (S.upd o (0,cells.set j (.tuple [.int .i64 n,v])))
 | none=>none
theorem WY {S:Store} {o:Nat} {n:Int} {v:V} {cells:List V} (h:S.get o=some (0,cells)):ql S (.map o) (.int .i64 n) v=updC S o n v cells (qR (.int .i64 n) cells 0):=by
 simp only [ql,h]
 cases qR (.int .i64 n) cells 0 with
 | none=>rfl
 | some r=>cases r with
  | none=>rfl
  | some p=>rfl
theorem updC_new (S:Store) (o:Nat) (n:Int) (v:V) (cells:List V):updC S o n v cells (some none)=some (S.upd o (0,cells++[.tuple [.int .i64 n,v]])):=nr rfl
theorem lookV_nil (k:V) (i:Nat):qR k [] i=some none:=nr rfl
theorem lookV_cons64 (n m:Int) (v:V) (r:List V) (i:Nat):qR (.int .i64 n) (.tuple [.int .i64 m,v]::r) i=if n=m then some (some (i,v)) else qR (.int .i64 n) r (i+1):=by
 by_cases e:n=m
 ·subst e; simp [qR,zh]
 ·have e':(n==m)=false:=by simp [e]
  rw [if_neg e];show (match zh (.int .i64 n) (.int .i64 m) with | some true=>_ | some false=>_ | none=>_)=_;simp only [zh,if_true,e']
theorem acc_cells:mapI jbp Ss.accL=[.tuple [.int .i64 40, .agg [.int .i64 127, .int .i64 4, .bool false, .bool false]], .tuple [.int .i64 41, .agg [.int .i64 126, .int .i64 8, .bool false, .bool false]], .tuple [.int .i64 44, .agg [.int .i64 127, .int .i64 1, .bool false, .bool true]], .tuple [.int .i64 45, .agg [.int .i64 127, .int .i64 1, .bool false, .bool false]], .tuple [.int .i64 46, .agg [.int .i64 127, .int .i64 2, .bool false, .bool true]], .tuple [.int .i64 47, .agg [.int .i64 127, .int .i64 2, .bool false, .bool false]], .tuple [.int .i64 48, .agg [.int .i64 126, .int .i64 1, .bool false, .bool true]], .tuple [.int .i64 49, .agg [.int .i64 126, .int .i64 1, .bool false, .bool false]], .tuple [.int .i64 50, .agg [.int .i64 126, .int .i64 2, .bool false, .bool true]], .tuple [.int .i64 51, .agg [.int .i64 126, .int .i64 2, .bool false, .bool false]], .tuple [.int .i64 52, .agg [.int .i64 126, .int .i64 4, .bool false, .bool true]], .tuple [.int .i64 53, .agg [.int .i64 126, .int .i64 4, .bool false, .bool false]], .tuple [.int .i64 54, .agg [.int .i64 127, .int .i64 4, .bool true, .bool false]], .tuple [.int .i64 55, .agg [.int .i64 126, .int .i64 8, .bool true, .bool false]], .tuple [.int .i64 58, .agg [.int .i64 127, .int .i64 1, .bool true, .bool false]], .tuple [.int .i64 59, .agg [.int .i64 127, .int .i64 2, .bool true, .bool false]], .tuple [.int .i64 60, .agg [.int .i64 126, .int .i64 1, .bool true, .bool false]], .tuple [.int .i64 61, .agg [.int .i64 126, .int .i64 2, .bool true, .bool false]], .tuple [.int .i64 62, .agg [.int .i64 126, .int .i64 4, .bool true, .bool false]]]:=rfl
theorem accesses_v (S:Store):VCalls Tryz.prog 124 [] S fun r T=>r = .map (lid S.nx 0)∧T=St S [] [some (0,mapI jbp Ss.accL)]:=by
 rw [acc_cells];refine QB (c:=jc Tryz.f124) Tryz.func124 Tryz.ntmps124 fun hwf=>?_
 have hmu:=fun (S:Store) (o:Nat) (n:Int) (v:V) (cells:List V) (h:S.get o=some (0,cells))=>WY (n:=n) (v:=v) h
 repeat first|refine QG ?_|refine QY ?_ (r:=by conv=>lhs;simp[QV,hmu,updC_new,lookV_nil,lookV_cons64])
 exact zN ⟨by simp,rfl⟩
theorem Access_v (op:Int):VPure Tryz.prog 111 [vint op] (.tuple [vint ((Ss.accOf op).getD ⟨0,0,false,false⟩).kind,vint ((Ss.accOf op).getD ⟨0,0,false,false⟩).width, .bool ((Ss.accOf op).getD ⟨0,0,false,false⟩).store, .bool (Ss.accOf op).isSome]):=by
 intro S;have ca:=accesses_v;have hlk : ∀ (S:Store) (o:Nat),S.get o=some (0,mapI jbp Ss.accL)→qT (.agg [.int .i64 0, .int .i64 0, .bool false, .bool false]) true S (.map o) (.int .i64 op)=some (match Ss.accOf op with | some v => .tuple [jbp v, .bool true] | none => .tuple [.agg [.int .i64 0, .int .i64 0, .bool false, .bool false], .bool false]):=fun S o h=>by
  have h1:=jcb (z := .agg [.int .i64 0, .int .i64 0, .bool false, .bool false]) (n:=op) h;unfold Ss.accOf
  cases hh:Ss.findK op Ss.accL<;>rw [hh] at h1<;>exact h1
 generalize mapI jbp Ss.accL=cells at *
 cases hf:Ss.accOf op with
 | none =>
  rw [hf] at hlk;simp only at hlk;refine QB (c:=jc Tryz.f111) Tryz.func111 Tryz.ntmps111 fun hwf=>?_
  repeat first|refine QG ?_|refine QY ?_
  refine QT ?_;refine QP ?_;refine jO (xs:=[]) rfl (ca _) ?_;rintro X S' ⟨rfl,rfl⟩;rw [qB hwf];refine QM (by conv=>lhs;simp[QV,hlk]) ?_;refine QN ?_
  repeat first|refine QG ?_|refine QY ?_
  exact ja hwf (by simp) rfl
 | some a =>
  obtain ⟨a1,a2,a3,a4⟩:=a;rw [hf] at hlk;have hlk' : ∀ (S:Store) (o:Nat),S.get o=some (0,cells)→qT (.agg [.int .i64 0, .int .i64 0, .bool false, .bool false]) true S (.map o) (.int .i64 op)=some (.tuple [.agg [.int .i64 a1, .int .i64 a2, .bool a3, .bool a4], .bool true]):=hlk
  refine QB (c:=jc Tryz.f111) Tryz.func111 Tryz.ntmps111 fun hwf=>?_
  repeat first|refine QG ?_|refine QY ?_
  refine QT ?_;refine QP ?_;refine jO (xs:=[]) rfl (ca _) ?_;rintro X S' ⟨rfl,rfl⟩;rw [qB hwf];refine QM (by conv=>lhs;simp[QV,hlk']) ?_;refine QN ?_
  repeat first|refine QG ?_|refine QY ?_
  exact ja hwf (by simp) rfl
end Go.Vw
namespace Ss
structure FormR where
 inn:List Int
 outs:List Int
 most:Int
 ok:Bool
deriving DecidableEq,Inhabited
def formMem (op:Int):FormR :=
 if op=257 then ⟨[127],[],8589934592,true⟩
 else if op=63 then ⟨[],[127],0,true⟩
 else if op=64 then ⟨[127],[127],0,true⟩
 else match accOf op with
  | some a=>if a.store then ⟨[127,a.kind],[],4294967295,true⟩ else ⟨[127],[a.kind],4294967295,true⟩
  | none=>⟨[],[],0,false⟩
def formNum (e:Env) (op:Int):FormR :=
 match numSig op with
 | (l,t,true)=>⟨l,[t],0,true⟩
 | _=>if e.mem then formMem op else ⟨[],[],0,false⟩
def formGlob (e:Env) (op n:Int):FormR :=
 if n<e.globals.length then (if op=35 then ⟨[],[e.globals.getD n.toNat 0],n,true⟩ else ⟨[e.globals.getD n.toNat 0],[],n,e.muts.getD n.toNat false⟩) else ⟨[],[],0,false⟩
def form (e:Env) (op n out:Int):FormR :=
 if op=256 then (if out=127 then ⟨[],[127],4294967295,true⟩ else ⟨[],[126],18446744073709551615,true⟩)
 else if op=258 then ⟨[],[],0,true⟩
 else if op=27 then ⟨[out,out,127],[out],0,true⟩
 else if op=16 then (if n<e.sigs.length then ⟨(e.sigs.getD n.toNat default).inn,(e.sigs.getD n.toNat default).out,n,true⟩ else ⟨[],[],0,false⟩)
 else if op=35∨op=36 then formGlob e op n
 else formNum e op
end Ss
namespace Go.Vw
open Go.Proofs Go.RowKit
attribute [-simp] List.map_set
theorem jr {n:Int} (h1:0≤n) (h2:n<18446744073709551616):IntKind.u64.wrap n=n:=by
 have e:IntKind.u64.wrap n=n % 18446744073709551616:=by simp [IntKind.wrap,IntKind.bits,IntKind.signed]
 rw [e]; omega
def jaN (r:Ss.FormR):V := .tuple [vl vint r.inn,vl vint r.outs,vu r.most, .bool r.ok]
theorem opSlice_one {α:Type} {enc:α→V} {l:List α} {k:IntKind} {m s:Nat} {S:Store} (hs : ∀ a,(enc a).ncells=s) (h:m<l.length):qj s S (vl enc l) (some (.int k (m:Int))) (some (.int k ((m:Int)+1))) none=some (vl enc [l[m]]):=by
 have e1:((m:Int)+1).toNat=m+1:=by omega
 have e2:((l.map enc).take (m+1)).drop m=[enc l[m]]:=by
  rw [List.drop_take];simp [List.drop_eq_getElem_cons,h]
 simp only [qj,vl,qw,List.length_map];rw [if_pos (by omega),if_pos (by omega),e1];simp only [Int.toNat_natCast];rw [if_pos ⟨by omega,by omega,by omega,by simp, .inr (by simp [hs])⟩];simp [e2]
theorem form_c32 (e:Ss.Env) (op n out:Int) (hsl:e.sigs.length≤140737488355328) (hgl:e.globals.length≤140737488355328) (hml:e.muts.length=e.globals.length) (h1:op=256) (h2:out=127) :
  VPure Tryz.prog 93 [qM e,vint op,vu n,vint out] (jaN ⟨[],[127],4294967295,true⟩):=by
 intro S;obtain ⟨sg,im,gl,mu,me⟩:=e;simp only at hsl hgl hml;refine QB (c:=jc Tryz.f93) Tryz.func93 Tryz.ntmps93 fun hwf=>?_
 refine QT ?_;refine QY ?_;refine QT ?_;refine QY ?_;refine jt 12 rfl ((frz1 (k:=1) (len:=1) (by simp) (by rfl) (by rfl) (by rfl))) (by conv=>lhs; simp [Fr.set]) ?_;simp only [List.set_cons_succ,List.set_cons_zero]
 repeat first|refine QG ?_|refine QY ?_ (r:=by conv=>lhs;simp[QV,h1,h2])
 exact jf hwf (((Ghost.tuple [] [_,_,_] (Ghost.nils_list _))).toB _) rfl
theorem form_c64 (e:Ss.Env) (op n out:Int) (hsl:e.sigs.length≤140737488355328) (hgl:e.globals.length≤140737488355328) (hml:e.muts.length=e.globals.length) (h1:op=256) (h2 : ¬ out=127) :
  VPure Tryz.prog 93 [qM e,vint op,vu n,vint out] (jaN ⟨[],[126],18446744073709551615,true⟩):=by
 intro S;obtain ⟨sg,im,gl,mu,me⟩:=e;simp only at hsl hgl hml;refine QB (c:=jc Tryz.f93) Tryz.func93 Tryz.ntmps93 fun hwf=>?_
 refine QT ?_;refine QY ?_;refine QT ?_;refine QY ?_;refine jt 12 rfl ((frz1 (k:=1) (len:=1) (by simp) (by rfl) (by rfl) (by rfl))) (by conv=>lhs; simp [Fr.set]) ?_;simp only [List.set_cons_succ,List.set_cons_zero]
 repeat first|refine QG ?_|refine QY ?_ (r:=by conv=>lhs;simp[QV,h1,h2])
 exact jf hwf ((((Ghost.tuple [] [_,_,_] (Ghost.nils_list _)).trans (Ghost.tuple [_] [_,_] (frz1 (k:=2) (by simp) (by rfl) (by rfl) (by rfl))))).toB _) rfl
theorem form_tick (e:Ss.Env) (op n out:Int) (hsl:e.sigs.length≤140737488355328) (hgl:e.globals.length≤140737488355328) (hml:e.muts.length=e.globals.length) (h1:op=258) :
  VPure Tryz.prog 93 [qM e,vint op,vu n,vint out] (jaN ⟨[],[],0,true⟩):=by
 intro S;obtain ⟨sg,im,gl,mu,me⟩:=e;simp only at hsl hgl hml;refine QB (c:=jc Tryz.f93) Tryz.func93 Tryz.ntmps93 fun hwf=>?_
 refine QT ?_;refine QY ?_;refine QT ?_;refine QY ?_;refine jt 12 rfl ((frz1 (k:=1) (len:=1) (by simp) (by rfl) (by rfl) (by rfl))) (by conv=>lhs; simp [Fr.set]) ?_;simp only [List.set_cons_succ,List.set_cons_zero]
 repeat first|refine QG ?_|refine QY ?_ (r:=by conv=>lhs;simp[QV,h1])
 exact jf hwf ((((Ghost.tuple [] [_,_,_] (Ghost.nils_list _)).trans (Ghost.tuple [_] [_,_] (Ghost.nils_list _)))).toB _) rfl
theorem form_sel (e:Ss.Env) (op n out:Int) (hsl:e.sigs.length≤140737488355328) (hgl:e.globals.length≤140737488355328) (hml:e.muts.length=e.globals.length) (h1:op=27) :
  VPure Tryz.prog 93 [qM e,vint op,vu n,vint out] (jaN ⟨[out,out,127],[out],0,true⟩):=by
 intro S;obtain ⟨sg,im,gl,mu,me⟩:=e;simp only at hsl hgl hml;refine QB (c:=jc Tryz.f93) Tryz.func93 Tryz.ntmps93 fun hwf=>?_
 refine QT ?_;refine QY ?_;refine QT ?_;refine QY ?_;refine jt 12 rfl ((frz1 (k:=1) (len:=1) (by simp) (by rfl) (by rfl) (by rfl))) (by conv=>lhs; simp [Fr.set]) ?_;simp only [List.set_cons_succ,List.set_cons_zero]
 repeat first|refine QG ?_|refine QY ?_ (r:=by conv=>lhs;simp[QV,h1])
 exact jf hwf ((((Ghost.tuple [] [_,_,_] (frz1 (k:=2) (by simp) (by rfl) (by rfl) (by rfl))).trans (Ghost.tuple [_] [_,_] (frz1 (k:=3) (by simp) (by rfl) (by rfl) (by rfl))))).toB _) rfl
theorem form_call (e:Ss.Env) (op n out:Int) (hsl:e.sigs.length≤140737488355328) (hgl:e.globals.length≤140737488355328) (hml:e.muts.length=e.globals.length) (h0:0≤n) (h1:op=16) :
  VPure Tryz.prog 93 [qM e,vint op,vu n,vint out] (jaN (if n<e.sigs.length then ⟨(e.sigs.getD n.toNat default).inn,(e.sigs.getD n.toNat default).out,n,true⟩ else ⟨[],[],0,false⟩)):=by
 intro S;obtain ⟨sg,im,gl,mu,me⟩:=e;simp only at hsl hgl hml;obtain ⟨m,rfl⟩ : ∃ m:Nat,n=m:=⟨n.toNat,by omega⟩
 have hc:IntKind.u64.wrap (sg.length:Int)=(sg.length:Int):=jr (by omega) (by omega);simp only
 by_cases h2:m<sg.length
 ·have h2':(m:Int)<(sg.length:Int):=by omega
  have h2n : ¬ (sg.length:Int)≤(m:Int):=by omega
  rw [if_pos h2'];obtain ⟨⟨a,b⟩,hab⟩ : ∃ x,sg[m]=x:=⟨_,rfl⟩
  have hgd:sg.getD (m:Int).toNat default=⟨a,b⟩:=by simp [h2,hab]
  rw [hgd];refine QB (c:=jc Tryz.f93) Tryz.func93 Tryz.ntmps93 fun hwf=>?_
  refine QT ?_;refine QY ?_;refine QT ?_;refine QY ?_;refine jt 12 rfl ((frz1 (k:=1) (len:=1) (by simp) (by rfl) (by rfl) (by rfl))) (by conv=>lhs; simp [Fr.set]) ?_;simp only [List.set_cons_succ,List.set_cons_zero]
  repeat first|refine QG ?_|refine QY ?_ (r:=by conv=>lhs;simp[QV,h1,hc,h2,h2n,hab])
  exact ja hwf (by simp [jaN,vl]) rfl
 ·have h2' : ¬ (m:Int)<(sg.length:Int):=by omega
  have h2n:(sg.length:Int)≤(m:Int):=by omega
  rw [if_neg h2'];refine QB (c:=jc Tryz.f93) Tryz.func93 Tryz.ntmps93 fun hwf=>?_
  refine QT ?_;refine QY ?_;refine QT ?_;refine QY ?_;refine jt 12 rfl ((frz1 (k:=1) (len:=1) (by simp) (by rfl) (by rfl) (by rfl))) (by conv=>lhs; simp [Fr.set]) ?_;simp only [List.set_cons_succ,List.set_cons_zero]
  repeat first|refine QG ?_|refine QY ?_ (r:=by conv=>lhs;simp[QV,h1,hc,h2,h2n])
  exact jf hwf ((((Ghost.tuple [] [_,_,_] (Ghost.nils_list _)).trans (Ghost.tuple [_] [_,_] (Ghost.nils_list _)))).toB _) rfl
theorem form_glob (e:Ss.Env) (op n out:Int) (hsl:e.sigs.length≤140737488355328) (hgl:e.globals.length≤140737488355328) (hml:e.muts.length=e.globals.length) (h0:0≤n) (h1:op=35∨op=36) :
  VPure Tryz.prog 93 [qM e,vint op,vu n,vint out] (jaN (Ss.formGlob e op n)):=by
 intro S;obtain ⟨sg,im,gl,mu,me⟩:=e;simp only at hsl hgl hml;obtain ⟨m,rfl⟩ : ∃ m:Nat,n=m:=⟨n.toNat,by omega⟩
 have hc:IntKind.u64.wrap (gl.length:Int)=(gl.length:Int):=jr (by omega) (by omega);simp only [Ss.formGlob]
 by_cases h2:m<gl.length
 case neg =>
  have h2' : ¬ (m:Int)<(gl.length:Int):=by omega
  have h2n:(gl.length:Int)≤(m:Int):=by omega
  rw [if_neg h2'];rcases h1 with h1 | h1
  ·skip
   refine QB (c:=jc Tryz.f93) Tryz.func93 Tryz.ntmps93 fun hwf=>?_
   refine QT ?_;refine QY ?_;refine QT ?_;refine QY ?_;refine jt 12 rfl ((frz1 (k:=1) (len:=1) (by simp) (by rfl) (by rfl) (by rfl))) (by conv=>lhs; simp [Fr.set]) ?_;simp only [List.set_cons_succ,List.set_cons_zero]
   repeat first|refine QG ?_|refine QY ?_ (r:=by conv=>lhs;simp[QV,h1,hc,h2,h2n])
   exact jf hwf ((((Ghost.tuple [] [_,_,_] (Ghost.nils_list _)).trans (Ghost.tuple [_] [_,_] (Ghost.nils_list _)))).toB _) rfl
  ·skip
   refine QB (c:=jc Tryz.f93) Tryz.func93 Tryz.ntmps93 fun hwf=>?_
   refine QT ?_;refine QY ?_;refine QT ?_;refine QY ?_;refine jt 12 rfl ((frz1 (k:=1) (len:=1) (by simp) (by rfl) (by rfl) (by rfl))) (by conv=>lhs; simp [Fr.set]) ?_;simp only [List.set_cons_succ,List.set_cons_zero]
   repeat first|refine QG ?_|refine QY ?_ (r:=by conv=>lhs;simp[QV,h1,hc,h2,h2n])
   exact jf hwf ((((Ghost.tuple [] [_,_,_] (Ghost.nils_list _)).trans (Ghost.tuple [_] [_,_] (Ghost.nils_list _)))).toB _) rfl
 have h2':(m:Int)<(gl.length:Int):=by omega
 have h2n : ¬ (gl.length:Int)≤(m:Int):=by omega
 have hw:IntKind.u64.wrap ((m:Int)+1)=(m:Int)+1:=jr (by omega) (by omega);have hsl1 : ∀ S:Store,qj 1 S (vl vint gl) (some (.int .u64 (m:Int))) (some (.int .u64 ((m:Int)+1))) none=some (vl vint [gl[m]]):=fun S=>opSlice_one nc_vint h2
 have hgd:gl.getD (m:Int).toNat 0=gl[m]:=by simp [h2]
 have hm:m<mu.length:=by omega
 obtain ⟨b,hb⟩ : ∃ b,mu[m]=b:=⟨_,rfl⟩
 have hmd:mu.getD (m:Int).toNat false=b:=by simp [hm,hb]
 rw [if_pos h2',hgd,hmd];rcases h1 with h1 | h1
 ·subst h1;rw [if_pos rfl];refine QB (c:=jc Tryz.f93) Tryz.func93 Tryz.ntmps93 fun hwf=>?_
  refine QT ?_;refine QY ?_;refine QT ?_;refine QY ?_;refine jt 12 rfl ((frz1 (k:=1) (len:=1) (by simp) (by rfl) (by rfl) (by rfl))) (by conv=>lhs; simp [Fr.set]) ?_;simp only [List.set_cons_succ,List.set_cons_zero]
  repeat first|refine QG ?_|refine QY ?_ (r:=by conv=>lhs;simp[QV,hc,h2,h2n,hw,hsl1])
  exact jf hwf (((Ghost.tuple [] [_,_,_] (Ghost.nils_list _))).toB _) rfl
 ·subst h1;rw [if_neg (by decide)];refine QB (c:=jc Tryz.f93) Tryz.func93 Tryz.ntmps93 fun hwf=>?_
  refine QT ?_;refine QY ?_;refine QT ?_;refine QY ?_;refine jt 12 rfl ((frz1 (k:=1) (len:=1) (by simp) (by rfl) (by rfl) (by rfl))) (by conv=>lhs; simp [Fr.set]) ?_;simp only [List.set_cons_succ,List.set_cons_zero]
  repeat first|refine QG ?_|refine QY ?_ (r:=by conv=>lhs;simp[QV,hc,h2,h2n,hw,hsl1])
  refine QT ?_;refine QD (r:=by conv=>lhs;simp[QV,hm,hb]) (k:=?_);refine QN ?_
  repeat first|refine QG ?_|refine QY ?_
  exact jf hwf (((Ghost.tuple [_] [_,_] (Ghost.nils_list _))).toB _) rfl
theorem form_num (e:Ss.Env) (op n out:Int) (hsl:e.sigs.length≤140737488355328) (hgl:e.globals.length≤140737488355328) (hml:e.muts.length=e.globals.length) (ho:Ss.I64 op) (h1 : ¬ op=256) (h2 : ¬ op=258) (h3 : ¬ op=27) (h4 : ¬ op=16) (h5 : ¬ op=35) (h6 : ¬ op=36) :
  VPure Tryz.prog 93 [qM e,vint op,vu n,vint out] (jaN (Ss.formNum e op)):=by
 intro S;obtain ⟨sg,im,gl,mu,me⟩:=e;simp only at hsl hgl hml;have hns:=NumSig_v op ho;simp only [Ss.formNum];generalize hsg:Ss.numSig op=sgv at *
 obtain ⟨l,t,b⟩:=sgv;simp only at hns
 by_cases hnt:b=true
 ·subst hnt;simp only;refine QB (c:=jc Tryz.f93) Tryz.func93 Tryz.ntmps93 fun hwf=>?_
  refine QT ?_;refine QY ?_;refine QT ?_;refine QY ?_;refine jt 12 rfl ((frz1 (k:=1) (len:=1) (by simp) (by rfl) (by rfl) (by rfl))) (by conv=>lhs; simp [Fr.set]) ?_;simp only [List.set_cons_succ,List.set_cons_zero]
  repeat first|refine QG ?_|refine QY ?_ (r:=by conv=>lhs;simp[QV,h1,h2,h3,h4,h5,h6])
  refine QT ?_;refine QP ?_;refine QL (hns) ?_;refine QW ?_
  repeat first|refine QG ?_|refine QY ?_
  exact jf hwf (((Ghost.tuple [_] [_,_] (frz1 (k:=2) (by simp) (by rfl) (by rfl) (by rfl)))).toB _) rfl
 have hnt':b=false:=by simpa using hnt
 rw [hnt'];simp only
 by_cases hme:me=true
 case neg =>
  have hme':me=false:=by simpa using hme
  rw [if_neg hme];refine QB (c:=jc Tryz.f93) Tryz.func93 Tryz.ntmps93 fun hwf=>?_
  refine QT ?_;refine QY ?_;refine QT ?_;refine QY ?_;refine jt 12 rfl ((frz1 (k:=1) (len:=1) (by simp) (by rfl) (by rfl) (by rfl))) (by conv=>lhs; simp [Fr.set]) ?_;simp only [List.set_cons_succ,List.set_cons_zero]
  repeat first|refine QG ?_|refine QY ?_ (r:=by conv=>lhs;simp[QV,h1,h2,h3,h4,h5,h6])
  refine QT ?_;refine QP ?_;refine QL (hns) ?_;refine QM (by conv=>lhs;simp[QV,hnt']) ?_;refine QN ?_
  repeat first|refine QG ?_|refine QY ?_ (r:=by conv=>lhs;simp[QV,hme'])
  exact jf hwf ((((Ghost.tuple [] [_,_,_] (Ghost.nils_list _)).trans (Ghost.tuple [_] [_,_] (Ghost.nils_list _)))).toB _) rfl
 rw [if_pos hme];unfold Ss.formMem
 by_cases k1:op=257
 ·rw [if_pos k1];refine QB (c:=jc Tryz.f93) Tryz.func93 Tryz.ntmps93 fun hwf=>?_
  refine QT ?_;refine QY ?_;refine QT ?_;refine QY ?_;refine jt 12 rfl ((frz1 (k:=1) (len:=1) (by simp) (by rfl) (by rfl) (by rfl))) (by conv=>lhs; simp [Fr.set]) ?_;simp only [List.set_cons_succ,List.set_cons_zero]
  repeat first|refine QG ?_|refine QY ?_ (r:=by conv=>lhs;simp[QV,h1,h2,h3,h4,h5,h6])
  refine QT ?_;refine QP ?_;refine QL (hns) ?_;refine QM (by conv=>lhs;simp[QV,hnt']) ?_;refine QN ?_
  repeat first|refine QG ?_|refine QY ?_ (r:=by conv=>lhs;simp[QV,hme,k1])
  exact jf hwf (((Ghost.tuple [_] [_,_] (Ghost.nils_list _))).toB _) rfl
 rw [if_neg k1]
 by_cases k2:op=63
 ·rw [if_pos k2];refine QB (c:=jc Tryz.f93) Tryz.func93 Tryz.ntmps93 fun hwf=>?_
  refine QT ?_;refine QY ?_;refine QT ?_;refine QY ?_;refine jt 12 rfl ((frz1 (k:=1) (len:=1) (by simp) (by rfl) (by rfl) (by rfl))) (by conv=>lhs; simp [Fr.set]) ?_;simp only [List.set_cons_succ,List.set_cons_zero]
  repeat first|refine QG ?_|refine QY ?_ (r:=by conv=>lhs;simp[QV,h1,h2,h3,h4,h5,h6])
  refine QT ?_;refine QP ?_;refine QL (hns) ?_;refine QM (by conv=>lhs;simp[QV,hnt']) ?_;refine QN ?_
  repeat first|refine QG ?_|refine QY ?_ (r:=by conv=>lhs;simp[QV,hme,k1,k2])
  exact jf hwf (((Ghost.tuple [] [_,_,_] (Ghost.nils_list _))).toB _) rfl
 rw [if_neg k2]
 by_cases k3:op=64
 ·rw [if_pos k3];refine QB (c:=jc Tryz.f93) Tryz.func93 Tryz.ntmps93 fun hwf=>?_
  refine QT ?_;refine QY ?_;refine QT ?_;refine QY ?_;refine jt 12 rfl ((frz1 (k:=1) (len:=1) (by simp) (by rfl) (by rfl) (by rfl))) (by conv=>lhs; simp [Fr.set]) ?_;simp only [List.set_cons_succ,List.set_cons_zero]
  repeat first|refine QG ?_|refine QY ?_ (r:=by conv=>lhs;simp[QV,h1,h2,h3,h4,h5,h6])
  refine QT ?_;refine QP ?_;refine QL (hns) ?_;refine QM (by conv=>lhs;simp[QV,hnt']) ?_;refine QN ?_
  repeat first|refine QG ?_|refine QY ?_ (r:=by conv=>lhs;simp[QV,hme,k1,k2,k3])
  exact ja hwf (by simp [jaN,vl]) rfl
 rw [if_neg k3];have hac:=Access_v op
 cases hf:Ss.accOf op with
 | none =>
  rw [hf] at hac;have hac':VPure Tryz.prog 111 [vint op] (.tuple [.int .i64 0, .int .i64 0, .bool false, .bool false]):=hac;simp only;refine QB (c:=jc Tryz.f93) Tryz.func93 Tryz.ntmps93 fun hwf=>?_
  refine QT ?_;refine QY ?_;refine QT ?_;refine QY ?_;refine jt 12 rfl ((frz1 (k:=1) (len:=1) (by simp) (by rfl) (by rfl) (by rfl))) (by conv=>lhs; simp [Fr.set]) ?_;simp only [List.set_cons_succ,List.set_cons_zero]
  repeat first|refine QG ?_|refine QY ?_ (r:=by conv=>lhs;simp[QV,h1,h2,h3,h4,h5,h6])
  refine QT ?_;refine QP ?_;refine QL (hns) ?_;refine QM (by conv=>lhs;simp[QV,hnt']) ?_;refine QN ?_
  repeat first|refine QG ?_|refine QY ?_ (r:=by conv=>lhs;simp[QV,hme,k1,k2,k3])
  refine QT ?_;refine QP ?_;refine QL (hac') ?_;refine QW ?_
  repeat first|refine QG ?_|refine QY ?_
  exact jf hwf ((((Ghost.tuple [] [_,_,_] (Ghost.nils_list _)).trans (Ghost.tuple [_] [_,_] (Ghost.nils_list _)))).toB _) rfl
 | some a =>
  rw [hf] at hac;obtain ⟨a1,a2,a3,a4⟩:=a;have hac':VPure Tryz.prog 111 [vint op] (.tuple [.int .i64 a1, .int .i64 a2, .bool a3, .bool true]):=hac;simp only
  by_cases h9:a3=true
  ·rw [if_pos h9];refine QB (c:=jc Tryz.f93) Tryz.func93 Tryz.ntmps93 fun hwf=>?_
   refine QT ?_;refine QY ?_;refine QT ?_;refine QY ?_;refine jt 12 rfl ((frz1 (k:=1) (len:=1) (by simp) (by rfl) (by rfl) (by rfl))) (by conv=>lhs; simp [Fr.set]) ?_;simp only [List.set_cons_succ,List.set_cons_zero]
   repeat first|refine QG ?_|refine QY ?_ (r:=by conv=>lhs;simp[QV,h1,h2,h3,h4,h5,h6])
   refine QT ?_;refine QP ?_;refine QL (hns) ?_;refine QM (by conv=>lhs;simp[QV,hnt']) ?_;refine QN ?_
   repeat first|refine QG ?_|refine QY ?_ (r:=by conv=>lhs;simp[QV,hme,k1,k2,k3])
   refine QT ?_;refine QP ?_;refine QL (hac') ?_;refine QM (by conv=>lhs;simp[QV,h9]) ?_;refine QN ?_
   repeat first|refine QG ?_|refine QY ?_ (r:=by conv=>lhs;simp[QV,h9])
   exact jf hwf ((((Ghost.tuple [] [_,_,_] (frz1 (k:=2) (by simp) (by rfl) (by rfl) (by rfl))).trans (Ghost.tuple [_] [_,_] (Ghost.nils_list _)))).toB _) rfl
  ·rw [if_neg h9];have h9':a3=false:=by simpa using h9
   refine QB (c:=jc Tryz.f93) Tryz.func93 Tryz.ntmps93 fun hwf=>?_
   refine QT ?_;refine QY ?_;refine QT ?_;refine QY ?_;refine jt 12 rfl ((frz1 (k:=1) (len:=1) (by simp) (by rfl) (by rfl) (by rfl))) (by conv=>lhs; simp [Fr.set]) ?_;simp only [List.set_cons_succ,List.set_cons_zero]
   repeat first|refine QG ?_|refine QY ?_ (r:=by conv=>lhs;simp[QV,h1,h2,h3,h4,h5,h6])
   refine QT ?_;refine QP ?_;refine QL (hns) ?_;refine QM (by conv=>lhs;simp[QV,hnt']) ?_;refine QN ?_
   repeat first|refine QG ?_|refine QY ?_ (r:=by conv=>lhs;simp[QV,hme,k1,k2,k3])
   refine QT ?_;refine QP ?_;refine QL (hac') ?_;refine QM (by conv=>lhs;simp[QV,h9']) ?_;refine QN ?_
   repeat first|refine QG ?_|refine QY ?_ (r:=by conv=>lhs;simp[QV,h9'])
   exact jf hwf (((Ghost.tuple [_] [_,_] (frz1 (k:=2) (by simp) (by rfl) (by rfl) (by rfl)))).toB _) rfl
theorem form_v (e:Ss.Env) (op n out:Int) (hsl:e.sigs.length≤140737488355328) (hgl:e.globals.length≤140737488355328) (hml:e.muts.length=e.globals.length) (ho:Ss.I64 op) (h0:0≤n) :
  VPure Tryz.prog 93 [qM e,vint op,vu n,vint out] (jaN (Ss.form e op n out)):=by
 unfold Ss.form;split
 ·rename_i h1;split
  ·rename_i h2; exact form_c32 e op n out hsl hgl hml h1 h2
  ·rename_i h2; exact form_c64 e op n out hsl hgl hml h1 h2
 ·rename_i h1;split
  ·rename_i h2; exact form_tick e op n out hsl hgl hml h2
  ·rename_i h2;split
   ·rename_i h3; exact form_sel e op n out hsl hgl hml h3
   ·rename_i h3;split
    ·rename_i h4; exact form_call e op n out hsl hgl hml h0 h4
    ·rename_i h4;split
     ·rename_i h5; exact form_glob e op n out hsl hgl hml h0 h5
     ·rename_i h5; exact form_num e op n out hsl hgl hml ho h1 h2 h3 h4 (fun h=>h5 (.inl h)) (fun h=>h5 (.inr h))
end Go.Vw
namespace Ev
/-! ### Numbers -/
def widthI (t:Int):Nat:=if t=127 then 32 else 64
def b1 (b:Bool):Int:=if b then 1 else 0
def U64 (n:Int):Prop:=0≤n∧n<18446744073709551616
def sgnI (n:Int) (b:Nat):Int:=(Go.IntKind.i64.wrap (Go.IntKind.u64.wrap (n*2^(64-b)))).fdiv (2^(64-b))
def orI (x y:Int):Int:=Go.IntKind.u64.wrap (((x % 2^Go.IntKind.u64.bits).toNat ||| (y % 2^Go.IntKind.u64.bits).toNat:Nat):Int)
def turnS (w:Nat) (a:Int):Int:=(orI (Go.IntKind.u64.wrap (a*2)) (a.fdiv (2^(w-1)))) % 2^w
def turnI (w:Nat):Nat→Int→Int
 | 0,a=>a
 | k+1,a=>turnS w (turnI w k a)
end Ev
namespace Go.Vw
open Go.Proofs Go.RowKit
attribute [-simp] List.map_set
theorem Nwidth_v (t:Int):VPure Tryz.prog 133 [vint t] (vnat (Ev.widthI t)):=by
 intro S;refine QB (c:=jc Tryz.f133) Tryz.func133 Tryz.ntmps133 fun hwf=>?_
 refine QT ?_;refine QY ?_
 by_cases h:t=127
 ·subst h
  repeat first|refine QG ?_|refine QY ?_
  exact ja hwf rfl rfl
 ·have e:Ev.widthI t=64:=by simp [Ev.widthI,h]
  rw [e]
  repeat first|refine QG ?_|refine QY ?_ (r:=by conv=>lhs;simp[QV,h])
  exact ja hwf rfl rfl
theorem Nbool_v (b:Bool):VPure Tryz.prog 134 [.bool b] (vu (Ev.b1 b)):=by
 intro S;refine QB (c:=jc Tryz.f134) Tryz.func134 Tryz.ntmps134 fun hwf=>?_
 refine QT ?_;refine QY ?_
 cases b with
 | true =>
  repeat first|refine QG ?_|refine QY ?_
  exact ja hwf rfl rfl
 | false =>
  repeat first|refine QG ?_|refine QY ?_
  exact ja hwf rfl rfl
theorem qK:IntKind.u64.bits=64:=rfl
theorem i64_bits:IntKind.i64.bits=64:=rfl
theorem jbX {b:Nat} (h:b<64):(2:Int)^b<18446744073709551616:=by
 have h1:(2:Nat)^b<2^64:=Nat.pow_lt_pow_right (by decide) h;have h2:((2^b:Nat):Int)=(2:Int)^b:=by simp
 omega
theorem Wj (b:Nat):((2^b:Nat):Int)=(2:Int)^b:=by simp
theorem wrap_u64_in (n:Int):Ev.U64 (IntKind.u64.wrap n):=by
 have e:IntKind.u64.wrap n=n % 18446744073709551616:=by simp [IntKind.wrap,IntKind.bits,IntKind.signed]
 rw [e];exact ⟨Int.emod_nonneg _ (by decide),Int.emod_lt_of_pos _ (by decide)⟩
theorem mod_in {n:Int} (h:Ev.U64 n) (b:Nat):Ev.U64 (n % 2^b):=by
 obtain ⟨h0,h1⟩:=h;obtain ⟨m,rfl⟩ : ∃ m:Nat,n=m:=⟨n.toNat,by omega⟩
 have e3:(((m % 2^b:Nat)):Int)=(m:Int) % 2^b:=by rw [Int.natCast_emod,Wj]
 have:=Nat.mod_le m (2^b);rw [←e3];exact ⟨by omega,by omega⟩
theorem low_and {n:Int} (h:Ev.U64 n) {b:Nat} (hb:b<64):IntKind.u64.wrap (((n % 2^IntKind.u64.bits).toNat &&& (((2:Int)^b-1) % 2^IntKind.u64.bits).toNat:Nat):Int)=n % 2^b:=by
 have hp:=jbX hb;have hp0:(0:Int)<2^b:=Int.pow_pos (by decide);have hc:=Wj b;have e64:(2:Int)^IntKind.u64.bits=18446744073709551616:=by rw [qK]; rfl
 rw [e64];obtain ⟨h0,h1⟩:=h;obtain ⟨m,rfl⟩ : ∃ m:Nat,n=m:=⟨n.toNat,by omega⟩
 have e1:((m:Int) % 18446744073709551616).toNat=m:=by omega
 have e2:((2^b-1:Int) % 18446744073709551616).toNat=2^b-1:=by
  rw [←hc];rw [←hc] at hp hp0;omega
 rw [e1,e2,Nat.and_two_pow_sub_one_eq_mod];have e3:(((m % 2^b:Nat)):Int)=(m:Int) % 2^b:=by rw [Int.natCast_emod,hc]
 rw [e3];have:=mod_in (n:=(m:Int)) ⟨h0,h1⟩ b;exact jr this.1 this.2
theorem WF (n:Int) (b:Nat) (hb:b≤64) (h:Ev.U64 n):VPure Tryz.prog 138 [vu n,vnat b] (vu (n % 2^b)):=by
 intro S;refine QB (c:=jc Tryz.f138) Tryz.func138 Tryz.ntmps138 fun hwf=>?_
 refine QT ?_;refine QY ?_
 by_cases hb2:b=64
 ·subst hb2;have e:n % 2^64=n:=Int.emod_eq_of_lt h.1 (by have:=h.2; omega);rw [e]
  repeat first|refine QG ?_|refine QY ?_
  exact ja hwf rfl rfl
 ·have hI : ¬ (b:Int)=64:=by omega
  have hp:=jbX (b:=b) (by omega);have hp0:(0:Int)<2^b:=Int.pow_pos (by decide);have hm:min b IntKind.u64.bits=b:=by rw [qK]; omega
  have w1:IntKind.u64.wrap (2^b)=2^b:=jr (by omega) hp;have w2:IntKind.u64.wrap (2^b-1)=2^b-1:=jr (by omega) (by omega);have w3:=low_and h (b:=b) (by omega)
  repeat first|refine QG ?_|refine QY ?_ (r:=by conv=>lhs;simp[QV,hI,hm,w1,w2,w3])
  exact ja hwf rfl rfl
theorem qO (n:Int) (b:Nat) (hb:b≤64):VPure Tryz.prog 139 [vu n,vnat b] (vint (Ev.sgnI n b)):=by
 intro S;have hI:(b:Int)≤64:=by omega
 have w0:IntKind.i64.wrap (64-(b:Int))=64-(b:Int):=wrap_i64 (by omega) (by omega);have t0:(64-(b:Int)).toNat=64-b:=by omega
 have hm:min (64-b) IntKind.u64.bits=64-b:=by rw [qK]; omega
 have hm2:min (64-b) IntKind.i64.bits=64-b:=by rw [i64_bits]; omega
 refine QB (c:=jc Tryz.f139) Tryz.func139 Tryz.ntmps139 fun hwf=>?_
 refine QT ?_;refine QY ?_
 repeat first|refine QG ?_|refine QY ?_ (r:=by conv=>lhs;simp[QV,w0,t0,hm,hm2,hI])
 exact ja hwf rfl rfl
theorem Nturned_v (a:Int) (k w:Nat) (hk:k≤64) (hw1:1≤w) (hw:w≤64) (h:Ev.U64 a):VPure Tryz.prog 140 [vu a,vnat k,vnat w] (vu (Ev.turnI w k a))∧Ev.U64 (Ev.turnI w k a):=by
 have hI : ∀ j,Ev.U64 (Ev.turnI w j a):=fun j=>by
  cases j with
  | zero=>exact h
  | succ j=>exact mod_in (wrap_u64_in _) w
 refine ⟨fun S => ?_,hI k⟩;have cl:=fun x hx=>WF x w hw hx
 have hwI:(w:Int)≤64:=by omega
 have w0:IntKind.i64.wrap ((w:Int)-1)=(w:Int)-1:=wrap_i64 (by omega) (by omega);have hw0:(1:Int)≤w:=by omega
 have t0:((w:Int)-1).toNat=w-1:=by omega
 have hm:min (w-1) IntKind.u64.bits=w-1:=by rw [qK]; omega
 refine QB (c:=jc Tryz.f140) Tryz.func140 Tryz.ntmps140 fun hwf=>?_
 refine QT ?_;refine QY ?_
 repeat first|refine QG ?_|refine QY ?_
 refine QT ?_;refine jd [0,1,2,7] rfl (fun c σ S' => ∃ (j:Nat),j≤k∧c=k-j∧σ=[(0,vu (Ev.turnI w j a)),(1,vnat k),(2,vnat w),(7,vnat j)]∧S'=St S [] []) k ?_ ?_
 ·exact ⟨0,by omega,rfl,by simp [Fr.only,Fr.look,vu,Ev.turnI],by simp⟩
 ·rintro c σ T ⟨j,hj,rfl,rfl,rfl⟩;have hx:=hI j;have hst:Ev.turnI w (j+1) a=Ev.turnS w (Ev.turnI w j a):=rfl;generalize hx0:Ev.turnI w j a=x at hx hst ⊢
  by_cases hjt:j<k
  ·have hwj:=jh hjt (by omega);have c2:=cl (Ev.orI (IntKind.u64.wrap (x*2)) (x.fdiv (2^(w-1)))) (wrap_u64_in _);have hm1:min 1 IntKind.u64.bits=1:=rfl;have p1:(2:Int)^1=2:=rfl;have c3:VPure Tryz.prog 138 [.int .u64 (IntKind.u64.wrap (((IntKind.u64.wrap (x*2) % 2^IntKind.u64.bits).toNat ||| (x.fdiv (2^(w-1)) % 2^IntKind.u64.bits).toNat:Nat):Int)), .int .i64 (w:Int)] (vu (Ev.turnS w x)):=c2
   repeat first|refine QG ?_|refine QY ?_ (r:=by conv=>lhs;simp[QV,hjt])
   refine QT ?_;refine QP ?_ (r:=by conv=>lhs;simp[QV,w0,hw0,t0,hm,hm1,p1]);refine jb rfl (c3) ?_;refine QW ?_
   repeat first|refine QG ?_|refine QY ?_ (r:=by conv=>lhs;simp[QV,hwj])
   show jy _ _ _ _ _ _ _;exact again ⟨Nat.sub_lt_sub_left hjt (Nat.lt_succ_self j),j+1,hjt,rfl,by simp [Fr.only,Fr.look,vu,hst],rfl⟩
  ·have hje:j=k:=by omega
   subst hje;rw [hx0]
   repeat first|refine QG ?_|refine QY ?_ (r:=by conv=>lhs;simp[QV,hjt])
   exact ja hwf rfl rfl
end Go.Vw
