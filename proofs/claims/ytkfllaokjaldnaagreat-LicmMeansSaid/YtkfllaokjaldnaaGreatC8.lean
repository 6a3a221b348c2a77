import Derived.Test.YtkfllaokjaldnaaGreatC7
/- Part of the proof. -/
set_option linter.unusedVariables false
set_option linter.unusedSimpArgs false
set_option maxRecDepth 10000
set_option maxHeartbeats 4000000
namespace Go.Vw
open Go.Proofs Go.RowKit
attribute [-simp] List.map_set
theorem akj (k:Int):b8 118 [cj k] (.bool (Ss.division k)):=by
 intro S;refine b7 Tryz.func118 Tryz.ntmps118 fun hwf=>?_
 by_cases h:3<=k
 .by_cases h2:k<=6
  .refine bF h h2 ?_
   exact ja hwf (by simp [Ss.division,h,h2]) rfl
  .refine bF h h2 ?_
   exact ja hwf (by simp [Ss.division,h2]) rfl
 .refine bD h ?_
  exact ja hwf (by simp [Ss.division,h]) rfl
theorem au6 (op:Int) (ho:Ss.I64 op):b8 83 [cj op] (.bool (Ss.total op)):=by
 intro S;have cf:=an7 op ho;unfold Ss.total
 cases hf:Ss.find op with
 | none =>
  rw [hf] at cf;have cf':b8 117 [cj op] (.tuple [.agg [.int .i64 0, .int .i64 0, .int .i64 0, .int .i64 0], .int .i64 0, .bool false]):=cf;refine b7 Tryz.func83 Tryz.ntmps83 fun hwf=>?_
  refine bz ?_
  refine QP ?_;refine QL (cf') ?_;refine bV ?_
  exact ja hwf (by simp) rfl
 | some g =>
  rw [hf] at cf;obtain ⟨g1,g2,g3,g4⟩:=g;have cf':b8 117 [cj op] (.tuple [.agg [.int .i64 g1, .int .i64 g2, .int .i64 g3, .int .i64 g4], .int .i64 (op-g1), .bool true]):=cf;have cd:=akj (op-g1);simp only;generalize Ss.division (op-g1)=dv at *
  refine b7 Tryz.func83 Tryz.ntmps83 fun hwf=>?_
  refine bz ?_
  refine QP ?_;refine QL (cf') ?_;refine QW ?_
  by_cases h3:g3=3
  .refine bD h3 ?_
   refine bN h3 ?_;refine QL (cd) ?_;refine bV ?_
   exact ja hwf (by simp [h3]) rfl
  .refine bD h3 ?_
   exact ja hwf (by simp [h3]) rfl
theorem aye (op:Int) (ho:Ss.I64 op):b8 31 [cj op] (.bool (Ss.pure op)):=by
 intro S;have ct:=au6 op ho;unfold Ss.pure;generalize Ss.total op=x at *
 refine b7 Tryz.func31 Tryz.ntmps31 fun hwf=>?_
 by_cases h1:op=256
 .refine bD h1 ?_
  exact ja hwf (by simp [h1]) rfl
 by_cases h2:op=27
 .refine bF h1 h2 ?_
  exact ja hwf (by simp [h2]) rfl
 refine bF h1 h2 ?_
 refine bQ h1 h2 ?_;refine QL (ct) ?_;refine bV ?_
 exact ja hwf (by simp [h1,h2]) rfl
theorem arh (op:Int) (ho:Ss.I64 op):b8 133 [cj op] (.tuple [vl cj (Ss.cB op).1,cj (Ss.cB op).2.1, .bool (Ss.cB op).2.2]):=by
 intro S;have cf:=an7 op ho;unfold Ss.cB
 cases hf:Ss.find op with
 | none =>
  rw [hf] at cf;have cf':b8 117 [cj op] (.tuple [.agg [.int .i64 0, .int .i64 0, .int .i64 0, .int .i64 0], .int .i64 0, .bool false]):=cf;refine b7 Tryz.func133 Tryz.ntmps133 fun hwf=>?_
  refine bz ?_
  refine QP ?_;refine QL (cf') ?_;refine bV ?_
  exact jf (l:=[_]) hwf (Ghost.toB (Ghost.tp [] [_,_] (Ghost.nl _)) _) rfl
 | some g =>
  rw [hf] at cf;obtain ⟨g1,g2,g3,g4⟩:=g;have cf':b8 117 [cj op] (.tuple [.agg [.int .i64 g1, .int .i64 g2, .int .i64 g3, .int .i64 g4], .int .i64 (op-g1), .bool true]):=cf;simp only
  by_cases h1:g3=1
  .subst h1;have hX:Ss.Grp.ins ⟨g1,g2,1,g4⟩=[g4,g4]/\Ss.Grp.out ⟨g1,g2,1,g4⟩=127:=by simp [Ss.Grp.ins,Ss.Grp.out]
   rw [hX.1,hX.2];refine b7 Tryz.func133 Tryz.ntmps133 fun hwf=>?_
   refine bz ?_
   refine QP ?_;refine QL (cf') ?_;refine bV ?_
   refine bZ (St S [] [some (4,[.int .i64 g1, .int .i64 g2, .int .i64 1, .int .i64 g4])]) (St S [] [some (4,[.int .i64 g1, .int .i64 g2, .int .i64 1, .int .i64 g4])]) [] ?_ (r:=by conv=>lhs; simp [QV]);refine QI ?_;refine bV ?_
   exact jf hwf ((Ghost.tp [] [_,_] (frz1 (k:=3) (by simp) (by rfl) (by rfl) (by rfl))).toB _) rfl
  by_cases h3:g3=3
  .subst h3;have hX:Ss.Grp.ins ⟨g1,g2,3,g4⟩=[g4,g4]/\Ss.Grp.out ⟨g1,g2,3,g4⟩=g4:=by simp [Ss.Grp.ins,Ss.Grp.out]
   rw [hX.1,hX.2];refine b7 Tryz.func133 Tryz.ntmps133 fun hwf=>?_
   refine bz ?_
   refine QP ?_;refine QL (cf') ?_;refine bV ?_
   refine bZ (St S [] [some (4,[.int .i64 g1, .int .i64 g2, .int .i64 3, .int .i64 g4])]) (St S [] [some (4,[.int .i64 g1, .int .i64 g2, .int .i64 3, .int .i64 g4])]) [] ?_ (r:=by conv=>lhs; simp [QV]);refine QI ?_;refine bV ?_
   exact jf hwf ((Ghost.tp [] [_,_] (frz1 (k:=3) (by simp) (by rfl) (by rfl) (by rfl))).toB _) rfl
  by_cases h0:g3=0
  .subst h0;have hX:Ss.Grp.ins ⟨g1,g2,0,g4⟩=[g4]/\Ss.Grp.out ⟨g1,g2,0,g4⟩=127:=by simp [Ss.Grp.ins,Ss.Grp.out]
   rw [hX.1,hX.2];refine b7 Tryz.func133 Tryz.ntmps133 fun hwf=>?_
   refine bz ?_
   refine QP ?_;refine QL (cf') ?_;refine bV ?_
   refine bZ (St S [] [some (4,[.int .i64 g1, .int .i64 g2, .int .i64 0, .int .i64 g4])]) (St S [] [some (4,[.int .i64 g1, .int .i64 g2, .int .i64 0, .int .i64 g4])]) [] ?_ (r:=by conv=>lhs; simp [QV]);refine QI ?_;refine bV ?_
   exact jf hwf ((Ghost.tp [] [_,_] (frz1 (k:=1) (by simp) (by rfl) (by rfl) (by rfl))).toB _) rfl
  by_cases h4:g3=4
  .subst h4;have hX:Ss.Grp.ins ⟨g1,g2,4,g4⟩=[g4]/\Ss.Grp.out ⟨g1,g2,4,g4⟩=127:=by simp [Ss.Grp.ins,Ss.Grp.out]
   rw [hX.1,hX.2];refine b7 Tryz.func133 Tryz.ntmps133 fun hwf=>?_
   refine bz ?_
   refine QP ?_;refine QL (cf') ?_;refine bV ?_
   refine bZ (St S [] [some (4,[.int .i64 g1, .int .i64 g2, .int .i64 4, .int .i64 g4])]) (St S [] [some (4,[.int .i64 g1, .int .i64 g2, .int .i64 4, .int .i64 g4])]) [] ?_ (r:=by conv=>lhs; simp [QV]);refine QI ?_;refine bV ?_
   exact jf hwf ((Ghost.tp [] [_,_] (frz1 (k:=1) (by simp) (by rfl) (by rfl) (by rfl))).toB _) rfl
  by_cases h5:g3=5
  .subst h5;have hX:Ss.Grp.ins ⟨g1,g2,5,g4⟩=[g4]/\Ss.Grp.out ⟨g1,g2,5,g4⟩=126:=by simp [Ss.Grp.ins,Ss.Grp.out]
   rw [hX.1,hX.2];refine b7 Tryz.func133 Tryz.ntmps133 fun hwf=>?_
   refine bz ?_
   refine QP ?_;refine QL (cf') ?_;refine bV ?_
   refine bZ (St S [] [some (4,[.int .i64 g1, .int .i64 g2, .int .i64 5, .int .i64 g4])]) (St S [] [some (4,[.int .i64 g1, .int .i64 g2, .int .i64 5, .int .i64 g4])]) [] ?_ (r:=by conv=>lhs; simp [QV]);refine QI ?_;refine bV ?_
   exact jf hwf ((Ghost.tp [] [_,_] (frz1 (k:=1) (by simp) (by rfl) (by rfl) (by rfl))).toB _) rfl
  have hX:Ss.Grp.ins ⟨g1,g2,g3,g4⟩=[g4]/\Ss.Grp.out ⟨g1,g2,g3,g4⟩=g4:=by simp [Ss.Grp.ins,Ss.Grp.out,h1,h3,h0,h4,h5]
  rw [hX.1,hX.2];refine b7 Tryz.func133 Tryz.ntmps133 fun hwf=>?_
  refine bz ?_
  refine QP ?_;refine QL (cf') ?_;refine QW ?_
  refine bO h1 h3 h0 h4 h5 ?_
  refine bZ (St S [] [some (4,[.int .i64 g1, .int .i64 g2, .int .i64 g3, .int .i64 g4])]) (St S [] [some (4,[.int .i64 g1, .int .i64 g2, .int .i64 g3, .int .i64 g4])]) [] ?_ (r:=by conv=>lhs; simp [QV,h1,h3,h0,h4,h5]);refine QI ?_;refine QW ?_
  refine bO h1 h3 h0 h4 h5 ?_
  exact jf hwf ((Ghost.tp [] [_,_] (frz1 (k:=1) (by simp) (by rfl) (by rfl) (by rfl))).toB _) rfl
end Go.Vw
namespace Ss
structure Acc where
 kind:Int
 width:Int
 store:Bool
 signed:Bool
deriving DecidableEq,Inhabited
def accL:List (Int × Acc):=[(40,⟨127,4,false,false⟩),(41,⟨126,8,false,false⟩),(44,⟨127,1,false,true⟩),(45,⟨127,1,false,false⟩),(46,⟨127,2,false,true⟩),(47,⟨127,2,false,false⟩),(48,⟨126,1,false,true⟩),(49,⟨126,1,false,false⟩),(50,⟨126,2,false,true⟩),(51,⟨126,2,false,false⟩),(52,⟨126,4,false,true⟩),(53,⟨126,4,false,false⟩),(54,⟨127,4,true,false⟩),(55,⟨126,8,true,false⟩),(58,⟨127,1,true,false⟩),(59,⟨127,2,true,false⟩),(60,⟨126,1,true,false⟩),(61,⟨126,2,true,false⟩),(62,⟨126,4,true,false⟩)]
def findK {α:Type} (n:Int):List (Int × α)->Option α
 | []=>none
 | (k,v)::r=>if n=k then some v else findK n r
def accOf (op:Int):Option Acc:=findK op accL
end Ss
namespace Go.Vw
open Go.Proofs Go.RowKit
attribute [-simp] List.map_set
def jcd (a:Ss.Acc):V := .agg [cj a.kind,cj a.width, .bool a.store, .bool a.signed]
theorem ao6 (a:Ss.Acc):jcd a = .agg [cj a.kind,cj a.width, .bool a.store, .bool a.signed]:=nr rfl
attribute [simp] ao6
def mapI {α:Type} (enc:α->V) (L:List (Int × α)):List V:=L.map fun p => .tuple [.int .i64 p.1,enc p.2]
theorem jbZ {α:Type} (enc:α->V) (n:Int) : ∀ (L:List (Int × α)) (i:Nat),(Ss.findK n L=none/\zo (.int .i64 n) (mapI enc L) i=some none) \/ ∃ j v,Ss.findK n L=some v/\zo (.int .i64 n) (mapI enc L) i=some (some (i+j,enc v))
 | [],i => .inl ⟨rfl,rfl⟩
 | (k,v)::L,i=>by
  by_cases e:n=k
  .subst e;exact .inr ⟨0,v,by simp [Ss.findK],by simp [mapI,zo,zA]⟩
  .have e':(n==k)=false:=by simp [e]
   have h0:zo (.int .i64 n) (mapI enc ((k,v)::L)) i=zo (.int .i64 n) (mapI enc L) (i+1):=by
    show (match zA (.int .i64 n) (.int .i64 k) with | some true=>_ | some false=>_ | none=>_)=_;simp only [zA,if_true,e']
    rfl
   have h1:Ss.findK n ((k,v)::L)=Ss.findK n L:=by simp [Ss.findK,e]
   rcases jbZ enc n L (i+1) with ⟨h2,h3⟩ | ⟨j,w,h2,h3⟩
   .exact .inl ⟨h1.trans h2,h0.trans h3⟩
   .exact .inr ⟨j+1,w,h1.trans h2,by rw [h0,h3]; simp; omega⟩
theorem jcT {α:Type} {enc:α->V} {z:V} {S:Store} {o:Nat} {n:Int} {L:List (Int × α)} (h:S.get o=some (0,mapI enc L)):qX z true S (.map o) (.int .i64 n)=some (match Ss.findK n L with | some v => .tuple [enc v, .bool true] | none => .tuple [z, .bool false]):=by
 simp only [qX,h];rcases jbZ enc n L 0 with ⟨h2,h3⟩ | ⟨j,w,h2,h3⟩
 .simp [h2,h3]
 .simp [h2,h3]
def updC (S:Store) (o:Nat) (n:Int) (v:V) (cells:List V):Option (Option (Nat × V))->Option Store
 | some none=>some (S.upd o (0,cells++[.tuple [.int .i64 n,v]]))
 | some (some (j,_))=>some (S.upd o (0,cells.set j (.tuple [.int .i64 n,v])))
 | none=>none
theorem YG {S:Store} {o:Nat} {n:Int} {v:V} {cells:List V} (h:S.get o=some (0,cells)):qq S (.map o) (.int .i64 n) v=updC S o n v cells (zo (.int .i64 n) cells 0):=by
 simp only [qq,h]
 cases zo (.int .i64 n) cells 0 with
 | none=>rfl
 | some r=>cases r with
  | none=>rfl
  | some p=>rfl
theorem as8 (S:Store) (o:Nat) (n:Int) (v:V) (cells:List V):updC S o n v cells (some none)=some (S.upd o (0,cells++[.tuple [.int .i64 n,v]])):=nr rfl
theorem ams (k:V) (i:Nat):zo k [] i=some none:=nr rfl
theorem ae6 (n m:Int) (v:V) (r:List V) (i:Nat):zo (.int .i64 n) (.tuple [.int .i64 m,v]::r) i=if n=m then some (some (i,v)) else zo (.int .i64 n) r (i+1):=by
 by_cases e:n=m
 .subst e; simp [zo,zA]
 .have e':(n==m)=false:=by simp [e]
  rw [if_neg e];show (match zA (.int .i64 n) (.int .i64 m) with | some true=>_ | some false=>_ | none=>_)=_;simp only [zA,if_true,e']
theorem aqf:mapI jcd Ss.accL=[.tuple [.int .i64 40, .agg [.int .i64 127, .int .i64 4, .bool false, .bool false]], .tuple [.int .i64 41, .agg [.int .i64 126, .int .i64 8, .bool false, .bool false]], .tuple [.int .i64 44, .agg [.int .i64 127, .int .i64 1, .bool false, .bool true]], .tuple [.int .i64 45, .agg [.int .i64 127, .int .i64 1, .bool false, .bool false]], .tuple [.int .i64 46, .agg [.int .i64 127, .int .i64 2, .bool false, .bool true]], .tuple [.int .i64 47, .agg [.int .i64 127, .int .i64 2, .bool false, .bool false]], .tuple [.int .i64 48, .agg [.int .i64 126, .int .i64 1, .bool false, .bool true]], .tuple [.int .i64 49, .agg [.int .i64 126, .int .i64 1, .bool false, .bool false]], .tuple [.int .i64 50, .agg [.int .i64 126, .int .i64 2, .bool false, .bool true]], .tuple [.int .i64 51, .agg [.int .i64 126, .int .i64 2, .bool false, .bool false]], .tuple [.int .i64 52, .agg [.int .i64 126, .int .i64 4, .bool false, .bool true]], .tuple [.int .i64 53, .agg [.int .i64 126, .int .i64 4, .bool false, .bool false]], .tuple [.int .i64 54, .agg [.int .i64 127, .int .i64 4, .bool true, .bool false]], .tuple [.int .i64 55, .agg [.int .i64 126, .int .i64 8, .bool true, .bool false]], .tuple [.int .i64 58, .agg [.int .i64 127, .int .i64 1, .bool true, .bool false]], .tuple [.int .i64 59, .agg [.int .i64 127, .int .i64 2, .bool true, .bool false]], .tuple [.int .i64 60, .agg [.int .i64 126, .int .i64 1, .bool true, .bool false]], .tuple [.int .i64 61, .agg [.int .i64 126, .int .i64 2, .bool true, .bool false]], .tuple [.int .i64 62, .agg [.int .i64 126, .int .i64 4, .bool true, .bool false]]]:=rfl
theorem ali (S:Store):b9 146 [] S fun r T=>r = .map (lid S.nx 0)/\T=St S [] [some (0,mapI jcd Ss.accL)]:=by
 rw [aqf];refine b7 Tryz.func146 Tryz.ntmps146 fun hwf=>?_
 have hmu:=fun (S:Store) (o:Nat) (n:Int) (v:V) (cells:List V) (h:S.get o=some (0,cells))=>YG (n:=n) (v:=v) h
 repeat first|refine QG ?_|refine QY ?_ (r:=by conv=>lhs;simp[QV,hmu,as8,ams,ae6])
 exact zM ⟨by simp,rfl⟩
theorem aqr (op:Int):b8 134 [cj op] (.tuple [cj ((Ss.accOf op).getD ⟨0,0,false,false⟩).kind,cj ((Ss.accOf op).getD ⟨0,0,false,false⟩).width, .bool ((Ss.accOf op).getD ⟨0,0,false,false⟩).store, .bool (Ss.accOf op).isSome]):=by
 intro S;have ca:=ali;have hlk : ∀ (S:Store) (o:Nat),S.get o=some (0,mapI jcd Ss.accL)->qX (.agg [.int .i64 0, .int .i64 0, .bool false, .bool false]) true S (.map o) (.int .i64 op)=some (match Ss.accOf op with | some v => .tuple [jcd v, .bool true] | none => .tuple [.agg [.int .i64 0, .int .i64 0, .bool false, .bool false], .bool false]):=fun S o h=>by
  have h1:=jcT (z := .agg [.int .i64 0, .int .i64 0, .bool false, .bool false]) (n:=op) h;unfold Ss.accOf
  cases hh:Ss.findK op Ss.accL<;>rw [hh] at h1<;>exact h1
 generalize mapI jcd Ss.accL=cells at *
 cases hf:Ss.accOf op with
 | none =>
  rw [hf] at hlk;simp only at hlk;refine b7 Tryz.func134 Tryz.ntmps134 fun hwf=>?_
  refine bz ?_
  refine QP ?_;refine jK (xs:=[]) rfl (ca _) ?_;rintro X S' ⟨rfl,rfl⟩;rw [qv hwf];refine bJ hlk ?_;refine bW ?_
  exact ja hwf (by simp) rfl
 | some a =>
  obtain ⟨a1,a2,a3,a4⟩:=a;rw [hf] at hlk;have hlk' : ∀ (S:Store) (o:Nat),S.get o=some (0,cells)->qX (.agg [.int .i64 0, .int .i64 0, .bool false, .bool false]) true S (.map o) (.int .i64 op)=some (.tuple [.agg [.int .i64 a1, .int .i64 a2, .bool a3, .bool a4], .bool true]):=hlk
  refine b7 Tryz.func134 Tryz.ntmps134 fun hwf=>?_
  refine bz ?_
  refine QP ?_;refine jK (xs:=[]) rfl (ca _) ?_;rintro X S' ⟨rfl,rfl⟩;rw [qv hwf];refine bJ hlk' ?_;refine bW ?_
  exact ja hwf (by simp) rfl
end Go.Vw
namespace Ss
structure FormR where
 inn:List Int
 outs:List Int
 most:Int
 ok:Bool
deriving DecidableEq,Inhabited
def formMem (op:Int):FormR :=
 if op=257 then ⟨[127],[],8589934592,true⟩
 else if op=63 then ⟨[],[127],0,true⟩
 else if op=64 then ⟨[127],[127],0,true⟩
 else match accOf op with
  | some a=>if a.store then ⟨[127,a.kind],[],4294967295,true⟩ else ⟨[127],[a.kind],4294967295,true⟩
  | none=>⟨[],[],0,false⟩
def formNum (e:Env) (op:Int):FormR :=
 match cB op with
 | (l,t,true)=>⟨l,[t],0,true⟩
 | _=>if e.mem then formMem op else ⟨[],[],0,false⟩
def formGlob (e:Env) (op n:Int):FormR :=
 if n<e.globals.length then (if op=35 then ⟨[],[e.globals.getD n.toNat 0],n,true⟩ else ⟨[e.globals.getD n.toNat 0],[],n,e.muts.getD n.toNat false⟩) else ⟨[],[],0,false⟩
def form (e:Env) (op n out:Int):FormR :=
 if op=256 then (if out=127 then ⟨[],[127],4294967295,true⟩ else ⟨[],[126],18446744073709551615,true⟩)
 else if op=258 then ⟨[],[],0,true⟩
 else if op=27 then ⟨[out,out,127],[out],0,true⟩
 else if op=16 then (if n<e.sigs.length then ⟨(e.sigs.getD n.toNat default).inn,(e.sigs.getD n.toNat default).out,n,true⟩ else ⟨[],[],0,false⟩)
 else if op=35\/op=36 then formGlob e op n
 else formNum e op
end Ss
namespace Go.Vw
open Go.Proofs Go.RowKit
attribute [-simp] List.map_set
theorem aal {n:Int} (h1:0<=n) (h2:n<18446744073709551616):IntKind.u64.wrap n=n:=by
 have e:IntKind.u64.wrap n=n % 18446744073709551616:=by simp [IntKind.wrap,IntKind.bits,IntKind.signed]
 rw [e]; omega
def jbA (r:Ss.FormR):V := .tuple [vl cj r.inn,vl cj r.outs,vu r.most, .bool r.ok]
theorem bU {n:Int} (h1:0<=n:=by omega) (h2:n<18446744073709551616:=by omega):IntKind.u64.wrap n=n:=aal h1 h2
theorem aiz {α:Type} {enc:α->V} {l:List α} {k:IntKind} {m s:Nat} {S:Store} (hs : ∀ a,(enc a).ncells=s) (h:m<l.length):qp s S (vl enc l) (some (.int k (m:Int))) (some (.int k ((m:Int)+1))) none=some (vl enc [l[m]]):=by
 have e1:((m:Int)+1).toNat=m+1:=by omega
 have e2:((l.map enc).take (m+1)).drop m=[enc l[m]]:=by
  rw [List.drop_take];simp [am,h]
 simp only [qp,vl,qG,aI];rw [if_pos (by omega),if_pos (by omega),e1];simp only [bq];rw [if_pos ⟨by omega,by omega,by omega,by simp, .inr (by simp [hs])⟩];simp [e2]
theorem asl (e:Ss.Env) (op n out:Int) (hsl:e.sigs.length<=140737488355328) (hgl:e.globals.length<=140737488355328) (hml:e.muts.length=e.globals.length) (h1:op=256) (h2:out=127) :
  b8 108 [qQ e,cj op,vu n,cj out] (jbA ⟨[],[127],4294967295,true⟩):=by
 intro S;obtain ⟨sg,im,gl,mu,me⟩:=e;simp only at hsl hgl hml;refine b7 Tryz.func108 Tryz.ntmps108 fun hwf=>?_
 refine QY ?_;refine QY ?_;refine jy 12 rfl ((frz1 (k:=1) (len:=1) (by simp) (by rfl) (by rfl) (by rfl))) (by conv=>lhs; simp [Fr.set]) ?_;simp only [aq,au]
 refine bF h1 h2 ?_
 exact jf hwf (((Ghost.tp [] [_,_,_] (Ghost.nl _))).toB _) rfl
theorem asv (e:Ss.Env) (op n out:Int) (hsl:e.sigs.length<=140737488355328) (hgl:e.globals.length<=140737488355328) (hml:e.muts.length=e.globals.length) (h1:op=256) (h2 : ¬ out=127) :
  b8 108 [qQ e,cj op,vu n,cj out] (jbA ⟨[],[126],18446744073709551615,true⟩):=by
 intro S;obtain ⟨sg,im,gl,mu,me⟩:=e;simp only at hsl hgl hml;refine b7 Tryz.func108 Tryz.ntmps108 fun hwf=>?_
 refine QY ?_;refine QY ?_;refine jy 12 rfl ((frz1 (k:=1) (len:=1) (by simp) (by rfl) (by rfl) (by rfl))) (by conv=>lhs; simp [Fr.set]) ?_;simp only [aq,au]
 refine bF h1 h2 ?_
 exact jf hwf ((((Ghost.tp [] [_,_,_] (Ghost.nl _)).trans (Ghost.tp [_] [_,_] (frz1 (k:=2) (by simp) (by rfl) (by rfl) (by rfl))))).toB _) rfl
theorem aph (e:Ss.Env) (op n out:Int) (hsl:e.sigs.length<=140737488355328) (hgl:e.globals.length<=140737488355328) (hml:e.muts.length=e.globals.length) (h1:op=258) :
  b8 108 [qQ e,cj op,vu n,cj out] (jbA ⟨[],[],0,true⟩):=by
 intro S;obtain ⟨sg,im,gl,mu,me⟩:=e;simp only at hsl hgl hml;refine b7 Tryz.func108 Tryz.ntmps108 fun hwf=>?_
 refine QY ?_;refine QY ?_;refine jy 12 rfl ((frz1 (k:=1) (len:=1) (by simp) (by rfl) (by rfl) (by rfl))) (by conv=>lhs; simp [Fr.set]) ?_;simp only [aq,au]
 refine bD h1 ?_
 exact jf hwf ((((Ghost.tp [] [_,_,_] (Ghost.nl _)).trans (Ghost.tp [_] [_,_] (Ghost.nl _)))).toB _) rfl
theorem ary (e:Ss.Env) (op n out:Int) (hsl:e.sigs.length<=140737488355328) (hgl:e.globals.length<=140737488355328) (hml:e.muts.length=e.globals.length) (h1:op=27) :
  b8 108 [qQ e,cj op,vu n,cj out] (jbA ⟨[out,out,127],[out],0,true⟩):=by
 intro S;obtain ⟨sg,im,gl,mu,me⟩:=e;simp only at hsl hgl hml;refine b7 Tryz.func108 Tryz.ntmps108 fun hwf=>?_
 refine QY ?_;refine QY ?_;refine jy 12 rfl ((frz1 (k:=1) (len:=1) (by simp) (by rfl) (by rfl) (by rfl))) (by conv=>lhs; simp [Fr.set]) ?_;simp only [aq,au]
 refine bD h1 ?_
 exact jf hwf ((((Ghost.tp [] [_,_,_] (frz1 (k:=2) (by simp) (by rfl) (by rfl) (by rfl))).trans (Ghost.tp [_] [_,_] (frz1 (k:=3) (by simp) (by rfl) (by rfl) (by rfl))))).toB _) rfl
theorem an3 (e:Ss.Env) (op n out:Int) (hsl:e.sigs.length<=140737488355328) (hgl:e.globals.length<=140737488355328) (hml:e.muts.length=e.globals.length) (h0:0<=n) (h1:op=16) :
  b8 108 [qQ e,cj op,vu n,cj out] (jbA (if n<e.sigs.length then ⟨(e.sigs.getD n.toNat default).inn,(e.sigs.getD n.toNat default).out,n,true⟩ else ⟨[],[],0,false⟩)):=by
 intro S;obtain ⟨sg,im,gl,mu,me⟩:=e;simp only at hsl hgl hml;obtain ⟨m,rfl⟩ : ∃ m:Nat,n=m:=⟨n.toNat,by omega⟩
 have hc:IntKind.u64.wrap (sg.length:Int)=(sg.length:Int):=bU;simp only
 by_cases h2:m<sg.length
 .have h2':(m:Int)<(sg.length:Int):=by omega
  have h2n : ¬ (sg.length:Int)<=(m:Int):=by omega
  rw [if_pos h2'];obtain ⟨⟨a,b⟩,hab⟩ : ∃ x,sg[m]=x:=⟨_,rfl⟩
  have hgd:sg.getD (m:Int).toNat default=⟨a,b⟩:=by simp [h2,hab]
  rw [hgd];refine b7 Tryz.func108 Tryz.ntmps108 fun hwf=>?_
  refine QY ?_;refine QY ?_;refine jy 12 rfl ((frz1 (k:=1) (len:=1) (by simp) (by rfl) (by rfl) (by rfl))) (by conv=>lhs; simp [Fr.set]) ?_;simp only [aq,au]
  refine bO h1 hc h2 h2n hab ?_
  exact ja hwf (by simp [jbA,vl]) rfl
 .have h2' : ¬ (m:Int)<(sg.length:Int):=by omega
  have h2n:(sg.length:Int)<=(m:Int):=by omega
  rw [if_neg h2'];refine b7 Tryz.func108 Tryz.ntmps108 fun hwf=>?_
  refine QY ?_;refine QY ?_;refine jy 12 rfl ((frz1 (k:=1) (len:=1) (by simp) (by rfl) (by rfl) (by rfl))) (by conv=>lhs; simp [Fr.set]) ?_;simp only [aq,au]
  refine bH h1 hc h2 h2n ?_
  exact jf hwf ((((Ghost.tp [] [_,_,_] (Ghost.nl _)).trans (Ghost.tp [_] [_,_] (Ghost.nl _)))).toB _) rfl
theorem an6 (e:Ss.Env) (op n out:Int) (hsl:e.sigs.length<=140737488355328) (hgl:e.globals.length<=140737488355328) (hml:e.muts.length=e.globals.length) (h0:0<=n) (h1:op=35\/op=36) :
  b8 108 [qQ e,cj op,vu n,cj out] (jbA (Ss.formGlob e op n)):=by
 intro S;obtain ⟨sg,im,gl,mu,me⟩:=e;simp only at hsl hgl hml;obtain ⟨m,rfl⟩ : ∃ m:Nat,n=m:=⟨n.toNat,by omega⟩
 have hc:IntKind.u64.wrap (gl.length:Int)=(gl.length:Int):=bU;simp only [Ss.formGlob]
 by_cases h2:m<gl.length
 case neg =>
  have h2' : ¬ (m:Int)<(gl.length:Int):=by omega
  have h2n:(gl.length:Int)<=(m:Int):=by omega
  rw [if_neg h2'];rcases h1 with h1 | h1
  .skip
   refine b7 Tryz.func108 Tryz.ntmps108 fun hwf=>?_
   refine QY ?_;refine QY ?_;refine jy 12 rfl ((frz1 (k:=1) (len:=1) (by simp) (by rfl) (by rfl) (by rfl))) (by conv=>lhs; simp [Fr.set]) ?_;simp only [aq,au]
   refine bH h1 hc h2 h2n ?_
   exact jf hwf ((((Ghost.tp [] [_,_,_] (Ghost.nl _)).trans (Ghost.tp [_] [_,_] (Ghost.nl _)))).toB _) rfl
  .skip
   refine b7 Tryz.func108 Tryz.ntmps108 fun hwf=>?_
   refine QY ?_;refine QY ?_;refine jy 12 rfl ((frz1 (k:=1) (len:=1) (by simp) (by rfl) (by rfl) (by rfl))) (by conv=>lhs; simp [Fr.set]) ?_;simp only [aq,au]
   refine bH h1 hc h2 h2n ?_
   exact jf hwf ((((Ghost.tp [] [_,_,_] (Ghost.nl _)).trans (Ghost.tp [_] [_,_] (Ghost.nl _)))).toB _) rfl
 have h2':(m:Int)<(gl.length:Int):=by omega
 have h2n : ¬ (gl.length:Int)<=(m:Int):=by omega
 have hw:IntKind.u64.wrap ((m:Int)+1)=(m:Int)+1:=bU;have hsl1 : ∀ S:Store,qp 1 S (vl cj gl) (some (.int .u64 (m:Int))) (some (.int .u64 ((m:Int)+1))) none=some (vl cj [gl[m]]):=fun S=>aiz ac1 h2
 have hgd:gl.getD (m:Int).toNat 0=gl[m]:=by simp [h2]
 have hm:m<mu.length:=by omega
 obtain ⟨b,hb⟩ : ∃ b,mu[m]=b:=⟨_,rfl⟩
 have hmd:mu.getD (m:Int).toNat false=b:=by simp [hm,hb]
 rw [if_pos h2',hgd,hmd];rcases h1 with h1 | h1
 .subst h1;rw [if_pos rfl];refine b7 Tryz.func108 Tryz.ntmps108 fun hwf=>?_
  refine QY ?_;refine QY ?_;refine jy 12 rfl ((frz1 (k:=1) (len:=1) (by simp) (by rfl) (by rfl) (by rfl))) (by conv=>lhs; simp [Fr.set]) ?_;simp only [aq,au]
  refine bO hc h2 h2n hw hsl1 ?_
  exact jf hwf (((Ghost.tp [] [_,_,_] (Ghost.nl _))).toB _) rfl
 .subst h1;rw [if_neg (by decide)];refine b7 Tryz.func108 Tryz.ntmps108 fun hwf=>?_
  refine QY ?_;refine QY ?_;refine jy 12 rfl ((frz1 (k:=1) (len:=1) (by simp) (by rfl) (by rfl) (by rfl))) (by conv=>lhs; simp [Fr.set]) ?_;simp only [aq,au]
  refine bO hc h2 h2n hw hsl1 ?_
  refine bY (r:=by conv=>lhs;simp[QV,hm,hb]) (k:=?_);refine bW ?_
  exact jf hwf (((Ghost.tp [_] [_,_] (Ghost.nl _))).toB _) rfl
theorem arj (e:Ss.Env) (op n out:Int) (hsl:e.sigs.length<=140737488355328) (hgl:e.globals.length<=140737488355328) (hml:e.muts.length=e.globals.length) (ho:Ss.I64 op) (h1 : ¬ op=256) (h2 : ¬ op=258) (h3 : ¬ op=27) (h4 : ¬ op=16) (h5 : ¬ op=35) (h6 : ¬ op=36) :
  b8 108 [qQ e,cj op,vu n,cj out] (jbA (Ss.formNum e op)):=by
 intro S;obtain ⟨sg,im,gl,mu,me⟩:=e;simp only at hsl hgl hml;have hns:=arh op ho;simp only [Ss.formNum];generalize hsg:Ss.cB op=sgv at *
 obtain ⟨l,t,b⟩:=sgv;simp only at hns
 by_cases hnt:b=true
 .subst hnt;simp only;refine b7 Tryz.func108 Tryz.ntmps108 fun hwf=>?_
  refine QY ?_;refine QY ?_;refine jy 12 rfl ((frz1 (k:=1) (len:=1) (by simp) (by rfl) (by rfl) (by rfl))) (by conv=>lhs; simp [Fr.set]) ?_;simp only [aq,au]
  refine bB h1 h2 h3 h4 h5 h6 ?_
  refine QP ?_;refine QL (hns) ?_;refine bV ?_
  exact jf hwf (((Ghost.tp [_] [_,_] (frz1 (k:=2) (by simp) (by rfl) (by rfl) (by rfl)))).toB _) rfl
 have hnt':b=false:=by simpa using hnt
 rw [hnt'];simp only
 by_cases hme:me=true
 case neg =>
  have hme':me=false:=by simpa using hme
  rw [if_neg hme];refine b7 Tryz.func108 Tryz.ntmps108 fun hwf=>?_
  refine QY ?_;refine QY ?_;refine jy 12 rfl ((frz1 (k:=1) (len:=1) (by simp) (by rfl) (by rfl) (by rfl))) (by conv=>lhs; simp [Fr.set]) ?_;simp only [aq,au]
  refine bB h1 h2 h3 h4 h5 h6 ?_
  refine QP ?_;refine QL (hns) ?_;refine bJ hnt' ?_;refine QN ?_
  refine bD hme' ?_
  exact jf hwf ((((Ghost.tp [] [_,_,_] (Ghost.nl _)).trans (Ghost.tp [_] [_,_] (Ghost.nl _)))).toB _) rfl
 rw [if_pos hme];unfold Ss.formMem
 by_cases k1:op=257
 .rw [if_pos k1];refine b7 Tryz.func108 Tryz.ntmps108 fun hwf=>?_
  refine QY ?_;refine QY ?_;refine jy 12 rfl ((frz1 (k:=1) (len:=1) (by simp) (by rfl) (by rfl) (by rfl))) (by conv=>lhs; simp [Fr.set]) ?_;simp only [aq,au]
  refine bB h1 h2 h3 h4 h5 h6 ?_
  refine QP ?_;refine QL (hns) ?_;refine bJ hnt' ?_;refine QN ?_
  refine bF hme k1 ?_
  exact jf hwf (((Ghost.tp [_] [_,_] (Ghost.nl _))).toB _) rfl
 rw [if_neg k1]
 by_cases k2:op=63
 .rw [if_pos k2];refine b7 Tryz.func108 Tryz.ntmps108 fun hwf=>?_
  refine QY ?_;refine QY ?_;refine jy 12 rfl ((frz1 (k:=1) (len:=1) (by simp) (by rfl) (by rfl) (by rfl))) (by conv=>lhs; simp [Fr.set]) ?_;simp only [aq,au]
  refine bB h1 h2 h3 h4 h5 h6 ?_
  refine QP ?_;refine QL (hns) ?_;refine bJ hnt' ?_;refine QN ?_
  refine bG hme k1 k2 ?_
  exact jf hwf (((Ghost.tp [] [_,_,_] (Ghost.nl _))).toB _) rfl
 rw [if_neg k2]
 by_cases k3:op=64
 .rw [if_pos k3];refine b7 Tryz.func108 Tryz.ntmps108 fun hwf=>?_
  refine QY ?_;refine QY ?_;refine jy 12 rfl ((frz1 (k:=1) (len:=1) (by simp) (by rfl) (by rfl) (by rfl))) (by conv=>lhs; simp [Fr.set]) ?_;simp only [aq,au]
  refine bB h1 h2 h3 h4 h5 h6 ?_
  refine QP ?_;refine QL (hns) ?_;refine bJ hnt' ?_;refine QN ?_
  refine bH hme k1 k2 k3 ?_
  exact ja hwf (by simp [jbA,vl]) rfl
 rw [if_neg k3];have hac:=aqr op
 cases hf:Ss.accOf op with
 | none =>
  rw [hf] at hac;have hac':b8 134 [cj op] (.tuple [.int .i64 0, .int .i64 0, .bool false, .bool false]):=hac;simp only;refine b7 Tryz.func108 Tryz.ntmps108 fun hwf=>?_
  refine QY ?_;refine QY ?_;refine jy 12 rfl ((frz1 (k:=1) (len:=1) (by simp) (by rfl) (by rfl) (by rfl))) (by conv=>lhs; simp [Fr.set]) ?_;simp only [aq,au]
  refine bB h1 h2 h3 h4 h5 h6 ?_
  refine QP ?_;refine QL (hns) ?_;refine bJ hnt' ?_;refine QN ?_
  refine bH hme k1 k2 k3 ?_
  refine QP ?_;refine QL (hac') ?_;refine bV ?_
  exact jf hwf ((((Ghost.tp [] [_,_,_] (Ghost.nl _)).trans (Ghost.tp [_] [_,_] (Ghost.nl _)))).toB _) rfl
 | some a =>
  rw [hf] at hac;obtain ⟨a1,a2,a3,a4⟩:=a;have hac':b8 134 [cj op] (.tuple [.int .i64 a1, .int .i64 a2, .bool a3, .bool true]):=hac;simp only
  by_cases h9:a3=true
  .rw [if_pos h9];refine b7 Tryz.func108 Tryz.ntmps108 fun hwf=>?_
   refine QY ?_;refine QY ?_;refine jy 12 rfl ((frz1 (k:=1) (len:=1) (by simp) (by rfl) (by rfl) (by rfl))) (by conv=>lhs; simp [Fr.set]) ?_;simp only [aq,au]
   refine bB h1 h2 h3 h4 h5 h6 ?_
   refine QP ?_;refine QL (hns) ?_;refine bJ hnt' ?_;refine QN ?_
   refine bH hme k1 k2 k3 ?_
   refine QP ?_;refine QL (hac') ?_;refine bJ h9 ?_;refine QN ?_
   refine bD h9 ?_
   exact jf hwf ((((Ghost.tp [] [_,_,_] (frz1 (k:=2) (by simp) (by rfl) (by rfl) (by rfl))).trans (Ghost.tp [_] [_,_] (Ghost.nl _)))).toB _) rfl
  .rw [if_neg h9];have h9':a3=false:=by simpa using h9
   refine b7 Tryz.func108 Tryz.ntmps108 fun hwf=>?_
   refine QY ?_;refine QY ?_;refine jy 12 rfl ((frz1 (k:=1) (len:=1) (by simp) (by rfl) (by rfl) (by rfl))) (by conv=>lhs; simp [Fr.set]) ?_;simp only [aq,au]
   refine bB h1 h2 h3 h4 h5 h6 ?_
   refine QP ?_;refine QL (hns) ?_;refine bJ hnt' ?_;refine QN ?_
   refine bH hme k1 k2 k3 ?_
   refine QP ?_;refine QL (hac') ?_;refine bJ h9' ?_;refine QN ?_
   refine bD h9' ?_
   exact jf hwf (((Ghost.tp [_] [_,_] (frz1 (k:=2) (by simp) (by rfl) (by rfl) (by rfl)))).toB _) rfl
theorem ayw (e:Ss.Env) (op n out:Int) (hsl:e.sigs.length<=140737488355328) (hgl:e.globals.length<=140737488355328) (hml:e.muts.length=e.globals.length) (ho:Ss.I64 op) (h0:0<=n) :
  b8 108 [qQ e,cj op,vu n,cj out] (jbA (Ss.form e op n out)):=by
 unfold Ss.form;split
 .rename_i h1;split
  .rename_i h2; exact asl e op n out hsl hgl hml h1 h2
  .rename_i h2; exact asv e op n out hsl hgl hml h1 h2
 .rename_i h1;split
  .rename_i h2; exact aph e op n out hsl hgl hml h2
  .rename_i h2;split
   .rename_i h3; exact ary e op n out hsl hgl hml h3
   .rename_i h3;split
    .rename_i h4; exact an3 e op n out hsl hgl hml h0 h4
    .rename_i h4;split
     .rename_i h5; exact an6 e op n out hsl hgl hml h0 h5
     .rename_i h5; exact arj e op n out hsl hgl hml ho h1 h2 h3 h4 (fun h=>h5 (.inl h)) (fun h=>h5 (.inr h))
end Go.Vw
namespace Ev
/-! ### Numbers -/
def cA (t:Int):Nat:=if t=127 then 32 else 64
def b1 (b:Bool):Int:=if b then 1 else 0
def U64 (n:Int):Prop:=0<=n/\n<18446744073709551616
def sgnI (n:Int) (b:Nat):Int:=(Go.IntKind.i64.wrap (Go.IntKind.u64.wrap (n*2^(64-b)))).fdiv (2^(64-b))
def orI (x y:Int):Int:=Go.IntKind.u64.wrap (((x % 2^Go.IntKind.u64.bits).toNat ||| (y % 2^Go.IntKind.u64.bits).toNat:Nat):Int)
def turnS (w:Nat) (a:Int):Int:=(orI (Go.IntKind.u64.wrap (a*2)) (a.fdiv (2^(w-1)))) % 2^w
def turnI (w:Nat):Nat->Int->Int
 | 0,a=>a
 | k+1,a=>turnS w (turnI w k a)
end Ev
namespace Go.Vw
open Go.Proofs Go.RowKit
attribute [-simp] List.map_set
theorem asi (t:Int):b8 155 [cj t] (cu (Ev.cA t)):=by
 intro S;refine b7 Tryz.func155 Tryz.ntmps155 fun hwf=>?_
 refine QY ?_
 by_cases h:t=127
 .subst h
  refine bz ?_
  exact bS
 .have e:Ev.cA t=64:=by simp [Ev.cA,h]
  rw [e]
  refine bD h ?_
  exact bS
theorem acy (b:Bool):b8 156 [.bool b] (vu (Ev.b1 b)):=by
 intro S;refine b7 Tryz.func156 Tryz.ntmps156 fun hwf=>?_
 refine QY ?_
 cases b with
 | true =>
  refine bz ?_
  exact bS
 | false =>
  refine bz ?_
  exact bS
theorem qO:IntKind.u64.bits=64:=rfl
theorem ae7:IntKind.i64.bits=64:=rfl
theorem jcP {b:Nat} (h:b<64):(2:Int)^b<18446744073709551616:=by
 have h1:(2:Nat)^b<2^64:=Nat.pow_lt_pow_right (by decide) h;have h2:((2^b:Nat):Int)=(2:Int)^b:=by simp
 omega
theorem WN (b:Nat):((2^b:Nat):Int)=(2:Int)^b:=by simp
theorem aaa (n:Int):Ev.U64 (IntKind.u64.wrap n):=by
 have e:IntKind.u64.wrap n=n % 18446744073709551616:=by simp [IntKind.wrap,IntKind.bits,IntKind.signed]
 rw [e];exact ⟨Int.emod_nonneg _ (by decide),Int.emod_lt_of_pos _ (by decide)⟩
theorem apz {n:Int} (h:Ev.U64 n) (b:Nat):Ev.U64 (n % 2^b):=by
 obtain ⟨h0,h1⟩:=h;obtain ⟨m,rfl⟩ : ∃ m:Nat,n=m:=⟨n.toNat,by omega⟩
 have e3:(((m % 2^b:Nat)):Int)=(m:Int) % 2^b:=by rw [Int.natCast_emod,WN]
 have:=Nat.mod_le m (2^b);rw [<-e3];exact ⟨by omega,by omega⟩
theorem aw2 {n:Int} (h:Ev.U64 n) {b:Nat} (hb:b<64):IntKind.u64.wrap (((n % 2^IntKind.u64.bits).toNat &&& (((2:Int)^b-1) % 2^IntKind.u64.bits).toNat:Nat):Int)=n % 2^b:=by
 have hp:=jcP hb;have hp0:(0:Int)<2^b:=Int.pow_pos (by decide);have hc:=WN b;have e64:(2:Int)^IntKind.u64.bits=18446744073709551616:=by rw [qO]; rfl
 rw [e64];obtain ⟨h0,h1⟩:=h;obtain ⟨m,rfl⟩ : ∃ m:Nat,n=m:=⟨n.toNat,by omega⟩
 have e1:((m:Int) % 18446744073709551616).toNat=m:=by omega
 have e2:((2^b-1:Int) % 18446744073709551616).toNat=2^b-1:=by
  rw [<-hc];rw [<-hc] at hp hp0;omega
 rw [e1,e2,Nat.and_two_pow_sub_one_eq_mod];have e3:(((m % 2^b:Nat)):Int)=(m:Int) % 2^b:=by rw [Int.natCast_emod,hc]
 rw [e3];have:=apz (n:=(m:Int)) ⟨h0,h1⟩ b;exact aal this.1 this.2
theorem Yn (n:Int) (b:Nat) (hb:b<=64) (h:Ev.U64 n):b8 160 [vu n,cu b] (vu (n % 2^b)):=by
 intro S;refine b7 Tryz.func160 Tryz.ntmps160 fun hwf=>?_
 refine QY ?_
 by_cases hb2:b=64
 .subst hb2;have e:n % 2^64=n:=Int.emod_eq_of_lt h.1 (by have:=h.2; omega);rw [e]
  refine bz ?_
  exact bS
 .have hI : ¬ (b:Int)=64:=by omega
  have hp:=jcP (b:=b) (by omega);have hp0:(0:Int)<2^b:=Int.pow_pos (by decide);have hm:min b IntKind.u64.bits=b:=by rw [qO]; omega
  have w1:IntKind.u64.wrap (2^b)=2^b:=aal (by omega) hp;have w2:IntKind.u64.wrap (2^b-1)=2^b-1:=bU;have w3:=aw2 h (b:=b) (by omega)
  refine bO hI hm w1 w2 w3 ?_
  exact bS
theorem qT (n:Int) (b:Nat) (hb:b<=64):b8 161 [vu n,cu b] (cj (Ev.sgnI n b)):=by
 intro S;have hI:(b:Int)<=64:=by omega
 have w0:IntKind.i64.wrap (64-(b:Int))=64-(b:Int):=wrap_i64 (by omega) (by omega);have t0:(64-(b:Int)).toNat=64-b:=by omega
 have hm:min (64-b) IntKind.u64.bits=64-b:=by rw [qO]; omega
 have hm2:min (64-b) IntKind.i64.bits=64-b:=by rw [ae7]; omega
 refine b7 Tryz.func161 Tryz.ntmps161 fun hwf=>?_
 refine QY ?_
 refine bO w0 t0 hm hm2 hI ?_
 exact bS
theorem aof (a:Int) (k w:Nat) (hk:k<=64) (hw1:1<=w) (hw:w<=64) (h:Ev.U64 a):b8 162 [vu a,cu k,cu w] (vu (Ev.turnI w k a))/\Ev.U64 (Ev.turnI w k a):=by
 have hI : ∀ j,Ev.U64 (Ev.turnI w j a):=fun j=>by
  cases j with
  | zero=>exact h
  | succ j=>exact apz (aaa _) w
 refine ⟨fun S => ?_,hI k⟩;have cl:=fun x hx=>Yn x w hw hx
 have hwI:(w:Int)<=64:=by omega
 have w0:IntKind.i64.wrap ((w:Int)-1)=(w:Int)-1:=wrap_i64 (by omega) (by omega);have hw0:(1:Int)<=w:=by omega
 have t0:((w:Int)-1).toNat=w-1:=by omega
 have hm:min (w-1) IntKind.u64.bits=w-1:=by rw [qO]; omega
 refine b7 Tryz.func162 Tryz.ntmps162 fun hwf=>?_
 refine QY ?_
 refine bz ?_
 refine bX [0,1,2,7] (fun c σ S' => ∃ (j:Nat),j<=k/\c=k-j/\σ=[(0,vu (Ev.turnI w j a)),(1,cu k),(2,cu w),(7,cu j)]/\S'=St S [] []) k ?_ ?_
 .exact ⟨0,by omega,rfl,by simp [Fr.oy,Fr.lk,vu,Ev.turnI],by simp⟩
 .rintro c σ T ⟨j,hj,rfl,rfl,rfl⟩;have hx:=hI j;have hst:Ev.turnI w (j+1) a=Ev.turnS w (Ev.turnI w j a):=rfl;generalize hx0:Ev.turnI w j a=x at hx hst ⊢
  by_cases hjt:j<k
  .have hwj:=jg hjt (by omega);have c2:=cl (Ev.orI (IntKind.u64.wrap (x*2)) (x.fdiv (2^(w-1)))) (aaa _);have hm1:min 1 IntKind.u64.bits=1:=rfl;have p1:(2:Int)^1=2:=rfl;have c3:b8 160 [.int .u64 (IntKind.u64.wrap (((IntKind.u64.wrap (x*2) % 2^IntKind.u64.bits).toNat ||| (x.fdiv (2^(w-1)) % 2^IntKind.u64.bits).toNat:Nat):Int)), .int .i64 (w:Int)] (vu (Ev.turnS w x)):=c2
   refine bD hjt ?_
   refine QP ?_ (r:=by conv=>lhs;simp[QV,w0,hw0,t0,hm,hm1,p1]);refine QL c3 ?_;refine QW ?_
   refine bD hwj ?_
   show jx _ _ _ _ _ _ _;exact again ⟨ao hjt (aW j),j+1,hjt,rfl,by simp [Fr.oy,Fr.lk,vu,hst],rfl⟩
  .have hje:j=k:=by omega
   subst hje;rw [hx0]
   refine bD hjt ?_
   exact bS
end Go.Vw
namespace Ev
def cmpL (a b x y:Int):List Bool:=[decide (a=b), !decide (a=b),decide (x<y),decide (a<b),decide (y<x),decide (b<a),decide (x<=y),decide (a<=b),decide (y<=x),decide (b<=a)]
def cmpI (k:Nat) (a b:Int) (w:Nat):Int:=b1 ((cmpL a b (sgnI a w) (sgnI b w)).getD k false)
end Ev
namespace Go.Vw
open Go.Proofs Go.RowKit
attribute [-simp] List.map_set
theorem jcl (k:Nat) (hk:k<10) (a b:Int) (w:Nat) (hw:w<=64):b8 157 [cu k,vu a,vu b,cu w] (vu (Ev.cmpI k a b w)):=by
 intro S;have c1:=qT a w hw;have c2:=qT b w hw;have hr:rep0 [V.bool false] 10=List.replicate 10 (V.bool false):=rfl;have hX:Ev.cmpI k a b w=Ev.b1 ((Ev.cmpL a b (Ev.sgnI a w) (Ev.sgnI b w)).getD k false):=rfl;rw [hX];generalize Ev.sgnI a w=x at *
 generalize Ev.sgnI b w=y at *
 clear hX;refine b7 Tryz.func157 Tryz.ntmps157 fun hwf=>?_
 refine QY ?_;refine QP ?_;refine QL c1 ?_;refine QZ ?_;refine QL c2 ?_;refine QW ?_;refine bR hr ?_;have hcm:(Ev.cmpL a b x y).map V.bool=[V.bool (decide (a=b)),V.bool (!decide (a=b)),V.bool (decide (x<y)),V.bool (decide (a<b)),V.bool (decide (y<x)),V.bool (decide (b<a)),V.bool (decide (x<=y)),V.bool (decide (a<=b)),V.bool (decide (y<=x)),V.bool (decide (b<=a))]:=rfl;have hll:(Ev.cmpL a b x y).length=10:=rfl;rw [<-hcm];clear hcm;generalize Ev.cmpL a b x y=L at *
 have hkl:k<L.length:=by omega
 have hg:L.getD k false=L[k]:=by rw [ag,ac hkl]; rfl
 rw [hg];have cb:=acy L[k];have hkI:(k:Int)<10:=by omega
 refine QP ?_ (r:=by conv=>lhs;simp[QV,hkl,hk,hkI]);refine QL cb ?_;refine bV ?_
 exact bS
theorem aei (b:Bool):0<=Ev.b1 b/\Ev.b1 b<=1:=by cases b<;>simp [Ev.b1]
def Fit (w:Nat) (n:Int):Prop:=0<=n/\n<2^w
theorem Fit.u64 {w:Nat} {n:Int} (hw:w<=64) (h:Fit w n):Ev.U64 n:=by
 refine ⟨h.1, ?_⟩;have h1:(2:Nat)^w<=2^64:=Nat.pow_le_pow_right (by decide) hw;have h2:=WN w;have:=h.2;omega
theorem zi (n:Int) (w:Nat):Fit w (n % 2^w):=by
 have hp0:(0:Int)<2^w:=Int.pow_pos (by decide);exact ⟨Int.emod_nonneg _ (by omega),Int.emod_lt_of_pos _ hp0⟩
theorem auy {w:Nat} {a b:Int} (ha:Fit w a) (hb:Fit w b):Fit w (a.tdiv b):=by
 obtain ⟨a0,a1⟩:=ha;obtain ⟨b0,_⟩:=hb;obtain ⟨m,rfl⟩ : ∃ m:Nat,a=m:=⟨a.toNat,by omega⟩
 obtain ⟨q,rfl⟩ : ∃ q:Nat,b=q:=⟨b.toNat,by omega⟩
 have e:((m:Int)).tdiv (q:Int)=((m / q:Nat):Int):=rfl;rw [e];exact ⟨Int.natCast_nonneg _,Int.lt_of_le_of_lt (Int.ofNat_le.2 (Nat.div_le_self m q)) a1⟩
theorem awt {w:Nat} {a b:Int} (ha:Fit w a) (hb:Fit w b):Fit w (a.tmod b):=by
 obtain ⟨a0,a1⟩:=ha;obtain ⟨b0,_⟩:=hb;obtain ⟨m,rfl⟩ : ∃ m:Nat,a=m:=⟨a.toNat,by omega⟩
 obtain ⟨q,rfl⟩ : ∃ q:Nat,b=q:=⟨b.toNat,by omega⟩
 have e:((m:Int)).tmod (q:Int)=((m % q:Nat):Int):=rfl;rw [e];exact ⟨Int.natCast_nonneg _,Int.lt_of_le_of_lt (Int.ofNat_le.2 (Nat.mod_le m q)) a1⟩
theorem jdd (w:Nat):Fit w 0:=⟨by omega,Int.pow_pos (by decide)⟩
theorem aq9 {w:Nat} (hw:w<=64) {b:Int} (h:Fit w b) (hb:b≠0):Ev.sgnI b w≠0:=by
 intro h0;have hc:(0:Int)<2^(64-w):=Int.pow_pos (by decide);have hv:b*2^(64-w)<18446744073709551616:=by
  have h1:b*2^(64-w)<2^w*2^(64-w):=Int.mul_lt_mul_of_pos_right h.2 hc;rw [<-Int.pow_add,show w+(64-w)=64 by omega] at h1;omega
 have hge:(2:Int)^(64-w)<=b*2^(64-w):=by
  have h1:1*(2:Int)^(64-w)<=b*2^(64-w):=Int.mul_le_mul_of_nonneg_right (by have:=h.1; omega) (by omega);omega
 rw [Ev.sgnI,aal (by omega) hv] at h0;generalize b*2^(64-w)=v at *
 generalize (2:Int)^(64-w)=c at *
 have e:IntKind.i64.wrap v=v\/IntKind.i64.wrap v=v-18446744073709551616:=by
  have p1:(2:Int)^64=18446744073709551616:=rfl;have p2:(2:Int)^(64-1)=9223372036854775808:=rfl;simp only [IntKind.wrap,IntKind.bits,IntKind.signed,aE,aj,p1,p2];split<;>omega
 rw [Int.fdiv_eq_ediv_of_nonneg _ (by omega)] at h0;have h2:=Int.emod_add_mul_ediv (IntKind.i64.wrap v) c;rw [h0] at h2;have h3:=Int.emod_nonneg (IntKind.i64.wrap v) (b:=c) (by omega);have h4:=Int.emod_lt_of_pos (IntKind.i64.wrap v) hc;omega
theorem amx (k:Int) (a b:Int) (w:Nat) (hw1:1<=w) (hw:w<=64) (ha:Fit w a) (hb:Fit w b) : ∃ n e:Int,b8 163 [cj k,vu a,vu b,cu w] (.tuple [vu n,cj e])/\Fit w n:=by
 have c1:=qT a w hw;have c2:=qT b w hw
 by_cases hb0:b=0
 .subst hb0;refine ⟨0,33,fun S => ?_,jdd w⟩;refine b7 Tryz.func163 Tryz.ntmps163 fun hwf=>?_
  refine QY ?_;refine QP ?_;refine QL c1 ?_;refine QZ ?_;refine QL c2 ?_;refine bV ?_
  exact bS
 have hq:=auy ha hb;have hr:=awt ha hb;have hqw:IntKind.u64.wrap (a.tdiv b)=a.tdiv b:=aal hq.1 (hq.u64 hw).2;have cm:=qT (2^(w-1)) w hw;have w0:IntKind.i64.wrap ((w:Int)-1)=(w:Int)-1:=wrap_i64 (by omega) (by omega);have w1:(1:Int)<=w:=by omega
 have t0:((w:Int)-1).toNat=w-1:=by omega
 have hm:min (w-1) IntKind.u64.bits=w-1:=by rw [qO]; omega
 have hp:=jcP (b:=w-1) (by omega);have hp0:(0:Int)<2^(w-1):=Int.pow_pos (by decide);have w2:IntKind.u64.wrap (2^(w-1))=2^(w-1):=aal (by omega) hp;have hy0:=aq9 hw hb hb0;generalize Ev.sgnI a w=x at *
 generalize Ev.sgnI b w=y at *
 generalize Ev.sgnI (2^(w-1)) w=z at *
 have cl:=fun v hv=>Yn v w hw hv
 by_cases hy:y = -1
 .subst hy;have hyn : ¬ (-1:Int)=0:=by decide
  by_cases hz:x=z
  .subst hz
   by_cases hk0:k=0
   .subst hk0;refine ⟨0,34,fun S => ?_,jdd w⟩;refine b7 Tryz.func163 Tryz.ntmps163 fun hwf=>?_
    refine QY ?_;refine QP ?_;refine QL c1 ?_;refine QZ ?_;refine QL c2 ?_;refine QW ?_
    refine bD hb0 ?_
    refine QP ?_ (r:=by conv=>lhs;simp[QV,w0,w1,t0,hm,w2]);refine QL cm ?_;refine QW ?_
    refine bF hb0 hqw ?_
    exact bS
   by_cases hk1:k=1
   .subst hk1;refine ⟨_,0,fun S => ?_,hq⟩;refine b7 Tryz.func163 Tryz.ntmps163 fun hwf=>?_
    refine QY ?_;refine QP ?_;refine QL c1 ?_;refine QZ ?_;refine QL c2 ?_;refine QW ?_
    refine bD hb0 ?_
    refine QP ?_ (r:=by conv=>lhs;simp[QV,w0,w1,t0,hm,w2]);refine QL cm ?_;refine QW ?_
    refine bF hb0 hqw ?_
    exact bS
   by_cases hk2:k=2
   .subst hk2;refine ⟨0,0,fun S => ?_,jdd w⟩;refine b7 Tryz.func163 Tryz.ntmps163 fun hwf=>?_
    refine QY ?_;refine QP ?_;refine QL c1 ?_;refine QZ ?_;refine QL c2 ?_;refine QW ?_
    refine bD hb0 ?_
    refine QP ?_ (r:=by conv=>lhs;simp[QV,w0,w1,t0,hm,w2]);refine QL cm ?_;refine QW ?_
    refine bF hb0 hqw ?_
    exact bS
   refine ⟨_,0,fun S => ?_,hr⟩;refine b7 Tryz.func163 Tryz.ntmps163 fun hwf=>?_
   refine QY ?_;refine QP ?_;refine QL c1 ?_;refine QZ ?_;refine QL c2 ?_;refine QW ?_
   refine bD hb0 ?_
   refine QP ?_ (r:=by conv=>lhs;simp[QV,w0,w1,t0,hm,w2]);refine QL cm ?_;refine QW ?_
   refine bO hk0 hk1 hk2 hb0 hqw ?_
   exact bS
  by_cases hk0:k=0
  .subst hk0;refine ⟨(IntKind.u64.wrap (IntKind.i64.wrap (-x))) % 2^w,0,fun S => ?_,zi _ w⟩;refine b7 Tryz.func163 Tryz.ntmps163 fun hwf=>?_
   refine QY ?_;refine QP ?_;refine QL c1 ?_;refine QZ ?_;refine QL c2 ?_;refine QW ?_
   refine bD hb0 ?_
   refine QP ?_ (r:=by conv=>lhs;simp[QV,w0,w1,t0,hm,w2]);refine QL cm ?_;refine bJ hz ?_;refine QN ?_
   refine bF hb0 hqw ?_
   refine bN hyn ?_;refine QL (cl _ (aaa _)) ?_;refine bV ?_
   exact bS
  by_cases hk1:k=1
  .subst hk1;refine ⟨_,0,fun S => ?_,hq⟩;refine b7 Tryz.func163 Tryz.ntmps163 fun hwf=>?_
   refine QY ?_;refine QP ?_;refine QL c1 ?_;refine QZ ?_;refine QL c2 ?_;refine QW ?_
   refine bD hb0 ?_
   refine QP ?_ (r:=by conv=>lhs;simp[QV,w0,w1,t0,hm,w2]);refine QL cm ?_;refine bJ hz ?_;refine QN ?_
   refine bF hb0 hqw ?_
   exact bS
  by_cases hk2:k=2
  .subst hk2;refine ⟨(IntKind.u64.wrap 0) % 2^w,0,fun S => ?_,zi _ w⟩;refine b7 Tryz.func163 Tryz.ntmps163 fun hwf=>?_
   refine QY ?_;refine QP ?_;refine QL c1 ?_;refine QZ ?_;refine QL c2 ?_;refine QW ?_
   refine bD hb0 ?_
   refine QP ?_ (r:=by conv=>lhs;simp[QV,w0,w1,t0,hm,w2]);refine QL cm ?_;refine bJ hz ?_;refine QN ?_
   refine bF hb0 hqw ?_
   refine bN hyn ?_;refine QL (cl _ (aaa _)) ?_;refine bV ?_
   exact bS
  refine ⟨_,0,fun S => ?_,hr⟩;refine b7 Tryz.func163 Tryz.ntmps163 fun hwf=>?_
  refine QY ?_;refine QP ?_;refine QL c1 ?_;refine QZ ?_;refine QL c2 ?_;refine QW ?_
  refine bD hb0 ?_
  refine QP ?_ (r:=by conv=>lhs;simp[QV,w0,w1,t0,hm,w2]);refine QL cm ?_;refine bJ hz ?_;refine QN ?_
  refine bO hk0 hk1 hk2 hb0 hqw ?_
  exact bS
 .have hyn:=hy0
  by_cases hk0:k=0
  .subst hk0;refine ⟨(IntKind.u64.wrap (IntKind.i64.wrap (x.tdiv y))) % 2^w,0,fun S => ?_,zi _ w⟩;refine b7 Tryz.func163 Tryz.ntmps163 fun hwf=>?_
   refine QY ?_;refine QP ?_;refine QL c1 ?_;refine QZ ?_;refine QL c2 ?_;refine QW ?_
   refine bD hb0 ?_
   refine bR hy ?_
   refine bF hb0 hqw ?_
   refine bN hyn ?_;refine QL (cl _ (aaa _)) ?_;refine bV ?_
   exact bS
  by_cases hk1:k=1
  .subst hk1;refine ⟨_,0,fun S => ?_,hq⟩;refine b7 Tryz.func163 Tryz.ntmps163 fun hwf=>?_
   refine QY ?_;refine QP ?_;refine QL c1 ?_;refine QZ ?_;refine QL c2 ?_;refine QW ?_
   refine bD hb0 ?_
   refine bR hy ?_
   refine bF hb0 hqw ?_
   exact bS
  by_cases hk2:k=2
  .subst hk2;refine ⟨(IntKind.u64.wrap (x.tmod y)) % 2^w,0,fun S => ?_,zi _ w⟩;refine b7 Tryz.func163 Tryz.ntmps163 fun hwf=>?_
   refine QY ?_;refine QP ?_;refine QL c1 ?_;refine QZ ?_;refine QL c2 ?_;refine QW ?_
   refine bD hb0 ?_
   refine bR hy ?_
   refine bF hb0 hqw ?_
   refine bN hyn ?_;refine QL (cl _ (aaa _)) ?_;refine bV ?_
   exact bS
  refine ⟨_,0,fun S => ?_,hr⟩;refine b7 Tryz.func163 Tryz.ntmps163 fun hwf=>?_
  refine QY ?_;refine QP ?_;refine QL c1 ?_;refine QZ ?_;refine QL c2 ?_;refine QW ?_
  refine bD hb0 ?_
  refine bR hy ?_
  refine bO hk0 hk1 hk2 hb0 hqw ?_
  exact bS
theorem jdn {w:Nat} (hw:w<=64) {a b:Int} (ha:Fit w a) (hb:Fit w b) : ∃ m n:Nat,a=m/\b=n/\m<2^w/\n<2^w/\(a % 2^IntKind.u64.bits).toNat=m/\(b % 2^IntKind.u64.bits).toNat=n:=by
 have ua:=ha.u64 hw;have ub:=hb.u64 hw;obtain ⟨a0,a1⟩:=ha;obtain ⟨b0,b1⟩:=hb;have hc:=WN w;have e64:(2:Int)^IntKind.u64.bits=18446744073709551616:=by rw [qO]; rfl
 rw [e64];have h1:=ua.2;have h2:=ub.2;exact ⟨a.toNat,b.toNat,by omega,by omega,by omega,by omega,by omega,by omega⟩
theorem ac4 {w:Nat} (hw:w<=64) {m:Nat} (h:m<2^w):Fit w (IntKind.u64.wrap (m:Int)):=by
 have hc:=WN w;have hf:Fit w (m:Int):=⟨by omega,by omega⟩
 have hu:=hf.u64 hw;rw [aal hu.1 hu.2];exact hf
theorem avk {w:Nat} (hw:w<=64) {a b:Int} (ha:Fit w a) (hb:Fit w b):Fit w (IntKind.u64.wrap (((a % 2^IntKind.u64.bits).toNat &&& (b % 2^IntKind.u64.bits).toNat:Nat):Int)):=by
 obtain ⟨m,n,_,_,h1,h2,e1,e2⟩:=jdn hw ha hb;rw [e1,e2];exact ac4 hw (Nat.and_lt_two_pow _ h2)
theorem axq {w:Nat} (hw:w<=64) {a b:Int} (ha:Fit w a) (hb:Fit w b):Fit w (IntKind.u64.wrap (((a % 2^IntKind.u64.bits).toNat ||| (b % 2^IntKind.u64.bits).toNat:Nat):Int)):=by
 obtain ⟨m,n,_,_,h1,h2,e1,e2⟩:=jdn hw ha hb;rw [e1,e2];exact ac4 hw (Nat.or_lt_two_pow h1 h2)
theorem awb {w:Nat} (hw:w<=64) {a b:Int} (ha:Fit w a) (hb:Fit w b):Fit w (IntKind.u64.wrap (((a % 2^IntKind.u64.bits).toNat ^^^ (b % 2^IntKind.u64.bits).toNat:Nat):Int)):=by
 obtain ⟨m,n,_,_,h1,h2,e1,e2⟩:=jdn hw ha hb;rw [e1,e2];exact ac4 hw (Nat.xor_lt_two_pow h1 h2)
theorem av8 {w:Nat} {a:Int} (ha:Fit w a) (q:Nat):Fit w (a.fdiv (2^q)):=by
 have hp:(0:Int)<2^q:=Int.pow_pos (by decide);rw [Int.fdiv_eq_ediv_of_nonneg _ (by omega)];have h1:=Int.ediv_nonneg ha.1 (b:=2^q) (by omega);have h2:=Int.ediv_le_self (2^q) ha.1;exact ⟨h1,Int.lt_of_le_of_lt h2 ha.2⟩
theorem afr {w:Nat} {a:Int} (ha:Fit w a) : ∀ k,Fit w (Ev.turnI w k a)
 | 0=>ha
 | k+1=>zi _ w
theorem aes (k:Int) (a b:Int) (w:Nat) (hw1:1<=w) (hw:w<=64) (hk0:0<=k) (hk1:k<=14) (ha:Fit w a) (hb:Fit w b) : ∃ n e:Int,b8 159 [cj k,vu a,vu b,cu w] (.tuple [vu n,cj e])/\Fit w n/\(k<3\/6<k->e=0):=by
 have ua:=ha.u64 hw;obtain ⟨q,hq,hqw⟩ : ∃ q:Nat,b.tmod (w:Int)=q/\q<w:=by
  obtain ⟨b0,_⟩:=hb;obtain ⟨m,rfl⟩ : ∃ m:Nat,b=m:=⟨b.toNat,by omega⟩
  exact ⟨m % w,rfl,Nat.mod_lt _ (by omega)⟩
 have hw0 : ¬ w=0:=by omega
 have cw:IntKind.u64.wrap (w:Int)=w:=bU;have cq:IntKind.i64.wrap (q:Int)=q:=wrap_i64 (by omega) (by omega);have cl:=fun v hv=>Yn v w hw hv
 have hm:min q IntKind.u64.bits=q:=by rw [qO]; omega
 have hm2:min q IntKind.i64.bits=q:=by rw [ae7]; omega
 have cs:=qT a w hw;have ct:=fun j hj=>(aof a j w hj hw1 hw ua).1
 have wq:IntKind.i64.wrap ((w:Int)-(q:Int))=((w-q:Nat):Int):=by rw [wrap_i64 (by omega) (by omega)]; omega
 have hqI:(q:Int)<=w:=by omega
 by_cases h0:k=0
 .subst h0;refine ⟨(IntKind.u64.wrap (a+b)) % 2^w,0,fun S => ?_,zi _ w,fun _=>rfl⟩;refine b7 Tryz.func159 Tryz.ntmps159 fun hwf=>?_
  refine QY ?_
  refine bH cw hw0 hq cq ?_
  refine QP ?_ (r:=by conv=>lhs;simp[QV,hm,wq,hqI]);refine QL (cl _ (aaa _)) ?_;refine bV ?_
  exact bS
 by_cases h1:k=1
 .subst h1;refine ⟨(IntKind.u64.wrap (a-b)) % 2^w,0,fun S => ?_,zi _ w,fun _=>rfl⟩;refine b7 Tryz.func159 Tryz.ntmps159 fun hwf=>?_
  refine QY ?_
  refine bH cw hw0 hq cq ?_
  refine QP ?_ (r:=by conv=>lhs;simp[QV,hm,wq,hqI]);refine QL (cl _ (aaa _)) ?_;refine bV ?_
  exact bS
 by_cases h2:k=2
 .subst h2;refine ⟨(IntKind.u64.wrap (a*b)) % 2^w,0,fun S => ?_,zi _ w,fun _=>rfl⟩;refine b7 Tryz.func159 Tryz.ntmps159 fun hwf=>?_
  refine QY ?_
  refine bH cw hw0 hq cq ?_
  refine QP ?_ (r:=by conv=>lhs;simp[QV,hm,wq,hqI]);refine QL (cl _ (aaa _)) ?_;refine bV ?_
  exact bS
 by_cases h7:k=7
 .subst h7;refine ⟨_,0,fun S => ?_,avk hw ha hb,fun _=>rfl⟩;refine b7 Tryz.func159 Tryz.ntmps159 fun hwf=>?_
  refine QY ?_
  refine bB cw hw0 hq cq hm hm2 ?_
  exact bS
 by_cases h8:k=8
 .subst h8;refine ⟨_,0,fun S => ?_,axq hw ha hb,fun _=>rfl⟩;refine b7 Tryz.func159 Tryz.ntmps159 fun hwf=>?_
  refine QY ?_
  refine bB cw hw0 hq cq hm hm2 ?_
  exact bS
 by_cases h9:k=9
 .subst h9;refine ⟨_,0,fun S => ?_,awb hw ha hb,fun _=>rfl⟩;refine b7 Tryz.func159 Tryz.ntmps159 fun hwf=>?_
  refine QY ?_
  refine bB cw hw0 hq cq hm hm2 ?_
  exact bS
 by_cases h10:k=10
 .subst h10;refine ⟨(IntKind.u64.wrap (a*2^q)) % 2^w,0,fun S => ?_,zi _ w,fun _=>rfl⟩;refine b7 Tryz.func159 Tryz.ntmps159 fun hwf=>?_
  refine QY ?_
  refine bH cw hw0 hq cq ?_
  refine QP ?_ (r:=by conv=>lhs;simp[QV,hm,wq,hqI]);refine QL (cl _ (aaa _)) ?_;refine bV ?_
  exact bS
 by_cases h11:k=11
 .subst h11;refine ⟨(IntKind.u64.wrap ((Ev.sgnI a w).fdiv (2^q))) % 2^w,0,fun S => ?_,zi _ w,fun _=>rfl⟩;refine b7 Tryz.func159 Tryz.ntmps159 fun hwf=>?_
  refine QY ?_
  refine bH cw hw0 hq cq ?_
  refine QP ?_;refine QL cs ?_;refine bJ hm2 ?_;refine QL (cl _ (aaa _)) ?_;refine bV ?_
  exact bS
 by_cases h12:k=12
 .subst h12;refine ⟨_,0,fun S => ?_,av8 ha q,fun _=>rfl⟩;refine b7 Tryz.func159 Tryz.ntmps159 fun hwf=>?_
  refine QY ?_
  refine bB cw hw0 hq cq hm hm2 ?_
  exact bS
 by_cases h13:k=13
 .subst h13;refine ⟨_,0,fun S => ?_,afr ha q,fun _=>rfl⟩;refine b7 Tryz.func159 Tryz.ntmps159 fun hwf=>?_
  refine QY ?_
  refine bH cw hw0 hq cq ?_
  refine QP ?_ (r:=by conv=>lhs;simp[QV,hm,wq,hqI]);refine QL (ct q (by omega)) ?_;refine bV ?_
  exact bS
 by_cases h14:k=14
 .subst h14;refine ⟨_,0,fun S => ?_,afr ha (w-q),fun _=>rfl⟩;refine b7 Tryz.func159 Tryz.ntmps159 fun hwf=>?_
  refine QY ?_
  refine bH cw hw0 hq cq ?_
  refine QP ?_ (r:=by conv=>lhs;simp[QV,hm,wq,hqI]);refine QL (ct (w-q) (by omega)) ?_;refine bV ?_
  exact bS
 have hr:3<=k/\k<=6:=by omega
 obtain ⟨n,e,cd,hf⟩:=amx (k-3) a b w hw1 hw ha hb;refine ⟨n,e,fun S => ?_,hf,fun h=>by omega⟩;have wk:IntKind.i64.wrap (k-3)=k-3:=wrap_i64 (by omega) (by omega);refine b7 Tryz.func159 Tryz.ntmps159 fun hwf=>?_
 refine QY ?_
 repeat first|refine QG ?_|refine QY ?_ (r:=by conv=>lhs;simp[QV,cw,hw0,hq,cq,h0,h1,h2,h7,h8,h9,h10,h11,h12,h13,h14])
 refine bN wk ?_;refine QL cd ?_;refine bV ?_
 exact bS
end Go.Vw
namespace Ev
def bitA (a:Int) (i:Nat):Bool:=decide (Go.IntKind.u64.wrap (((a.fdiv (2^i) % 2^Go.IntKind.u64.bits).toNat &&& 1 % 2^Go.IntKind.u64.bits:Nat):Int)=1)
def bitsT (a:Int) (w:Nat):Nat->Int × Int × Int
 | 0=>(w,w,0)
 | i+1=>if bitA a i then ((w:Int)-1-i,if (bitsT a w i).2.1=w then (i:Int) else (bitsT a w i).2.1,(bitsT a w i).2.2+1) else bitsT a w i
def pick3 (k:Int) (s:Int × Int × Int):Int:=if k=0 then s.1 else if k=1 then s.2.1 else s.2.2
theorem ab0 (a:Int) (w:Nat) : ∀ i,i<=w->(0<=(bitsT a w i).1/\(bitsT a w i).1<=w)/\(0<=(bitsT a w i).2.1/\(bitsT a w i).2.1<=w)/\(0<=(bitsT a w i).2.2/\(bitsT a w i).2.2<=i)
 | 0,_=>⟨⟨by simp [bitsT],by simp [bitsT]⟩,⟨by simp [bitsT],by simp [bitsT]⟩,by simp [bitsT],by simp [bitsT]⟩
 | i+1,h=>by
  obtain ⟨h1,h2,h3⟩:=ab0 a w i (by omega);rw [bitsT];split
  .refine ⟨⟨by simp only; omega,by simp only; omega⟩, ?_,by simp only; omega,by simp only; omega⟩;simp only;split<;>constructor<;>omega
  .exact ⟨h1,h2,h3.1,by omega⟩
end Ev
namespace Go.Vw
open Go.Proofs Go.RowKit
attribute [-simp] List.map_set
theorem aj4 (k:Int) (a:Int) (w:Nat) (hw1:1<=w) (hw:w<=64) (hk:k=0\/k=1\/k=2):b8 158 [cj k,vu a,cu w] (vu (Ev.pick3 k (Ev.bitsT a w w))):=by
 intro S;have hr:rep0 [V.int .i64 0] 3=[.int .i64 0, .int .i64 0, .int .i64 0]:=rfl;have w0:IntKind.i64.wrap ((w:Int)-1)=(w:Int)-1:=wrap_i64 (by omega) (by omega);refine b7 Tryz.func158 Tryz.ntmps158 fun hwf=>?_
 refine QY ?_
 refine bz ?_
 refine bX [0,1,2,7,8,9,10] (fun c σ S' => ∃ (i:Nat),i<=w/\c=w-i/\σ=[(0,cj k),(1,vu a),(2,cu w),(7,cj (Ev.bitsT a w i).1),(8,cj (Ev.bitsT a w i).2.1),(9,cj (Ev.bitsT a w i).2.2),(10,cu i)]/\S'=St S [] []) w ?_ ?_
 .exact ⟨0,by omega,rfl,by simp [Fr.oy,Fr.lk,Ev.bitsT],by simp⟩
 .rintro c σ T ⟨i,hi,rfl,rfl,rfl⟩;have hb:=Ev.ab0 a w i hi;have hst:Ev.bitsT a w (i+1)=if Ev.bitA a i then ((w:Int)-1-i,if (Ev.bitsT a w i).2.1=w then (i:Int) else (Ev.bitsT a w i).2.1,(Ev.bitsT a w i).2.2+1) else Ev.bitsT a w i:=rfl
  generalize hs0:Ev.bitsT a w i=s at hb hst ⊢;obtain ⟨s1,s2,s3⟩:=s;simp only at hb hst ⊢;obtain ⟨h1,h2,h3⟩:=hb
  by_cases hit:i<w
  .have hwi:=jg hit (by omega);have hm:min i IntKind.u64.bits=i:=by rw [qO]; omega
   have w1:IntKind.i64.wrap ((w:Int)-1-i)=(w:Int)-1-i:=wrap_i64 (by omega) (by omega);have w3:IntKind.i64.wrap (s3+1)=s3+1:=wrap_i64 (by omega) (by omega);have hab:Ev.bitA a i=decide (IntKind.u64.wrap (((a.fdiv (2^i) % 2^IntKind.u64.bits).toNat &&& 1 % 2^IntKind.u64.bits:Nat):Int)=1):=rfl
   by_cases hbit:IntKind.u64.wrap (((a.fdiv (2^i) % 2^IntKind.u64.bits).toNat &&& 1 % 2^IntKind.u64.bits:Nat):Int)=1
   .rw [hab,bv hbit,if_pos rfl] at hst
    by_cases hl:s2=w
    .rw [if_pos hl] at hst;subst hl
     repeat first|refine QG ?_|refine QY ?_ (r:=by conv=>lhs;simp[QV,hit,hm,hbit,w0,w1,w3,hwi])
     show jx _ _ _ _ _ _ _;exact again ⟨ao hit (aW i),i+1,hit,rfl,by rw [hst]; simp [Fr.oy,Fr.lk],rfl⟩
    .rw [if_neg hl] at hst
     repeat first|refine QG ?_|refine QY ?_ (r:=by conv=>lhs;simp[QV,hit,hm,hbit,hl,w0,w1,w3,hwi])
     show jx _ _ _ _ _ _ _;exact again ⟨ao hit (aW i),i+1,hit,rfl,by rw [hst]; simp [Fr.oy,Fr.lk],rfl⟩
   .rw [hab,bw hbit] at hst;simp only [aF,if_false] at hst
    refine bH hit hm hbit hwi ?_
    show jx _ _ _ _ _ _ _;exact again ⟨ao hit (aW i),i+1,hit,rfl,by rw [hst]; simp [Fr.oy,Fr.lk],rfl⟩
  .have hie:i=w:=by omega
   subst hie;rw [hs0];rcases hk with rfl | rfl | rfl
   .have hv:IntKind.u64.wrap s1=s1:=bU
    refine bG hit hr hv ?_
    exact bS
   .have hv:IntKind.u64.wrap s2=s2:=bU
    refine bG hit hr hv ?_
    exact bS
   .have hv:IntKind.u64.wrap s3=s3:=bU
    refine bG hit hr hv ?_
    exact bS
end Go.Vw
namespace Ev
open Ss
def fits (t n:Int):Bool:=decide (t=126)||(decide (t=127)&&decide (n<4294967296))
def kindB (n:Nat):Bool:=decide (rof n=0)||((decide (rof n=127)||decide (rof n=126))&&((runary n&&(decide (n=69)||decide (n=80)||(decide (103<=n)&&decide (n<=105))||(decide (121<=n)&&decide (n<=123))||decide (n=167)||decide (n=172)||decide (n=173)||(decide (192<=n)&&decide (n<=196))))||(!runary n&&((decide (70<=n)&&decide (n<=79))||(decide (81<=n)&&decide (n<=90))||(decide (106<=n)&&decide (n<=120))||(decide (124<=n)&&decide (n<=138))))))
theorem ai0 : ∀ n:Nat,n<256->kindB n=true:=by decide +kernel
theorem ayt {op:Int} (h:rof op≠0):0<=op/\op<256:=by
 unfold rof at h;split at h
 .rename_i h1;simp only [rin,af,aj] at h1;omega
 .split at h
  .rename_i h1;simp only [rin,af,aj] at h1;omega
  .exact absurd rfl h
theorem kinds {op:Int} (h:rof op≠0):(rof op=127\/rof op=126)/\(runary op=true/\(op=69\/op=80\/(103<=op/\op<=105)\/(121<=op/\op<=123)\/op=167\/op=172\/op=173\/(192<=op/\op<=196))\/runary op=false/\((70<=op/\op<=79)\/(81<=op/\op<=90)\/(106<=op/\op<=120)\/(124<=op/\op<=138))):=by
 obtain ⟨h0,h1⟩:=ayt h;obtain ⟨n,rfl⟩:=Int.eq_ofNat_of_zero_le h0;have hk:=ai0 n (by omega);simp only [kindB,bk,af,aj,Bool.not_eq_true',h,false_or] at hk;obtain ⟨k1,k2⟩:=hk;refine ⟨k1, ?_⟩;rcases k2 with ⟨a,b⟩ | ⟨a,b⟩
 .exact .inl ⟨a,by omega⟩
 .exact .inr ⟨a,by omega⟩
end Ev
namespace Go.Vw
open Go.Proofs Go.RowKit
attribute [-simp] List.map_set
theorem jdb {t n:Int} (ht:t=127\/t=126) (h0:Ev.U64 n) (h:Ev.fits t n=true):Fit (Ev.cA t) n:=by
 rcases ht with rfl | rfl
 .simp only [Ev.fits] at h;simp at h;exact ⟨h0.1,by simp [Ev.cA]; omega⟩
 .exact ⟨h0.1,by simp [Ev.cA]; have:=h0.2; omega⟩
theorem anc (op:Int) (a:List Int) (h:Ss.rof op=0\/a.length≠(Ss.rsig op).1.length) (ha:a.length<2^62):b8 153 [cj op,vl vu a] (.tuple [vu 0,cj 1]):=by
 have cs:=KI op;rw [<-Ss.abe op] at cs
 by_cases h0:Ss.rof op=0
 .intro S;have hX:Ss.rsig op=([],0,false):=by rw [Ss.rsig,if_pos h0]
  rw [hX] at cs;simp only at cs;refine b7 Tryz.func153 Tryz.ntmps153 fun hwf=>?_
  refine QY ?_;refine QP ?_;refine QL cs ?_;refine bV ?_
  exact bS
 .intro S;obtain ⟨l,hl⟩ : ∃ l,l=(Ss.rsig op).1:=⟨_,rfl⟩
  have hX:Ss.rsig op=(l,Ss.rsigT op,true):=by rw [hl,Ss.rsig,if_neg h0]
  have hne : ¬ l.length=a.length:=by
   rw [<-hl] at h;rcases h with h | h
   .exact absurd h h0
   .exact fun e=>h e.symm
  rw [hX] at cs;simp only at cs;have hneI : ¬ (l.length:Int)=(a.length:Int):=by omega
  refine b7 Tryz.func153 Tryz.ntmps153 fun hwf=>?_
  refine QY ?_;refine QP ?_;refine QL cs ?_;refine QW ?_
  refine bF hne hneI ?_
  exact bS
theorem aeu (op:Int) (a:List Int) (h0:Ss.rof op≠0) (hl:a.length=(Ss.rsig op).1.length) (h : ∃ i, ∃ (h1:i<a.length) (h2:i<(Ss.rsig op).1.length),Ev.fits (Ss.rsig op).1[i] a[i]=false):b8 153 [cj op,vl vu a] (.tuple [vu 0,cj 1]):=by
 intro S;have cs:=KI op;rw [<-Ss.abe op] at cs;obtain ⟨l,hle⟩ : ∃ l,l=(Ss.rsig op).1:=⟨_,rfl⟩
 have hX:Ss.rsig op=(l,Ss.rsigT op,true):=by rw [hle,Ss.rsig,if_neg h0]
 rw [hX] at cs;simp only [<-hle] at cs hl h;have hll:l.length<=2:=by
  rw [hle,Ss.rsig,if_neg h0];simp only;split<;>simp
 clear hX;have hlI:(l.length:Int)=(a.length:Int):=by omega
 refine b7 Tryz.func153 Tryz.ntmps153 fun hwf=>?_
 refine QY ?_;refine QP ?_;refine QL cs ?_;refine QW ?_
 refine bF hl hlI ?_
 refine bX [0,1,6,9] (fun c σ S' => ∃ (i:Nat),i<=a.length/\c=a.length-i/\(∀ (q:Nat) (h1:q<a.length) (h2:q<l.length),q<i->Ev.fits l[q] a[q]=true)/\σ=[(0,cj op),(1,vl vu a),(6,vl cj l),(9,cu i)]/\S'=St S [] []) a.length ?_ ?_
 .exact ⟨0,by omega,rfl,fun q h1 h2 h3=>by omega,by simp [Fr.oy,Fr.lk],by simp⟩
 .rintro c σ T ⟨i,hi,rfl,hq,rfl,rfl⟩
  by_cases hit:i<a.length
  .have hwi:=jg hit (by omega);have hil:i<l.length:=by omega
   have cf:=jbp l[i] a[i];have hfe:Ev.fits l[i] a[i]=(decide (l[i]=126)||(decide (l[i]=127)&&decide (a[i]<4294967296))):=rfl;rw [<-hfe] at cf;obtain ⟨b,hb⟩ : ∃ b,b=Ev.fits l[i] a[i]:=⟨_,rfl⟩
   rw [<-hb] at cf;obtain ⟨li,hli⟩ : ∃ x,l[i]=x:=⟨_,rfl⟩
   obtain ⟨ai,hai⟩ : ∃ x,a[i]=x:=⟨_,rfl⟩
   rw [hli,hai] at cf
   refine bD hit ?_
   refine bY (r:=by conv=>lhs;simp[QV,hit,hil,hli,hai]) (k:=?_);refine QL cf ?_
   cases b with
   | true =>
    refine QW ?_
    refine bD hwi ?_
    have hnew : ∀ (q:Nat) (h1:q<a.length) (h2:q<l.length),q<i+1->Ev.fits l[q] a[q]=true:=fun q h1 h2 h3=>by
     rcases bt q i with h4 | h4
     .exact hq q h1 h2 h4
     .have:q=i:=by omega
      subst this; exact hb.symm
    show jx _ _ _ _ _ _ _;exact again ⟨ao hit (aW i),i+1,hit,rfl,hnew,by simp [Fr.oy,Fr.lk],rfl⟩
   | false =>
    refine bV ?_
    exact bS
  .exfalso
   obtain ⟨q,h1,h2,h3⟩:=h;rw [hq q h1 h2 (by omega)] at h3
   cases h3
end Go.Vw
