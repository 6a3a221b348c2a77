import Derived.Test.YtkfllaokjaldnaaGreatC20
import Derived.Test.YtkfllaokjaldnaaGreatC18
/-
  Part of the proof (texts SNum2, SMem).
-/
set_option linter.unusedVariables false
set_option linter.unusedSimpArgs false
namespace Go.Vw
open Go.Proofs Go.RowKit
set_option maxRecDepth 10000
set_option maxHeartbeats 2000000
theorem division_v (k:Int):VPure Tryz.prog 118 [vint k] (.bool (Ss.division k)):=by
 intro S
 refine jb (c:=jf Tryz.f118) Tryz.func118 rfl rfl (by simp [Tryz.ntmps118]) ?_
 rw [Tryz.ntmps118]
 intro hwf
 by_cases h:3≤k
 ·by_cases h2:k≤6
  ·repeat (first|refine QG ?_|refine QY ?_ (r:=by conv=>lhs;simp[-List.map_set,QV,h,h2]))
   exact ja hwf (by simp [Ss.division,h,h2]) rfl
  ·repeat (first|refine QG ?_|refine QY ?_ (r:=by conv=>lhs;simp[-List.map_set,QV,h,h2]))
   exact ja hwf (by simp [Ss.division,h2]) rfl
 ·repeat (first|refine QG ?_|refine QY ?_ (r:=by conv=>lhs;simp[-List.map_set,QV,h]))
  exact ja hwf (by simp [Ss.division,h]) rfl
theorem Total_v (op:Int) (ho:Ss.I64 op):VPure Tryz.prog 83 [vint op] (.bool (Ss.total op)):=by
 intro S
 have cf:=find_v op ho
 unfold Ss.total
 cases hf:Ss.find op with
 | none =>
  rw [hf] at cf
  have cf':VPure Tryz.prog 117 [vint op] (.tuple [.agg [.int .i64 0, .int .i64 0, .int .i64 0, .int .i64 0], .int .i64 0, .bool false]):=cf
  refine jb (c:=jf Tryz.f83) Tryz.func83 rfl rfl (by simp [Tryz.ntmps83]) ?_
  rw [Tryz.ntmps83]
  intro hwf
  repeat (first|refine QG ?_|refine QY ?_)
  repeat refine QS ?_
  refine QP ?_
  refine jc (cf') (by rfl) ?_
  refine QM (by conv=>lhs;simp[-List.map_set,QV]) ?_
  refine QN ?_
  repeat (first|refine QG ?_|refine QY ?_)
  exact ja hwf (by simp) rfl
 | some g =>
  rw [hf] at cf
  obtain ⟨g1,g2,g3,g4⟩:=g
  have cf':VPure Tryz.prog 117 [vint op] (.tuple [.agg [.int .i64 g1, .int .i64 g2, .int .i64 g3, .int .i64 g4], .int .i64 (op-g1), .bool true]):=cf
  have cd:=division_v (op-g1)
  simp only
  generalize Ss.division (op-g1)=dv at *
  refine jb (c:=jf Tryz.f83) Tryz.func83 rfl rfl (by simp [Tryz.ntmps83]) ?_
  rw [Tryz.ntmps83]
  intro hwf
  repeat (first|refine QG ?_|refine QY ?_)
  repeat refine QS ?_
  refine QP ?_
  refine jc (cf') (by rfl) ?_
  refine QM (by conv=>lhs;simp[-List.map_set,QV]) ?_
  refine QN ?_
  by_cases h3:g3=3
  ·repeat (first|refine QG ?_|refine QY ?_ (r:=by conv=>lhs;simp[-List.map_set,QV,h3]))
   repeat refine QS ?_
   refine QP ?_ (r:=by conv=>lhs;simp[-List.map_set,QV,h3])
   refine jc (cd) (by rfl) ?_
   refine QM (by conv=>lhs;simp[-List.map_set,QV]) ?_
   refine QN ?_
   repeat (first|refine QG ?_|refine QY ?_)
   exact ja hwf (by simp [h3]) rfl
  ·repeat (first|refine QG ?_|refine QY ?_ (r:=by conv=>lhs;simp[-List.map_set,QV,h3]))
   exact ja hwf (by simp [h3]) rfl
theorem Pure_v (op:Int) (ho:Ss.I64 op):VPure Tryz.prog 31 [vint op] (.bool (Ss.pure op)):=by
 intro S
 have ct:=Total_v op ho
 unfold Ss.pure
 generalize Ss.total op=x at *
 refine jb (c:=jf Tryz.f31) Tryz.func31 rfl rfl (by simp [Tryz.ntmps31]) ?_
 rw [Tryz.ntmps31]
 intro hwf
 by_cases h1:op=256
 ·repeat (first|refine QG ?_|refine QY ?_ (r:=by conv=>lhs;simp[-List.map_set,QV,h1]))
  exact ja hwf (by simp [h1]) rfl
 by_cases h2:op=27
 ·repeat (first|refine QG ?_|refine QY ?_ (r:=by conv=>lhs;simp[-List.map_set,QV,h1,h2]))
  exact ja hwf (by simp [h2]) rfl
 repeat (first|refine QG ?_|refine QY ?_ (r:=by conv=>lhs;simp[-List.map_set,QV,h1,h2]))
 repeat refine QS ?_
 refine QP ?_ (r:=by conv=>lhs;simp[-List.map_set,QV,h1,h2])
 refine jc (ct) (by rfl) ?_
 refine QM (by conv=>lhs;simp[-List.map_set,QV]) ?_
 refine QN ?_
 repeat (first|refine QG ?_|refine QY ?_)
 exact ja hwf (by simp [h1,h2]) rfl
theorem NumSig_v (op:Int) (ho:Ss.I64 op):VPure Tryz.prog 133 [vint op] (.tuple [vl vint (Ss.numSig op).1,vint (Ss.numSig op).2.1, .bool (Ss.numSig op).2.2]):=by
 intro S
 have cf:=find_v op ho
 unfold Ss.numSig
 cases hf:Ss.find op with
 | none =>
  rw [hf] at cf
  have cf':VPure Tryz.prog 117 [vint op] (.tuple [.agg [.int .i64 0, .int .i64 0, .int .i64 0, .int .i64 0], .int .i64 0, .bool false]):=cf
  refine jb (c:=jf Tryz.f133) Tryz.func133 rfl rfl (by simp [Tryz.ntmps133]) ?_
  rw [Tryz.ntmps133]
  intro hwf
  repeat (first|refine QG ?_|refine QY ?_)
  repeat refine QS ?_
  refine QP ?_
  refine jc (cf') (by rfl) ?_
  refine QM (by conv=>lhs;simp[-List.map_set,QV]) ?_
  refine QN ?_
  repeat (first|refine QG ?_|refine QY ?_)
  exact jh (l:=[_]) hwf (Ghost.toB (Ghost.tuple [] [_,_] (Ghost.nils_list _)) _) rfl
 | some g =>
  rw [hf] at cf
  obtain ⟨g1,g2,g3,g4⟩:=g
  have cf':VPure Tryz.prog 117 [vint op] (.tuple [.agg [.int .i64 g1, .int .i64 g2, .int .i64 g3, .int .i64 g4], .int .i64 (op-g1), .bool true]):=cf
  simp only
  by_cases h1:g3=1
  ·subst h1
   have hX:Ss.Grp.ins ⟨g1,g2,1,g4⟩=[g4,g4]∧Ss.Grp.out ⟨g1,g2,1,g4⟩=127:=by simp [Ss.Grp.ins,Ss.Grp.out]
   rw [hX.1,hX.2]
   refine jb (c:=jf Tryz.f133) Tryz.func133 rfl rfl (by simp [Tryz.ntmps133]) ?_
   rw [Tryz.ntmps133]
   intro hwf
   repeat (first|refine QG ?_|refine QY ?_)
   repeat refine QS ?_
   refine QP ?_
   refine jc (cf') (by rfl) ?_
   refine QM (by conv=>lhs;simp[-List.map_set,QV]) ?_
   refine QN ?_
   repeat (first|refine QG ?_|refine QY ?_)
   repeat refine QS ?_
   refine jQ (St S [] [some (4,[.int .i64 g1, .int .i64 g2, .int .i64 1, .int .i64 g4])]) (St S [] [some (4,[.int .i64 g1, .int .i64 g2, .int .i64 1, .int .i64 g4])]) [] rfl (by kernel_rfl) (by conv=>lhs; reduce) (by conv=>lhs; reduce) (by kernel_rfl) (by kernel_rfl) (jv (by simp [subU,shpU,subL,shpL])) (by conv=>lhs; simp [-List.map_set,QV]) ?_
   refine jg rfl (by conv=>lhs;simp[-List.map_set,QV]) (jv (by simp [subU,shpU,subL,shpL])) ?_
   refine QM (by conv=>lhs;simp[-List.map_set,QV]) ?_
   refine QN ?_
   repeat (first|refine QG ?_|refine QY ?_)
   exact jh hwf ((Ghost.tuple [] [_,_] (frz1 (k:=3) (by simp) (by rfl) (by rfl) (by rfl))).toB _) rfl
  by_cases h3:g3=3
  ·subst h3
   have hX:Ss.Grp.ins ⟨g1,g2,3,g4⟩=[g4,g4]∧Ss.Grp.out ⟨g1,g2,3,g4⟩=g4:=by simp [Ss.Grp.ins,Ss.Grp.out]
   rw [hX.1,hX.2]
   refine jb (c:=jf Tryz.f133) Tryz.func133 rfl rfl (by simp [Tryz.ntmps133]) ?_
   rw [Tryz.ntmps133]
   intro hwf
   repeat (first|refine QG ?_|refine QY ?_)
   repeat refine QS ?_
   refine QP ?_
   refine jc (cf') (by rfl) ?_
   refine QM (by conv=>lhs;simp[-List.map_set,QV]) ?_
   refine QN ?_
   repeat (first|refine QG ?_|refine QY ?_)
   repeat refine QS ?_
   refine jQ (St S [] [some (4,[.int .i64 g1, .int .i64 g2, .int .i64 3, .int .i64 g4])]) (St S [] [some (4,[.int .i64 g1, .int .i64 g2, .int .i64 3, .int .i64 g4])]) [] rfl (by kernel_rfl) (by conv=>lhs; reduce) (by conv=>lhs; reduce) (by kernel_rfl) (by kernel_rfl) (jv (by simp [subU,shpU,subL,shpL])) (by conv=>lhs; simp [-List.map_set,QV]) ?_
   refine jg rfl (by conv=>lhs;simp[-List.map_set,QV]) (jv (by simp [subU,shpU,subL,shpL])) ?_
   refine QM (by conv=>lhs;simp[-List.map_set,QV]) ?_
   refine QN ?_
   repeat (first|refine QG ?_|refine QY ?_)
   exact jh hwf ((Ghost.tuple [] [_,_] (frz1 (k:=3) (by simp) (by rfl) (by rfl) (by rfl))).toB _) rfl
  by_cases h0:g3=0
  ·subst h0
   have hX:Ss.Grp.ins ⟨g1,g2,0,g4⟩=[g4]∧Ss.Grp.out ⟨g1,g2,0,g4⟩=127:=by simp [Ss.Grp.ins,Ss.Grp.out]
   rw [hX.1,hX.2]
   refine jb (c:=jf Tryz.f133) Tryz.func133 rfl rfl (by simp [Tryz.ntmps133]) ?_
   rw [Tryz.ntmps133]
   intro hwf
   repeat (first|refine QG ?_|refine QY ?_)
   repeat refine QS ?_
   refine QP ?_
   refine jc (cf') (by rfl) ?_
   refine QM (by conv=>lhs;simp[-List.map_set,QV]) ?_
   refine QN ?_
   repeat (first|refine QG ?_|refine QY ?_)
   repeat refine QS ?_
   refine jQ (St S [] [some (4,[.int .i64 g1, .int .i64 g2, .int .i64 0, .int .i64 g4])]) (St S [] [some (4,[.int .i64 g1, .int .i64 g2, .int .i64 0, .int .i64 g4])]) [] rfl (by kernel_rfl) (by conv=>lhs; reduce) (by conv=>lhs; reduce) (by kernel_rfl) (by kernel_rfl) (jv (by simp [subU,shpU,subL,shpL])) (by conv=>lhs; simp [-List.map_set,QV]) ?_
   refine jg rfl (by conv=>lhs;simp[-List.map_set,QV]) (jv (by simp [subU,shpU,subL,shpL])) ?_
   refine QM (by conv=>lhs;simp[-List.map_set,QV]) ?_
   refine QN ?_
   repeat (first|refine QG ?_|refine QY ?_)
   exact jh hwf ((Ghost.tuple [] [_,_] (frz1 (k:=1) (by simp) (by rfl) (by rfl) (by rfl))).toB _) rfl
  by_cases h4:g3=4
  ·subst h4
   have hX:Ss.Grp.ins ⟨g1,g2,4,g4⟩=[g4]∧Ss.Grp.out ⟨g1,g2,4,g4⟩=127:=by simp [Ss.Grp.ins,Ss.Grp.out]
   rw [hX.1,hX.2]
   refine jb (c:=jf Tryz.f133) Tryz.func133 rfl rfl (by simp [Tryz.ntmps133]) ?_
   rw [Tryz.ntmps133]
   intro hwf
   repeat (first|refine QG ?_|refine QY ?_)
   repeat refine QS ?_
   refine QP ?_
   refine jc (cf') (by rfl) ?_
   refine QM (by conv=>lhs;simp[-List.map_set,QV]) ?_
   refine QN ?_
   repeat (first|refine QG ?_|refine QY ?_)
   repeat refine QS ?_
   refine jQ (St S [] [some (4,[.int .i64 g1, .int .i64 g2, .int .i64 4, .int .i64 g4])]) (St S [] [some (4,[.int .i64 g1, .int .i64 g2, .int .i64 4, .int .i64 g4])]) [] rfl (by kernel_rfl) (by conv=>lhs; reduce) (by conv=>lhs; reduce) (by kernel_rfl) (by kernel_rfl) (jv (by simp [subU,shpU,subL,shpL])) (by conv=>lhs; simp [-List.map_set,QV]) ?_
   refine jg rfl (by conv=>lhs;simp[-List.map_set,QV]) (jv (by simp [subU,shpU,subL,shpL])) ?_
   refine QM (by conv=>lhs;simp[-List.map_set,QV]) ?_
   refine QN ?_
   repeat (first|refine QG ?_|refine QY ?_)
   exact jh hwf ((Ghost.tuple [] [_,_] (frz1 (k:=1) (by simp) (by rfl) (by rfl) (by rfl))).toB _) rfl
  by_cases h5:g3=5
  ·subst h5
   have hX:Ss.Grp.ins ⟨g1,g2,5,g4⟩=[g4]∧Ss.Grp.out ⟨g1,g2,5,g4⟩=126:=by simp [Ss.Grp.ins,Ss.Grp.out]
   rw [hX.1,hX.2]
   refine jb (c:=jf Tryz.f133) Tryz.func133 rfl rfl (by simp [Tryz.ntmps133]) ?_
   rw [Tryz.ntmps133]
   intro hwf
   repeat (first|refine QG ?_|refine QY ?_)
   repeat refine QS ?_
   refine QP ?_
   refine jc (cf') (by rfl) ?_
   refine QM (by conv=>lhs;simp[-List.map_set,QV]) ?_
   refine QN ?_
   repeat (first|refine QG ?_|refine QY ?_)
   repeat refine QS ?_
   refine jQ (St S [] [some (4,[.int .i64 g1, .int .i64 g2, .int .i64 5, .int .i64 g4])]) (St S [] [some (4,[.int .i64 g1, .int .i64 g2, .int .i64 5, .int .i64 g4])]) [] rfl (by kernel_rfl) (by conv=>lhs; reduce) (by conv=>lhs; reduce) (by kernel_rfl) (by kernel_rfl) (jv (by simp [subU,shpU,subL,shpL])) (by conv=>lhs; simp [-List.map_set,QV]) ?_
   refine jg rfl (by conv=>lhs;simp[-List.map_set,QV]) (jv (by simp [subU,shpU,subL,shpL])) ?_
   refine QM (by conv=>lhs;simp[-List.map_set,QV]) ?_
   refine QN ?_
   repeat (first|refine QG ?_|refine QY ?_)
   exact jh hwf ((Ghost.tuple [] [_,_] (frz1 (k:=1) (by simp) (by rfl) (by rfl) (by rfl))).toB _) rfl
  have hX:Ss.Grp.ins ⟨g1,g2,g3,g4⟩=[g4]∧Ss.Grp.out ⟨g1,g2,g3,g4⟩=g4:=by simp [Ss.Grp.ins,Ss.Grp.out,h1,h3,h0,h4,h5]
  rw [hX.1,hX.2]
  refine jb (c:=jf Tryz.f133) Tryz.func133 rfl rfl (by simp [Tryz.ntmps133]) ?_
  rw [Tryz.ntmps133]
  intro hwf
  repeat (first|refine QG ?_|refine QY ?_)
  repeat refine QS ?_
  refine QP ?_
  refine jc (cf') (by rfl) ?_
  refine QM (by conv=>lhs;simp[-List.map_set,QV]) ?_
  refine QN ?_
  repeat (first|refine QG ?_|refine QY ?_ (r:=by conv=>lhs;simp[-List.map_set,QV,h1,h3,h0,h4,h5]))
  repeat refine QS ?_
  refine jQ (St S [] [some (4,[.int .i64 g1, .int .i64 g2, .int .i64 g3, .int .i64 g4])]) (St S [] [some (4,[.int .i64 g1, .int .i64 g2, .int .i64 g3, .int .i64 g4])]) [] rfl (by kernel_rfl) (by conv=>lhs; reduce) (by conv=>lhs; reduce) (by kernel_rfl) (by kernel_rfl) (jv (by simp [subU,shpU,subL,shpL])) (by conv=>lhs; simp [-List.map_set,QV,h1,h3,h0,h4,h5]) ?_
  refine jg rfl (by conv=>lhs;simp[-List.map_set,QV]) (jv (by simp [subU,shpU,subL,shpL])) ?_
  refine QM (by conv=>lhs;simp[-List.map_set,QV]) ?_
  refine QN ?_
  repeat (first|refine QG ?_|refine QY ?_ (r:=by conv=>lhs;simp[-List.map_set,QV,h1,h3,h0,h4,h5]))
  exact jh hwf ((Ghost.tuple [] [_,_] (frz1 (k:=1) (by simp) (by rfl) (by rfl) (by rfl))).toB _) rfl
end Go.Vw

namespace Ss
structure Acc where
 kind:Int
 width:Int
 store:Bool
 signed:Bool
deriving DecidableEq,Inhabited
def accL:List (Int × Acc):=[(40,⟨127,4,false,false⟩),(41,⟨126,8,false,false⟩),(44,⟨127,1,false,true⟩),(45,⟨127,1,false,false⟩),(46,⟨127,2,false,true⟩),(47,⟨127,2,false,false⟩),(48,⟨126,1,false,true⟩),(49,⟨126,1,false,false⟩),(50,⟨126,2,false,true⟩),(51,⟨126,2,false,false⟩),(52,⟨126,4,false,true⟩),(53,⟨126,4,false,false⟩),(54,⟨127,4,true,false⟩),(55,⟨126,8,true,false⟩),(58,⟨127,1,true,false⟩),(59,⟨127,2,true,false⟩),(60,⟨126,1,true,false⟩),(61,⟨126,2,true,false⟩),(62,⟨126,4,true,false⟩)]
def findK {α:Type} (n:Int):List (Int × α)→Option α
 | []=>none
 | (k,v)::r=>if n=k then some v else findK n r
def accOf (op:Int):Option Acc:=findK op accL
end Ss
namespace Go.Vw
open Go.Proofs Go.RowKit
set_option maxRecDepth 10000
set_option maxHeartbeats 4000000
def jaT (a:Ss.Acc):V := .agg [vint a.kind,vint a.width, .bool a.store, .bool a.signed]
theorem encAcc_eq (a:Ss.Acc):jaT a = .agg [vint a.kind,vint a.width, .bool a.store, .bool a.signed]:=nr rfl
attribute [simp] encAcc_eq
def mapI {α:Type} (enc:α→V) (L:List (Int × α)):List V:=L.map fun p => .tuple [.int .i64 p.1,enc p.2]
theorem jaO {α:Type} (enc:α→V) (n:Int) : ∀ (L:List (Int × α)) (i:Nat),(Ss.findK n L=none∧qZ (.int .i64 n) (mapI enc L) i=some none) ∨ ∃ j v,Ss.findK n L=some v∧qZ (.int .i64 n) (mapI enc L) i=some (some (i+j,enc v))
 | [],i => .inl ⟨rfl,rfl⟩
 | (k,v)::L,i=>by
  by_cases e:n=k
  ·subst e
   exact .inr ⟨0,v,by simp [Ss.findK],by simp [mapI,qZ,zp]⟩
  ·have e':(n==k)=false:=by simp [e]
   have h0:qZ (.int .i64 n) (mapI enc ((k,v)::L)) i=qZ (.int .i64 n) (mapI enc L) (i+1):=by
    show (match zp (.int .i64 n) (.int .i64 k) with | some true=>_ | some false=>_ | none=>_)=_
    simp only [zp,if_true,e']
    rfl
   have h1:Ss.findK n ((k,v)::L)=Ss.findK n L:=by simp [Ss.findK,e]
   rcases jaO enc n L (i+1) with ⟨h2,h3⟩ | ⟨j,w,h2,h3⟩
   ·exact .inl ⟨h1.trans h2,h0.trans h3⟩
   ·exact .inr ⟨j+1,w,h1.trans h2,by rw [h0,h3]; simp; omega⟩
theorem jbz {α:Type} {enc:α→V} {z:V} {S:Store} {o:Nat} {n:Int} {L:List (Int × α)} (h:S.get o=some (0,mapI enc L)):qO z true S (.map o) (.int .i64 n)=some (match Ss.findK n L with | some v => .tuple [enc v, .bool true] | none => .tuple [z, .bool false]):=by
 simp only [qO,h]
 rcases jaO enc n L 0 with ⟨h2,h3⟩ | ⟨j,w,h2,h3⟩
 ·simp [h2,h3]
 ·simp [h2,h3]
def updC (S:Store) (o:Nat) (n:Int) (v:V) (cells:List V):Option (Option (Nat × V))→Option Store
 | some none=>some (S.upd o (0,cells++[.tuple [.int .i64 n,v]]))
 | some (some (j,_))=>some (S.upd o (0,cells.set j (.tuple [.int .i64 n,v])))
 | none=>none
def updM (S:Store) (o:Nat) (n:Int) (v:V):Option (Nat × List V)→Option Store
 | some (0,cells)=>updC S o n v cells (qZ (.int .i64 n) cells 0)
 | _=>none
theorem WV {S:Store} {o:Nat} {n:Int} {v:V} {cells:List V} (h:S.get o=some (0,cells)):qq S (.map o) (.int .i64 n) v=updC S o n v cells (qZ (.int .i64 n) cells 0):=by
 simp only [qq,h]
 cases qZ (.int .i64 n) cells 0 with
 | none=>rfl
 | some r=>cases r with
  | none=>rfl
  | some p=>rfl
theorem updC_new (S:Store) (o:Nat) (n:Int) (v:V) (cells:List V):updC S o n v cells (some none)=some (S.upd o (0,cells++[.tuple [.int .i64 n,v]])):=nr rfl
theorem lookV_nil (k:V) (i:Nat):qZ k [] i=some none:=nr rfl
theorem lookV_cons64 (n m:Int) (v:V) (r:List V) (i:Nat):qZ (.int .i64 n) (.tuple [.int .i64 m,v]::r) i=if n=m then some (some (i,v)) else qZ (.int .i64 n) r (i+1):=by
 by_cases e:n=m
 ·subst e; simp [qZ,zp]
 ·have e':(n==m)=false:=by simp [e]
  rw [if_neg e]
  show (match zp (.int .i64 n) (.int .i64 m) with | some true=>_ | some false=>_ | none=>_)=_
  simp only [zp,if_true,e']
theorem acc_cells:mapI jaT Ss.accL=[.tuple [.int .i64 40, .agg [.int .i64 127, .int .i64 4, .bool false, .bool false]], .tuple [.int .i64 41, .agg [.int .i64 126, .int .i64 8, .bool false, .bool false]], .tuple [.int .i64 44, .agg [.int .i64 127, .int .i64 1, .bool false, .bool true]], .tuple [.int .i64 45, .agg [.int .i64 127, .int .i64 1, .bool false, .bool false]], .tuple [.int .i64 46, .agg [.int .i64 127, .int .i64 2, .bool false, .bool true]], .tuple [.int .i64 47, .agg [.int .i64 127, .int .i64 2, .bool false, .bool false]], .tuple [.int .i64 48, .agg [.int .i64 126, .int .i64 1, .bool false, .bool true]], .tuple [.int .i64 49, .agg [.int .i64 126, .int .i64 1, .bool false, .bool false]], .tuple [.int .i64 50, .agg [.int .i64 126, .int .i64 2, .bool false, .bool true]], .tuple [.int .i64 51, .agg [.int .i64 126, .int .i64 2, .bool false, .bool false]], .tuple [.int .i64 52, .agg [.int .i64 126, .int .i64 4, .bool false, .bool true]], .tuple [.int .i64 53, .agg [.int .i64 126, .int .i64 4, .bool false, .bool false]], .tuple [.int .i64 54, .agg [.int .i64 127, .int .i64 4, .bool true, .bool false]], .tuple [.int .i64 55, .agg [.int .i64 126, .int .i64 8, .bool true, .bool false]], .tuple [.int .i64 58, .agg [.int .i64 127, .int .i64 1, .bool true, .bool false]], .tuple [.int .i64 59, .agg [.int .i64 127, .int .i64 2, .bool true, .bool false]], .tuple [.int .i64 60, .agg [.int .i64 126, .int .i64 1, .bool true, .bool false]], .tuple [.int .i64 61, .agg [.int .i64 126, .int .i64 2, .bool true, .bool false]], .tuple [.int .i64 62, .agg [.int .i64 126, .int .i64 4, .bool true, .bool false]]]:=rfl
theorem accesses_v (S:Store):VCalls Tryz.prog 146 [] S fun r T=>r = .map (lid S.nx 0)∧T=St S [] [some (0,mapI jaT Ss.accL)]:=by
 rw [acc_cells]
 refine jb (c:=jf Tryz.f146) Tryz.func146 rfl rfl (by simp [Tryz.ntmps146]) ?_
 rw [Tryz.ntmps146]
 intro hwf
 have hmu:=fun (S:Store) (o:Nat) (n:Int) (v:V) (cells:List V) (h:S.get o=some (0,cells))=>WV (n:=n) (v:=v) h
 repeat (first|refine QG ?_|refine QY ?_ (r:=by conv=>lhs;simp[-List.map_set,QV,hmu,updC_new,lookV_nil,lookV_cons64]))
 exact zD ⟨by simp,rfl⟩
theorem Access_v (op:Int):VPure Tryz.prog 134 [vint op] (.tuple [vint ((Ss.accOf op).getD ⟨0,0,false,false⟩).kind,vint ((Ss.accOf op).getD ⟨0,0,false,false⟩).width, .bool ((Ss.accOf op).getD ⟨0,0,false,false⟩).store, .bool (Ss.accOf op).isSome]):=by
 intro S
 have ca:=accesses_v
 have hlk : ∀ (S:Store) (o:Nat),S.get o=some (0,mapI jaT Ss.accL)→qO (.agg [.int .i64 0, .int .i64 0, .bool false, .bool false]) true S (.map o) (.int .i64 op)=some (match Ss.accOf op with | some v => .tuple [jaT v, .bool true] | none => .tuple [.agg [.int .i64 0, .int .i64 0, .bool false, .bool false], .bool false]):=fun S o h=>by
  have h1:=jbz (z := .agg [.int .i64 0, .int .i64 0, .bool false, .bool false]) (n:=op) h
  unfold Ss.accOf
  cases hh:Ss.findK op Ss.accL<;>rw [hh] at h1<;>exact h1
 generalize mapI jaT Ss.accL=cells at *
 cases hf:Ss.accOf op with
 | none =>
  rw [hf] at hlk
  simp only at hlk
  refine jb (c:=jf Tryz.f134) Tryz.func134 rfl rfl (by simp [Tryz.ntmps134]) ?_
  rw [Tryz.ntmps134]
  intro hwf
  repeat (first|refine QG ?_|refine QY ?_)
  repeat refine QS ?_
  refine QP ?_
  refine qd (xs:=[]) rfl (ca _) ?_
  rintro X S' ⟨rfl,rfl⟩
  rw [qF hwf]
  refine QM (by conv=>lhs;simp[-List.map_set,QV,hlk]) ?_
  refine QN ?_
  repeat (first|refine QG ?_|refine QY ?_)
  exact ja hwf (by simp) rfl
 | some a =>
  obtain ⟨a1,a2,a3,a4⟩:=a
  rw [hf] at hlk
  have hlk' : ∀ (S:Store) (o:Nat),S.get o=some (0,cells)→qO (.agg [.int .i64 0, .int .i64 0, .bool false, .bool false]) true S (.map o) (.int .i64 op)=some (.tuple [.agg [.int .i64 a1, .int .i64 a2, .bool a3, .bool a4], .bool true]):=hlk
  refine jb (c:=jf Tryz.f134) Tryz.func134 rfl rfl (by simp [Tryz.ntmps134]) ?_
  rw [Tryz.ntmps134]
  intro hwf
  repeat (first|refine QG ?_|refine QY ?_)
  repeat refine QS ?_
  refine QP ?_
  refine qd (xs:=[]) rfl (ca _) ?_
  rintro X S' ⟨rfl,rfl⟩
  rw [qF hwf]
  refine QM (by conv=>lhs;simp[-List.map_set,QV,hlk']) ?_
  refine QN ?_
  repeat (first|refine QG ?_|refine QY ?_)
  exact ja hwf (by simp) rfl
end Go.Vw
