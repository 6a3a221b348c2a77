import Derived.Test.YtenhhokhkkfgbaaGreatC18
/-
  Part of the proof (texts SNum, SNum2, SMem).
-/
set_option linter.unusedVariables false
set_option linter.unusedSimpArgs false
namespace Ss
structure Grp where
 first:Int
 many:Int
 kind:Int
 ty:Int
deriving DecidableEq,Inhabited
def groups:List Grp:=[⟨69,1,0,127⟩,⟨70,10,1,127⟩,⟨80,1,0,126⟩,⟨81,10,1,126⟩,⟨103,3,2,127⟩,⟨106,15,3,127⟩,⟨121,3,2,126⟩,⟨124,15,3,126⟩,⟨167,1,4,126⟩,⟨172,2,5,127⟩,⟨192,2,6,127⟩,⟨194,3,6,126⟩]
def Grp.has (op:Int) (g:Grp):Bool:=decide (g.first≤op)&&decide (op-g.first<g.many)
def findIn (op:Int):List Grp→Option Grp
 | []=>none
 | g::gs=>if g.has op then some g else findIn op gs
def find (op:Int):Option Grp:=findIn op groups
theorem findIn_mem {op:Int} {g:Grp} : ∀ {gs:List Grp},findIn op gs=some g→g∈gs∧g.has op=true
 | [],h=>by simp [findIn] at h
 | x::xs,h=>by
  simp only [findIn] at h
  split at h
  ·rename_i hx; cases h; exact ⟨by simp,hx⟩
  ·obtain ⟨h1,h2⟩:=findIn_mem h; exact ⟨by simp [h1],h2⟩
def division (k:Int):Bool:=decide (3≤k)&&decide (k≤6)
def total (op:Int):Bool:=match find op with
 | some g => !(decide (g.kind=3)&&division (op-g.first))
 | none=>false
def pure (op:Int):Bool:=decide (op=256)||decide (op=27)||total op
def Grp.ins (g:Grp):List Int:=if g.kind=1∨g.kind=3 then [g.ty,g.ty] else [g.ty]
def Grp.out (g:Grp):Int:=if g.kind=0∨g.kind=1∨g.kind=4 then 127 else if g.kind=5 then 126 else g.ty
def numSig (op:Int):List Int × Int × Bool:=match find op with
 | some g=>(g.ins,g.out,true)
 | none=>([],0,false)
end Ss
namespace Go.Vw
open Go.Proofs Go.RowKit
set_option maxRecDepth 10000
set_option maxHeartbeats 2000000
def encGrp (g:Ss.Grp):V := .agg [vint g.first,vint g.many,vint g.kind,vint g.ty]
theorem encGrp_eq (g:Ss.Grp):encGrp g = .agg [vint g.first,vint g.many,vint g.kind,vint g.ty]:=nr rfl
theorem encGrp_nc (g:Ss.Grp):(encGrp g).ncells=4:=nr rfl
theorem encGrp_closed (g:Ss.Grp):(encGrp g).closed=true:=rfl
attribute [simp] encGrp_eq encGrp_nc
theorem groups_v:VPure Tryz.prog 131 [] (vl encGrp Ss.groups):=by
 intro S
 refine vcalls_start (c:=bodyOf Tryz.f131) Tryz.func131 rfl rfl (by simp [Tryz.ntmps131]) ?_
 rw [Tryz.ntmps131]
 intro hwf
 have hr:rep0 [V.int .i64 0, .int .i64 0, .int .i64 0, .int .i64 0] 12=[.int .i64 0, .int .i64 0, .int .i64 0, .int .i64 0, .int .i64 0, .int .i64 0, .int .i64 0, .int .i64 0, .int .i64 0, .int .i64 0, .int .i64 0, .int .i64 0, .int .i64 0, .int .i64 0, .int .i64 0, .int .i64 0, .int .i64 0, .int .i64 0, .int .i64 0, .int .i64 0, .int .i64 0, .int .i64 0, .int .i64 0, .int .i64 0, .int .i64 0, .int .i64 0, .int .i64 0, .int .i64 0, .int .i64 0, .int .i64 0, .int .i64 0, .int .i64 0, .int .i64 0, .int .i64 0, .int .i64 0, .int .i64 0, .int .i64 0, .int .i64 0, .int .i64 0, .int .i64 0, .int .i64 0, .int .i64 0, .int .i64 0, .int .i64 0, .int .i64 0, .int .i64 0, .int .i64 0, .int .i64 0]:=rfl
 repeat (first|refine QG ?_|refine QX (r:=by conv=>lhs;simp[-List.map_set,QV,hr]) (k:=?_))
 exact done_via (l:=[none]) hwf (Ghost.toB (frzSt (k:=0) (enc:=encGrp) (s:=4) (fun _=>rfl) encGrp_closed Ss.groups (by simp) (by rfl)) _) rfl
def findV (op:Int):Option Ss.Grp→V
 | some g => .tuple [encGrp g,vint (op-g.first), .bool true]
 | none => .tuple [encGrp ⟨0,0,0,0⟩,vint 0, .bool false]
theorem find_v (op:Int) (ho:Ss.I64 op):VPure Tryz.prog 107 [vint op] (findV op (Ss.find op)):=by
 intro S
 have hgs : ∀ g∈Ss.groups,0≤g.first∧g.first≤1000∧0≤g.many∧g.many≤1000:=by decide
 have hlen:Ss.groups.length=12:=rfl
 have cg:=groups_v
 unfold Ss.find
 generalize Ss.groups=gs at *
 obtain ⟨ho1,ho2⟩:=ho
 refine vcalls_startC (c:=bodyOf Tryz.f107) Tryz.func107 rfl (by conv=>lhs; reduce) (by simp [Tryz.ntmps107]) ?_
 rw [Tryz.ntmps107]
 intro hwf
 repeat (first|refine QG ?_|refine QX (r:=by conv=>lhs;simp[-List.map_set,QV]) (k:=?_))
 repeat refine QS ?_
 refine QR (r:=by conv=>lhs;simp[-List.map_set,QV]) (k:=?_)
 refine vcall_useH (cg) (by rfl) ?_
 refine QM (by conv=>lhs;simp[-List.map_set,QV]) ?_
 refine QN ?_
 repeat (first|refine QG ?_|refine QX (r:=by conv=>lhs;simp[-List.map_set,QV]) (k:=?_))
 repeat refine QS ?_
 refine vw_loopAt [0,2,7,8,9] rfl (fun c σ S' => ∃ (k:Nat),k≤gs.length∧c=gs.length-k∧Ss.findIn op (gs.drop k)=Ss.findIn op gs∧σ=[(0,vint op),(2, .ptr (lid S.nx 0) 0),(7,vl encGrp gs),(8,vnat gs.length),(9,vnat k)]∧S'=St S [] [some (4,[.int .i64 0, .int .i64 0, .int .i64 0, .int .i64 0])]) gs.length ?_ ?_
 ·exact ⟨0,by omega,rfl,rfl,by simp [Fr.only],rfl⟩
 ·rintro c σ T ⟨k,hk,rfl,hd,rfl,rfl⟩
  by_cases hkt:k<gs.length
  ·have hw:=wrapNat hkt (by omega)
   have hst:Ss.findIn op (gs.drop k)=if gs[k].has op then some gs[k] else Ss.findIn op (gs.drop (k+1)):=by rw [List.drop_eq_getElem_cons hkt,Ss.findIn]
   have hgk:=hgs _ (List.getElem_mem hkt)
   obtain ⟨⟨g1,g2,g3,g4⟩,hx⟩ : ∃ g,gs[k]=g:=⟨_,rfl⟩
   rw [hx] at hst hgk
   simp only at hgk
   by_cases h1:g1≤op
   ·have hws:IntKind.i64.wrap (op-g1)=op-g1:=wrap_i64 (by omega) (by omega)
    by_cases h2:op-g1<g2
    ·have hst':Ss.findIn op gs=some ⟨g1,g2,g3,g4⟩:=by rw [←hd,hst]; simp [Ss.Grp.has,h1,h2]
     rw [hst']
     repeat (first|refine QG ?_|refine QX (r:=by conv=>lhs;simp[-List.map_set,QV,hkt,hx,h1,h2,hws]) (k:=?_))
     repeat refine QS ?_
     refine vw_drawW (St S [] [none,some (4,[.int .i64 g1, .int .i64 g2, .int .i64 g3, .int .i64 g4])]) (St S [] [none,some (4,[.int .i64 g1, .int .i64 g2, .int .i64 g3, .int .i64 g4])]) [] rfl (by kernel_rfl) (by conv=>lhs; reduce) (by conv=>lhs; reduce) (by kernel_rfl) (by kernel_rfl) (ok_St (by simp [subU,shpU,subL,shpL])) (by conv=>lhs; simp [-List.map_set,QV,hws]) ?_
     refine vseg_write rfl (by conv=>lhs;simp[-List.map_set,QV]) (ok_St (by simp [subU,shpU,subL,shpL])) ?_
     refine QM (by conv=>lhs;simp[-List.map_set,QV,hws]) ?_
     refine QN ?_
     repeat (first|refine QG ?_|refine QX (r:=by conv=>lhs;simp[-List.map_set,QV]) (k:=?_))
     exact doneC (by simp; rfl) (done_pure hwf (by simp [findV]) rfl)
    ·rw [show Ss.Grp.has op ⟨g1,g2,g3,g4⟩=false by simp [Ss.Grp.has,h1,h2]] at hst
     repeat (first|refine QG ?_|refine QX (r:=by conv=>lhs;simp[-List.map_set,QV,hkt,hx,h1,h2,hws]) (k:=?_))
     refine QA [0] (h:=⟨?_,k+1,hkt,rfl,by rw [←hd,hst]; rfl,by simp [hw],rfl⟩)
     omega
   ·rw [show Ss.Grp.has op ⟨g1,g2,g3,g4⟩=false by simp [Ss.Grp.has,h1]] at hst
    repeat (first|refine QG ?_|refine QX (r:=by conv=>lhs;simp[-List.map_set,QV,hkt,hx,h1]) (k:=?_))
    refine QA [0] (h:=⟨?_,k+1,hkt,rfl,by rw [←hd,hst]; rfl,by simp [hw],rfl⟩)
    omega
  ·have e:gs.drop k=[]:=by rw [List.drop_eq_nil_iff]; omega
   rw [e] at hd
   have hd':Ss.findIn op gs=none:=by rw [←hd]; rfl
   rw [hd']
   repeat (first|refine QG ?_|refine QX (r:=by conv=>lhs;simp[-List.map_set,QV,hkt]) (k:=?_))
   exact doneC (by simp; rfl) (done_pure hwf (by simp [findV]) rfl)
end Go.Vw

namespace Go.Vw
open Go.Proofs Go.RowKit
set_option maxRecDepth 10000
set_option maxHeartbeats 2000000
theorem division_v (k:Int):VPure Tryz.prog 108 [vint k] (.bool (Ss.division k)):=by
 intro S
 refine vcalls_start (c:=bodyOf Tryz.f108) Tryz.func108 rfl rfl (by simp [Tryz.ntmps108]) ?_
 rw [Tryz.ntmps108]
 intro hwf
 by_cases h:3≤k
 ·by_cases h2:k≤6
  ·repeat (first|refine QG ?_|refine QX (r:=by conv=>lhs;simp[-List.map_set,QV,h,h2]) (k:=?_))
   exact done_pure hwf (by simp [Ss.division,h,h2]) rfl
  ·repeat (first|refine QG ?_|refine QX (r:=by conv=>lhs;simp[-List.map_set,QV,h,h2]) (k:=?_))
   exact done_pure hwf (by simp [Ss.division,h2]) rfl
 ·repeat (first|refine QG ?_|refine QX (r:=by conv=>lhs;simp[-List.map_set,QV,h]) (k:=?_))
  exact done_pure hwf (by simp [Ss.division,h]) rfl
theorem Total_v (op:Int) (ho:Ss.I64 op):VPure Tryz.prog 73 [vint op] (.bool (Ss.total op)):=by
 intro S
 have cf:=find_v op ho
 unfold Ss.total
 cases hf:Ss.find op with
 | none =>
  rw [hf] at cf
  have cf':VPure Tryz.prog 107 [vint op] (.tuple [.agg [.int .i64 0, .int .i64 0, .int .i64 0, .int .i64 0], .int .i64 0, .bool false]):=cf
  refine vcalls_start (c:=bodyOf Tryz.f73) Tryz.func73 rfl rfl (by simp [Tryz.ntmps73]) ?_
  rw [Tryz.ntmps73]
  intro hwf
  repeat (first|refine QG ?_|refine QX (r:=by conv=>lhs;simp[-List.map_set,QV]) (k:=?_))
  repeat refine QS ?_
  refine QR (r:=by conv=>lhs;simp[-List.map_set,QV]) (k:=?_)
  refine vcall_useH (cf') (by rfl) ?_
  refine QM (by conv=>lhs;simp[-List.map_set,QV]) ?_
  refine QN ?_
  repeat (first|refine QG ?_|refine QX (r:=by conv=>lhs;simp[-List.map_set,QV]) (k:=?_))
  exact done_pure hwf (by simp) rfl
 | some g =>
  rw [hf] at cf
  obtain ⟨g1,g2,g3,g4⟩:=g
  have cf':VPure Tryz.prog 107 [vint op] (.tuple [.agg [.int .i64 g1, .int .i64 g2, .int .i64 g3, .int .i64 g4], .int .i64 (op-g1), .bool true]):=cf
  have cd:=division_v (op-g1)
  simp only
  generalize Ss.division (op-g1)=dv at *
  refine vcalls_start (c:=bodyOf Tryz.f73) Tryz.func73 rfl rfl (by simp [Tryz.ntmps73]) ?_
  rw [Tryz.ntmps73]
  intro hwf
  repeat (first|refine QG ?_|refine QX (r:=by conv=>lhs;simp[-List.map_set,QV]) (k:=?_))
  repeat refine QS ?_
  refine QR (r:=by conv=>lhs;simp[-List.map_set,QV]) (k:=?_)
  refine vcall_useH (cf') (by rfl) ?_
  refine QM (by conv=>lhs;simp[-List.map_set,QV]) ?_
  refine QN ?_
  by_cases h3:g3=3
  ·repeat (first|refine QG ?_|refine QX (r:=by conv=>lhs;simp[-List.map_set,QV,h3]) (k:=?_))
   repeat refine QS ?_
   refine QR (r:=by conv=>lhs;simp[-List.map_set,QV,h3]) (k:=?_)
   refine vcall_useH (cd) (by rfl) ?_
   refine QM (by conv=>lhs;simp[-List.map_set,QV]) ?_
   refine QN ?_
   repeat (first|refine QG ?_|refine QX (r:=by conv=>lhs;simp[-List.map_set,QV]) (k:=?_))
   exact done_pure hwf (by simp [h3]) rfl
  ·repeat (first|refine QG ?_|refine QX (r:=by conv=>lhs;simp[-List.map_set,QV,h3]) (k:=?_))
   exact done_pure hwf (by simp [h3]) rfl
theorem Pure_v (op:Int) (ho:Ss.I64 op):VPure Tryz.prog 29 [vint op] (.bool (Ss.pure op)):=by
 intro S
 have ct:=Total_v op ho
 unfold Ss.pure
 generalize Ss.total op=x at *
 refine vcalls_start (c:=bodyOf Tryz.f29) Tryz.func29 rfl rfl (by simp [Tryz.ntmps29]) ?_
 rw [Tryz.ntmps29]
 intro hwf
 by_cases h1:op=256
 ·repeat (first|refine QG ?_|refine QX (r:=by conv=>lhs;simp[-List.map_set,QV,h1]) (k:=?_))
  exact done_pure hwf (by simp [h1]) rfl
 by_cases h2:op=27
 ·repeat (first|refine QG ?_|refine QX (r:=by conv=>lhs;simp[-List.map_set,QV,h1,h2]) (k:=?_))
  exact done_pure hwf (by simp [h2]) rfl
 repeat (first|refine QG ?_|refine QX (r:=by conv=>lhs;simp[-List.map_set,QV,h1,h2]) (k:=?_))
 repeat refine QS ?_
 refine QR (r:=by conv=>lhs;simp[-List.map_set,QV,h1,h2]) (k:=?_)
 refine vcall_useH (ct) (by rfl) ?_
 refine QM (by conv=>lhs;simp[-List.map_set,QV]) ?_
 refine QN ?_
 repeat (first|refine QG ?_|refine QX (r:=by conv=>lhs;simp[-List.map_set,QV]) (k:=?_))
 exact done_pure hwf (by simp [h1,h2]) rfl
theorem NumSig_v (op:Int) (ho:Ss.I64 op):VPure Tryz.prog 126 [vint op] (.tuple [vl vint (Ss.numSig op).1,vint (Ss.numSig op).2.1, .bool (Ss.numSig op).2.2]):=by
 intro S
 have cf:=find_v op ho
 unfold Ss.numSig
 cases hf:Ss.find op with
 | none =>
  rw [hf] at cf
  have cf':VPure Tryz.prog 107 [vint op] (.tuple [.agg [.int .i64 0, .int .i64 0, .int .i64 0, .int .i64 0], .int .i64 0, .bool false]):=cf
  refine vcalls_start (c:=bodyOf Tryz.f126) Tryz.func126 rfl rfl (by simp [Tryz.ntmps126]) ?_
  rw [Tryz.ntmps126]
  intro hwf
  repeat (first|refine QG ?_|refine QX (r:=by conv=>lhs;simp[-List.map_set,QV]) (k:=?_))
  repeat refine QS ?_
  refine QR (r:=by conv=>lhs;simp[-List.map_set,QV]) (k:=?_)
  refine vcall_useH (cf') (by rfl) ?_
  refine QM (by conv=>lhs;simp[-List.map_set,QV]) ?_
  refine QN ?_
  repeat (first|refine QG ?_|refine QX (r:=by conv=>lhs;simp[-List.map_set,QV]) (k:=?_))
  exact done_via (l:=[_]) hwf (Ghost.toB (Ghost.tuple [] [_,_] (Ghost.nils_list _)) _) rfl
 | some g =>
  rw [hf] at cf
  obtain ⟨g1,g2,g3,g4⟩:=g
  have cf':VPure Tryz.prog 107 [vint op] (.tuple [.agg [.int .i64 g1, .int .i64 g2, .int .i64 g3, .int .i64 g4], .int .i64 (op-g1), .bool true]):=cf
  simp only
  by_cases h1:g3=1
  ·subst h1
   have hX:Ss.Grp.ins ⟨g1,g2,1,g4⟩=[g4,g4]∧Ss.Grp.out ⟨g1,g2,1,g4⟩=127:=by simp [Ss.Grp.ins,Ss.Grp.out]
   rw [hX.1,hX.2]
   refine vcalls_start (c:=bodyOf Tryz.f126) Tryz.func126 rfl rfl (by simp [Tryz.ntmps126]) ?_
   rw [Tryz.ntmps126]
   intro hwf
   repeat (first|refine QG ?_|refine QX (r:=by conv=>lhs;simp[-List.map_set,QV]) (k:=?_))
   repeat refine QS ?_
   refine QR (r:=by conv=>lhs;simp[-List.map_set,QV]) (k:=?_)
   refine vcall_useH (cf') (by rfl) ?_
   refine QM (by conv=>lhs;simp[-List.map_set,QV]) ?_
   refine QN ?_
   repeat (first|refine QG ?_|refine QX (r:=by conv=>lhs;simp[-List.map_set,QV]) (k:=?_))
   repeat refine QS ?_
   refine vw_drawW (St S [] [some (4,[.int .i64 g1, .int .i64 g2, .int .i64 1, .int .i64 g4])]) (St S [] [some (4,[.int .i64 g1, .int .i64 g2, .int .i64 1, .int .i64 g4])]) [] rfl (by kernel_rfl) (by conv=>lhs; reduce) (by conv=>lhs; reduce) (by kernel_rfl) (by kernel_rfl) (ok_St (by simp [subU,shpU,subL,shpL])) (by conv=>lhs; simp [-List.map_set,QV]) ?_
   refine vseg_write rfl (by conv=>lhs;simp[-List.map_set,QV]) (ok_St (by simp [subU,shpU,subL,shpL])) ?_
   refine QM (by conv=>lhs;simp[-List.map_set,QV]) ?_
   refine QN ?_
   repeat (first|refine QG ?_|refine QX (r:=by conv=>lhs;simp[-List.map_set,QV]) (k:=?_))
   exact done_via hwf ((Ghost.tuple [] [_,_] (frz1 (k:=3) (by simp) (by rfl) (by rfl) (by rfl))).toB _) rfl
  by_cases h3:g3=3
  ·subst h3
   have hX:Ss.Grp.ins ⟨g1,g2,3,g4⟩=[g4,g4]∧Ss.Grp.out ⟨g1,g2,3,g4⟩=g4:=by simp [Ss.Grp.ins,Ss.Grp.out]
   rw [hX.1,hX.2]
   refine vcalls_start (c:=bodyOf Tryz.f126) Tryz.func126 rfl rfl (by simp [Tryz.ntmps126]) ?_
   rw [Tryz.ntmps126]
   intro hwf
   repeat (first|refine QG ?_|refine QX (r:=by conv=>lhs;simp[-List.map_set,QV]) (k:=?_))
   repeat refine QS ?_
   refine QR (r:=by conv=>lhs;simp[-List.map_set,QV]) (k:=?_)
   refine vcall_useH (cf') (by rfl) ?_
   refine QM (by conv=>lhs;simp[-List.map_set,QV]) ?_
   refine QN ?_
   repeat (first|refine QG ?_|refine QX (r:=by conv=>lhs;simp[-List.map_set,QV]) (k:=?_))
   repeat refine QS ?_
   refine vw_drawW (St S [] [some (4,[.int .i64 g1, .int .i64 g2, .int .i64 3, .int .i64 g4])]) (St S [] [some (4,[.int .i64 g1, .int .i64 g2, .int .i64 3, .int .i64 g4])]) [] rfl (by kernel_rfl) (by conv=>lhs; reduce) (by conv=>lhs; reduce) (by kernel_rfl) (by kernel_rfl) (ok_St (by simp [subU,shpU,subL,shpL])) (by conv=>lhs; simp [-List.map_set,QV]) ?_
   refine vseg_write rfl (by conv=>lhs;simp[-List.map_set,QV]) (ok_St (by simp [subU,shpU,subL,shpL])) ?_
   refine QM (by conv=>lhs;simp[-List.map_set,QV]) ?_
   refine QN ?_
   repeat (first|refine QG ?_|refine QX (r:=by conv=>lhs;simp[-List.map_set,QV]) (k:=?_))
   exact done_via hwf ((Ghost.tuple [] [_,_] (frz1 (k:=3) (by simp) (by rfl) (by rfl) (by rfl))).toB _) rfl
  by_cases h0:g3=0
  ·subst h0
   have hX:Ss.Grp.ins ⟨g1,g2,0,g4⟩=[g4]∧Ss.Grp.out ⟨g1,g2,0,g4⟩=127:=by simp [Ss.Grp.ins,Ss.Grp.out]
   rw [hX.1,hX.2]
   refine vcalls_start (c:=bodyOf Tryz.f126) Tryz.func126 rfl rfl (by simp [Tryz.ntmps126]) ?_
   rw [Tryz.ntmps126]
   intro hwf
   repeat (first|refine QG ?_|refine QX (r:=by conv=>lhs;simp[-List.map_set,QV]) (k:=?_))
   repeat refine QS ?_
   refine QR (r:=by conv=>lhs;simp[-List.map_set,QV]) (k:=?_)
   refine vcall_useH (cf') (by rfl) ?_
   refine QM (by conv=>lhs;simp[-List.map_set,QV]) ?_
   refine QN ?_
   repeat (first|refine QG ?_|refine QX (r:=by conv=>lhs;simp[-List.map_set,QV]) (k:=?_))
   repeat refine QS ?_
   refine vw_drawW (St S [] [some (4,[.int .i64 g1, .int .i64 g2, .int .i64 0, .int .i64 g4])]) (St S [] [some (4,[.int .i64 g1, .int .i64 g2, .int .i64 0, .int .i64 g4])]) [] rfl (by kernel_rfl) (by conv=>lhs; reduce) (by conv=>lhs; reduce) (by kernel_rfl) (by kernel_rfl) (ok_St (by simp [subU,shpU,subL,shpL])) (by conv=>lhs; simp [-List.map_set,QV]) ?_
   refine vseg_write rfl (by conv=>lhs;simp[-List.map_set,QV]) (ok_St (by simp [subU,shpU,subL,shpL])) ?_
   refine QM (by conv=>lhs;simp[-List.map_set,QV]) ?_
   refine QN ?_
   repeat (first|refine QG ?_|refine QX (r:=by conv=>lhs;simp[-List.map_set,QV]) (k:=?_))
   exact done_via hwf ((Ghost.tuple [] [_,_] (frz1 (k:=1) (by simp) (by rfl) (by rfl) (by rfl))).toB _) rfl
  by_cases h4:g3=4
  ·subst h4
   have hX:Ss.Grp.ins ⟨g1,g2,4,g4⟩=[g4]∧Ss.Grp.out ⟨g1,g2,4,g4⟩=127:=by simp [Ss.Grp.ins,Ss.Grp.out]
   rw [hX.1,hX.2]
   refine vcalls_start (c:=bodyOf Tryz.f126) Tryz.func126 rfl rfl (by simp [Tryz.ntmps126]) ?_
   rw [Tryz.ntmps126]
   intro hwf
   repeat (first|refine QG ?_|refine QX (r:=by conv=>lhs;simp[-List.map_set,QV]) (k:=?_))
   repeat refine QS ?_
   refine QR (r:=by conv=>lhs;simp[-List.map_set,QV]) (k:=?_)
   refine vcall_useH (cf') (by rfl) ?_
   refine QM (by conv=>lhs;simp[-List.map_set,QV]) ?_
   refine QN ?_
   repeat (first|refine QG ?_|refine QX (r:=by conv=>lhs;simp[-List.map_set,QV]) (k:=?_))
   repeat refine QS ?_
   refine vw_drawW (St S [] [some (4,[.int .i64 g1, .int .i64 g2, .int .i64 4, .int .i64 g4])]) (St S [] [some (4,[.int .i64 g1, .int .i64 g2, .int .i64 4, .int .i64 g4])]) [] rfl (by kernel_rfl) (by conv=>lhs; reduce) (by conv=>lhs; reduce) (by kernel_rfl) (by kernel_rfl) (ok_St (by simp [subU,shpU,subL,shpL])) (by conv=>lhs; simp [-List.map_set,QV]) ?_
   refine vseg_write rfl (by conv=>lhs;simp[-List.map_set,QV]) (ok_St (by simp [subU,shpU,subL,shpL])) ?_
   refine QM (by conv=>lhs;simp[-List.map_set,QV]) ?_
   refine QN ?_
   repeat (first|refine QG ?_|refine QX (r:=by conv=>lhs;simp[-List.map_set,QV]) (k:=?_))
   exact done_via hwf ((Ghost.tuple [] [_,_] (frz1 (k:=1) (by simp) (by rfl) (by rfl) (by rfl))).toB _) rfl
  by_cases h5:g3=5
  ·subst h5
   have hX:Ss.Grp.ins ⟨g1,g2,5,g4⟩=[g4]∧Ss.Grp.out ⟨g1,g2,5,g4⟩=126:=by simp [Ss.Grp.ins,Ss.Grp.out]
   rw [hX.1,hX.2]
   refine vcalls_start (c:=bodyOf Tryz.f126) Tryz.func126 rfl rfl (by simp [Tryz.ntmps126]) ?_
   rw [Tryz.ntmps126]
   intro hwf
   repeat (first|refine QG ?_|refine QX (r:=by conv=>lhs;simp[-List.map_set,QV]) (k:=?_))
   repeat refine QS ?_
   refine QR (r:=by conv=>lhs;simp[-List.map_set,QV]) (k:=?_)
   refine vcall_useH (cf') (by rfl) ?_
   refine QM (by conv=>lhs;simp[-List.map_set,QV]) ?_
   refine QN ?_
   repeat (first|refine QG ?_|refine QX (r:=by conv=>lhs;simp[-List.map_set,QV]) (k:=?_))
   repeat refine QS ?_
   refine vw_drawW (St S [] [some (4,[.int .i64 g1, .int .i64 g2, .int .i64 5, .int .i64 g4])]) (St S [] [some (4,[.int .i64 g1, .int .i64 g2, .int .i64 5, .int .i64 g4])]) [] rfl (by kernel_rfl) (by conv=>lhs; reduce) (by conv=>lhs; reduce) (by kernel_rfl) (by kernel_rfl) (ok_St (by simp [subU,shpU,subL,shpL])) (by conv=>lhs; simp [-List.map_set,QV]) ?_
   refine vseg_write rfl (by conv=>lhs;simp[-List.map_set,QV]) (ok_St (by simp [subU,shpU,subL,shpL])) ?_
   refine QM (by conv=>lhs;simp[-List.map_set,QV]) ?_
   refine QN ?_
   repeat (first|refine QG ?_|refine QX (r:=by conv=>lhs;simp[-List.map_set,QV]) (k:=?_))
   exact done_via hwf ((Ghost.tuple [] [_,_] (frz1 (k:=1) (by simp) (by rfl) (by rfl) (by rfl))).toB _) rfl
  have hX:Ss.Grp.ins ⟨g1,g2,g3,g4⟩=[g4]∧Ss.Grp.out ⟨g1,g2,g3,g4⟩=g4:=by simp [Ss.Grp.ins,Ss.Grp.out,h1,h3,h0,h4,h5]
  rw [hX.1,hX.2]
  refine vcalls_start (c:=bodyOf Tryz.f126) Tryz.func126 rfl rfl (by simp [Tryz.ntmps126]) ?_
  rw [Tryz.ntmps126]
  intro hwf
  repeat (first|refine QG ?_|refine QX (r:=by conv=>lhs;simp[-List.map_set,QV]) (k:=?_))
  repeat refine QS ?_
  refine QR (r:=by conv=>lhs;simp[-List.map_set,QV]) (k:=?_)
  refine vcall_useH (cf') (by rfl) ?_
  refine QM (by conv=>lhs;simp[-List.map_set,QV]) ?_
  refine QN ?_
  repeat (first|refine QG ?_|refine QX (r:=by conv=>lhs;simp[-List.map_set,QV,h1,h3,h0,h4,h5]) (k:=?_))
  repeat refine QS ?_
  refine vw_drawW (St S [] [some (4,[.int .i64 g1, .int .i64 g2, .int .i64 g3, .int .i64 g4])]) (St S [] [some (4,[.int .i64 g1, .int .i64 g2, .int .i64 g3, .int .i64 g4])]) [] rfl (by kernel_rfl) (by conv=>lhs; reduce) (by conv=>lhs; reduce) (by kernel_rfl) (by kernel_rfl) (ok_St (by simp [subU,shpU,subL,shpL])) (by conv=>lhs; simp [-List.map_set,QV,h1,h3,h0,h4,h5]) ?_
  refine vseg_write rfl (by conv=>lhs;simp[-List.map_set,QV]) (ok_St (by simp [subU,shpU,subL,shpL])) ?_
  refine QM (by conv=>lhs;simp[-List.map_set,QV]) ?_
  refine QN ?_
  repeat (first|refine QG ?_|refine QX (r:=by conv=>lhs;simp[-List.map_set,QV,h1,h3,h0,h4,h5]) (k:=?_))
  exact done_via hwf ((Ghost.tuple [] [_,_] (frz1 (k:=1) (by simp) (by rfl) (by rfl) (by rfl))).toB _) rfl
end Go.Vw

namespace Ss
structure Acc where
 kind:Int
 width:Int
 store:Bool
 signed:Bool
deriving DecidableEq,Inhabited
def accL:List (Int × Acc):=[(40,⟨127,4,false,false⟩),(41,⟨126,8,false,false⟩),(44,⟨127,1,false,true⟩),(45,⟨127,1,false,false⟩),(46,⟨127,2,false,true⟩),(47,⟨127,2,false,false⟩),(48,⟨126,1,false,true⟩),(49,⟨126,1,false,false⟩),(50,⟨126,2,false,true⟩),(51,⟨126,2,false,false⟩),(52,⟨126,4,false,true⟩),(53,⟨126,4,false,false⟩),(54,⟨127,4,true,false⟩),(55,⟨126,8,true,false⟩),(58,⟨127,1,true,false⟩),(59,⟨127,2,true,false⟩),(60,⟨126,1,true,false⟩),(61,⟨126,2,true,false⟩),(62,⟨126,4,true,false⟩)]
def findK {α:Type} (n:Int):List (Int × α)→Option α
 | []=>none
 | (k,v)::r=>if n=k then some v else findK n r
def accOf (op:Int):Option Acc:=findK op accL
end Ss
namespace Go.Vw
open Go.Proofs Go.RowKit
set_option maxRecDepth 10000
set_option maxHeartbeats 4000000
def encAcc (a:Ss.Acc):V := .agg [vint a.kind,vint a.width, .bool a.store, .bool a.signed]
theorem encAcc_eq (a:Ss.Acc):encAcc a = .agg [vint a.kind,vint a.width, .bool a.store, .bool a.signed]:=nr rfl
attribute [simp] encAcc_eq
def mapI {α:Type} (enc:α→V) (L:List (Int × α)):List V:=L.map fun p => .tuple [.int .i64 p.1,enc p.2]
theorem lookV_mapI {α:Type} (enc:α→V) (n:Int) : ∀ (L:List (Int × α)) (i:Nat),(Ss.findK n L=none∧lookV (.int .i64 n) (mapI enc L) i=some none) ∨ ∃ j v,Ss.findK n L=some v∧lookV (.int .i64 n) (mapI enc L) i=some (some (i+j,enc v))
 | [],i => .inl ⟨rfl,rfl⟩
 | (k,v)::L,i=>by
  by_cases e:n=k
  ·subst e
   exact .inr ⟨0,v,by simp [Ss.findK],by simp [mapI,lookV,keySame]⟩
  ·have e':(n==k)=false:=by simp [e]
   have h0:lookV (.int .i64 n) (mapI enc ((k,v)::L)) i=lookV (.int .i64 n) (mapI enc L) (i+1):=by
    show (match keySame (.int .i64 n) (.int .i64 k) with | some true=>_ | some false=>_ | none=>_)=_
    simp only [keySame,if_true,e']
    rfl
   have h1:Ss.findK n ((k,v)::L)=Ss.findK n L:=by simp [Ss.findK,e]
   rcases lookV_mapI enc n L (i+1) with ⟨h2,h3⟩ | ⟨j,w,h2,h3⟩
   ·exact .inl ⟨h1.trans h2,h0.trans h3⟩
   ·exact .inr ⟨j+1,w,h1.trans h2,by rw [h0,h3]; simp; omega⟩
theorem opLookup_mapI {α:Type} {enc:α→V} {z:V} {S:Store} {o:Nat} {n:Int} {L:List (Int × α)} (h:S.get o=some (0,mapI enc L)):opLookup z true S (.map o) (.int .i64 n)=some (match Ss.findK n L with | some v => .tuple [enc v, .bool true] | none => .tuple [z, .bool false]):=by
 simp only [opLookup,h]
 rcases lookV_mapI enc n L 0 with ⟨h2,h3⟩ | ⟨j,w,h2,h3⟩
 ·simp [h2,h3]
 ·simp [h2,h3]
def updC (S:Store) (o:Nat) (n:Int) (v:V) (cells:List V):Option (Option (Nat × V))→Option Store
 | some none=>some (S.upd o (0,cells++[.tuple [.int .i64 n,v]]))
 | some (some (j,_))=>some (S.upd o (0,cells.set j (.tuple [.int .i64 n,v])))
 | none=>none
def updM (S:Store) (o:Nat) (n:Int) (v:V):Option (Nat × List V)→Option Store
 | some (0,cells)=>updC S o n v cells (lookV (.int .i64 n) cells 0)
 | _=>none
theorem opMapUpdate_steps {S:Store} {o:Nat} {n:Int} {v:V} {cells:List V} (h:S.get o=some (0,cells)):opMapUpdate S (.map o) (.int .i64 n) v=updC S o n v cells (lookV (.int .i64 n) cells 0):=by
 simp only [opMapUpdate,h]
 cases lookV (.int .i64 n) cells 0 with
 | none=>rfl
 | some r=>cases r with
  | none=>rfl
  | some p=>rfl
theorem updC_new (S:Store) (o:Nat) (n:Int) (v:V) (cells:List V):updC S o n v cells (some none)=some (S.upd o (0,cells++[.tuple [.int .i64 n,v]])):=nr rfl
theorem lookV_nil (k:V) (i:Nat):lookV k [] i=some none:=nr rfl
theorem lookV_cons64 (n m:Int) (v:V) (r:List V) (i:Nat):lookV (.int .i64 n) (.tuple [.int .i64 m,v]::r) i=if n=m then some (some (i,v)) else lookV (.int .i64 n) r (i+1):=by
 by_cases e:n=m
 ·subst e; simp [lookV,keySame]
 ·have e':(n==m)=false:=by simp [e]
  rw [if_neg e]
  show (match keySame (.int .i64 n) (.int .i64 m) with | some true=>_ | some false=>_ | none=>_)=_
  simp only [keySame,if_true,e']
theorem acc_cells:mapI encAcc Ss.accL=[.tuple [.int .i64 40, .agg [.int .i64 127, .int .i64 4, .bool false, .bool false]], .tuple [.int .i64 41, .agg [.int .i64 126, .int .i64 8, .bool false, .bool false]], .tuple [.int .i64 44, .agg [.int .i64 127, .int .i64 1, .bool false, .bool true]], .tuple [.int .i64 45, .agg [.int .i64 127, .int .i64 1, .bool false, .bool false]], .tuple [.int .i64 46, .agg [.int .i64 127, .int .i64 2, .bool false, .bool true]], .tuple [.int .i64 47, .agg [.int .i64 127, .int .i64 2, .bool false, .bool false]], .tuple [.int .i64 48, .agg [.int .i64 126, .int .i64 1, .bool false, .bool true]], .tuple [.int .i64 49, .agg [.int .i64 126, .int .i64 1, .bool false, .bool false]], .tuple [.int .i64 50, .agg [.int .i64 126, .int .i64 2, .bool false, .bool true]], .tuple [.int .i64 51, .agg [.int .i64 126, .int .i64 2, .bool false, .bool false]], .tuple [.int .i64 52, .agg [.int .i64 126, .int .i64 4, .bool false, .bool true]], .tuple [.int .i64 53, .agg [.int .i64 126, .int .i64 4, .bool false, .bool false]], .tuple [.int .i64 54, .agg [.int .i64 127, .int .i64 4, .bool true, .bool false]], .tuple [.int .i64 55, .agg [.int .i64 126, .int .i64 8, .bool true, .bool false]], .tuple [.int .i64 58, .agg [.int .i64 127, .int .i64 1, .bool true, .bool false]], .tuple [.int .i64 59, .agg [.int .i64 127, .int .i64 2, .bool true, .bool false]], .tuple [.int .i64 60, .agg [.int .i64 126, .int .i64 1, .bool true, .bool false]], .tuple [.int .i64 61, .agg [.int .i64 126, .int .i64 2, .bool true, .bool false]], .tuple [.int .i64 62, .agg [.int .i64 126, .int .i64 4, .bool true, .bool false]]]:=rfl
theorem accesses_v (S:Store):VCalls Tryz.prog 139 [] S fun r T=>r = .map (lid S.nx 0)∧T=St S [] [some (0,mapI encAcc Ss.accL)]:=by
 rw [acc_cells]
 refine vcalls_start (c:=bodyOf Tryz.f139) Tryz.func139 rfl rfl (by simp [Tryz.ntmps139]) ?_
 rw [Tryz.ntmps139]
 intro hwf
 have hmu:=fun (S:Store) (o:Nat) (n:Int) (v:V) (cells:List V) (h:S.get o=some (0,cells))=>opMapUpdate_steps (n:=n) (v:=v) h
 repeat (first|refine QG ?_|refine QX (r:=by conv=>lhs;simp[-List.map_set,QV,hmu,updC_new,lookV_nil,lookV_cons64]) (k:=?_))
 exact done_as ⟨by simp,rfl⟩
theorem Access_v (op:Int):VPure Tryz.prog 127 [vint op] (.tuple [vint ((Ss.accOf op).getD ⟨0,0,false,false⟩).kind,vint ((Ss.accOf op).getD ⟨0,0,false,false⟩).width, .bool ((Ss.accOf op).getD ⟨0,0,false,false⟩).store, .bool (Ss.accOf op).isSome]):=by
 intro S
 have ca:=accesses_v
 have hlk : ∀ (S:Store) (o:Nat),S.get o=some (0,mapI encAcc Ss.accL)→opLookup (.agg [.int .i64 0, .int .i64 0, .bool false, .bool false]) true S (.map o) (.int .i64 op)=some (match Ss.accOf op with | some v => .tuple [encAcc v, .bool true] | none => .tuple [.agg [.int .i64 0, .int .i64 0, .bool false, .bool false], .bool false]):=fun S o h=>by
  have h1:=opLookup_mapI (z := .agg [.int .i64 0, .int .i64 0, .bool false, .bool false]) (n:=op) h
  unfold Ss.accOf
  cases hh:Ss.findK op Ss.accL<;>rw [hh] at h1<;>exact h1
 generalize mapI encAcc Ss.accL=cells at *
 cases hf:Ss.accOf op with
 | none =>
  rw [hf] at hlk
  simp only at hlk
  refine vcalls_start (c:=bodyOf Tryz.f127) Tryz.func127 rfl rfl (by simp [Tryz.ntmps127]) ?_
  rw [Tryz.ntmps127]
  intro hwf
  repeat (first|refine QG ?_|refine QX (r:=by conv=>lhs;simp[-List.map_set,QV]) (k:=?_))
  repeat refine QS ?_
  refine QR (r:=by conv=>lhs;simp[-List.map_set,QV]) (k:=?_)
  refine vcall_any (xs:=[]) rfl (ca _) ?_
  rintro X S' ⟨rfl,rfl⟩
  rw [St_nil hwf]
  refine QM (by conv=>lhs;simp[-List.map_set,QV,hlk]) ?_
  refine QN ?_
  repeat (first|refine QG ?_|refine QX (r:=by conv=>lhs;simp[-List.map_set,QV]) (k:=?_))
  exact done_pure hwf (by simp) rfl
 | some a =>
  obtain ⟨a1,a2,a3,a4⟩:=a
  rw [hf] at hlk
  have hlk' : ∀ (S:Store) (o:Nat),S.get o=some (0,cells)→opLookup (.agg [.int .i64 0, .int .i64 0, .bool false, .bool false]) true S (.map o) (.int .i64 op)=some (.tuple [.agg [.int .i64 a1, .int .i64 a2, .bool a3, .bool a4], .bool true]):=hlk
  refine vcalls_start (c:=bodyOf Tryz.f127) Tryz.func127 rfl rfl (by simp [Tryz.ntmps127]) ?_
  rw [Tryz.ntmps127]
  intro hwf
  repeat (first|refine QG ?_|refine QX (r:=by conv=>lhs;simp[-List.map_set,QV]) (k:=?_))
  repeat refine QS ?_
  refine QR (r:=by conv=>lhs;simp[-List.map_set,QV]) (k:=?_)
  refine vcall_any (xs:=[]) rfl (ca _) ?_
  rintro X S' ⟨rfl,rfl⟩
  rw [St_nil hwf]
  refine QM (by conv=>lhs;simp[-List.map_set,QV,hlk']) ?_
  refine QN ?_
  repeat (first|refine QG ?_|refine QX (r:=by conv=>lhs;simp[-List.map_set,QV]) (k:=?_))
  exact done_pure hwf (by simp) rfl
end Go.Vw
