import Derived.Test.YtenhhokhkkfgbaaGreatC13
/- Part of the proof. -/
set_option linter.unusedVariables false
set_option linter.unusedSimpArgs false
set_option maxRecDepth 10000
set_option maxHeartbeats 4000000
namespace Ss
structure Acc where
 kind:Int
 width:Int
 store:Bool
 signed:Bool
deriving DecidableEq,Inhabited
def accL:List (Int × Acc):=[(40,⟨127,4,false,false⟩),(41,⟨126,8,false,false⟩),(44,⟨127,1,false,true⟩),(45,⟨127,1,false,false⟩),(46,⟨127,2,false,true⟩),(47,⟨127,2,false,false⟩),(48,⟨126,1,false,true⟩),(49,⟨126,1,false,false⟩),(50,⟨126,2,false,true⟩),(51,⟨126,2,false,false⟩),(52,⟨126,4,false,true⟩),(53,⟨126,4,false,false⟩),(54,⟨127,4,true,false⟩),(55,⟨126,8,true,false⟩),(58,⟨127,1,true,false⟩),(59,⟨127,2,true,false⟩),(60,⟨126,1,true,false⟩),(61,⟨126,2,true,false⟩),(62,⟨126,4,true,false⟩)]
def findK {α:Type} (n:Int):List (Int × α)->Option α
 | []=>none
 | (k,v)::r=>if n=k then some v else findK n r
def accOf (op:Int):Option Acc:=findK op accL
end Ss
namespace Go.Vw
open Go.Proofs Go.RowKit
attribute [-simp] List.map_set
def jbQ (a:Ss.Acc):V := .agg [vint a.kind,vint a.width, .bool a.store, .bool a.signed]
theorem encAcc_eq (a:Ss.Acc):jbQ a = .agg [vint a.kind,vint a.width, .bool a.store, .bool a.signed]:=nr rfl
attribute [simp] encAcc_eq
def mapI {α:Type} (enc:α->V) (L:List (Int × α)):List V:=L.map fun p => .tuple [.int .i64 p.1,enc p.2]
theorem jbK {α:Type} (enc:α->V) (n:Int) : ∀ (L:List (Int × α)) (i:Nat),(Ss.findK n L=none/\zp (.int .i64 n) (mapI enc L) i=some none) \/ ∃ j v,Ss.findK n L=some v/\zp (.int .i64 n) (mapI enc L) i=some (some (i+j,enc v))
 | [],i => .inl ⟨rfl,rfl⟩
 | (k,v)::L,i=>by
  by_cases e:n=k
  ·subst e;exact .inr ⟨0,v,by simp [Ss.findK],by simp [mapI,zp,zF]⟩
  ·have e':(n==k)=false:=by simp [e]
   have h0:zp (.int .i64 n) (mapI enc ((k,v)::L)) i=zp (.int .i64 n) (mapI enc L) (i+1):=by
    show (match zF (.int .i64 n) (.int .i64 k) with | some true=>_ | some false=>_ | none=>_)=_;simp only [zF,if_true,e']
    rfl
   have h1:Ss.findK n ((k,v)::L)=Ss.findK n L:=by simp [Ss.findK,e]
   rcases jbK enc n L (i+1) with ⟨h2,h3⟩ | ⟨j,w,h2,h3⟩
   ·exact .inl ⟨h1.trans h2,h0.trans h3⟩
   ·exact .inr ⟨j+1,w,h1.trans h2,by rw [h0,h3]; simp; omega⟩
theorem jcB {α:Type} {enc:α->V} {z:V} {S:Store} {o:Nat} {n:Int} {L:List (Int × α)} (h:S.get o=some (0,mapI enc L)):qW z true S (.map o) (.int .i64 n)=some (match Ss.findK n L with | some v => .tuple [enc v, .bool true] | none => .tuple [z, .bool false]):=by
 simp only [qW,h];rcases jbK enc n L 0 with ⟨h2,h3⟩ | ⟨j,w,h2,h3⟩
 ·simp [h2,h3]
 ·simp [h2,h3]
def updC (S:Store) (o:Nat) (n:Int) (v:V) (cells:List V):Option (Option (Nat × V))->Option Store
 | some none=>some (S.upd o (0,cells++[.tuple [.int .i64 n,v]]))
 | some (some (j,_))=>some (S.upd o (0,cells.set j (.tuple [.int .i64 n,v])))
 | none=>none
theorem Yw {S:Store} {o:Nat} {n:Int} {v:V} {cells:List V} (h:S.get o=some (0,cells)):qq S (.map o) (.int .i64 n) v=updC S o n v cells (zp (.int .i64 n) cells 0):=by
 simp only [qq,h]
 cases zp (.int .i64 n) cells 0 with
 | none=>rfl
 | some r=>cases r with
  | none=>rfl
  | some p=>rfl
theorem updC_new (S:Store) (o:Nat) (n:Int) (v:V) (cells:List V):updC S o n v cells (some none)=some (S.upd o (0,cells++[.tuple [.int .i64 n,v]])):=nr rfl
theorem lookV_nil (k:V) (i:Nat):zp k [] i=some none:=nr rfl
theorem lookV_cons64 (n m:Int) (v:V) (r:List V) (i:Nat):zp (.int .i64 n) (.tuple [.int .i64 m,v]::r) i=if n=m then some (some (i,v)) else zp (.int .i64 n) r (i+1):=by
 by_cases e:n=m
 ·subst e; simp [zp,zF]
 ·have e':(n==m)=false:=by simp [e]
  rw [if_neg e];show (match zF (.int .i64 n) (.int .i64 m) with | some true=>_ | some false=>_ | none=>_)=_;simp only [zF,if_true,e']
theorem acc_cells:mapI jbQ Ss.accL=[.tuple [.int .i64 40, .agg [.int .i64 127, .int .i64 4, .bool false, .bool false]], .tuple [.int .i64 41, .agg [.int .i64 126, .int .i64 8, .bool false, .bool false]], .tuple [.int .i64 44, .agg [.int .i64 127, .int .i64 1, .bool false, .bool true]], .tuple [.int .i64 45, .agg [.int .i64 127, .int .i64 1, .bool false, .bool false]], .tuple [.int .i64 46, .agg [.int .i64 127, .int .i64 2, .bool false, .bool true]], .tuple [.int .i64 47, .agg [.int .i64 127, .int .i64 2, .bool false, .bool false]], .tuple [.int .i64 48, .agg [.int .i64 126, .int .i64 1, .bool false, .bool true]], .tuple [.int .i64 49, .agg [.int .i64 126, .int .i64 1, .bool false, .bool false]], .tuple [.int .i64 50, .agg [.int .i64 126, .int .i64 2, .bool false, .bool true]], .tuple [.int .i64 51, .agg [.int .i64 126, .int .i64 2, .bool false, .bool false]], .tuple [.int .i64 52, .agg [.int .i64 126, .int .i64 4, .bool false, .bool true]], .tuple [.int .i64 53, .agg [.int .i64 126, .int .i64 4, .bool false, .bool false]], .tuple [.int .i64 54, .agg [.int .i64 127, .int .i64 4, .bool true, .bool false]], .tuple [.int .i64 55, .agg [.int .i64 126, .int .i64 8, .bool true, .bool false]], .tuple [.int .i64 58, .agg [.int .i64 127, .int .i64 1, .bool true, .bool false]], .tuple [.int .i64 59, .agg [.int .i64 127, .int .i64 2, .bool true, .bool false]], .tuple [.int .i64 60, .agg [.int .i64 126, .int .i64 1, .bool true, .bool false]], .tuple [.int .i64 61, .agg [.int .i64 126, .int .i64 2, .bool true, .bool false]], .tuple [.int .i64 62, .agg [.int .i64 126, .int .i64 4, .bool true, .bool false]]]:=rfl
theorem accesses_v (S:Store):bU 139 [] S fun r T=>r = .map (lid S.nx 0)/\T=St S [] [some (0,mapI jbQ Ss.accL)]:=by
 rw [acc_cells];refine QB (c:=jc Tryz.f139) Tryz.func139 Tryz.ntmps139 fun hwf=>?_
 have hmu:=fun (S:Store) (o:Nat) (n:Int) (v:V) (cells:List V) (h:S.get o=some (0,cells))=>Yw (n:=n) (v:=v) h
 repeat first|refine QG ?_|refine QY ?_ (r:=by conv=>lhs;simp[QV,hmu,updC_new,lookV_nil,lookV_cons64])
 exact zi ⟨by simp,rfl⟩
theorem Access_v (op:Int):bS 127 [vint op] (.tuple [vint ((Ss.accOf op).getD ⟨0,0,false,false⟩).kind,vint ((Ss.accOf op).getD ⟨0,0,false,false⟩).width, .bool ((Ss.accOf op).getD ⟨0,0,false,false⟩).store, .bool (Ss.accOf op).isSome]):=by
 intro S;have ca:=accesses_v;have hlk : ∀ (S:Store) (o:Nat),S.get o=some (0,mapI jbQ Ss.accL)->qW (.agg [.int .i64 0, .int .i64 0, .bool false, .bool false]) true S (.map o) (.int .i64 op)=some (match Ss.accOf op with | some v => .tuple [jbQ v, .bool true] | none => .tuple [.agg [.int .i64 0, .int .i64 0, .bool false, .bool false], .bool false]):=fun S o h=>by
  have h1:=jcB (z := .agg [.int .i64 0, .int .i64 0, .bool false, .bool false]) (n:=op) h;unfold Ss.accOf
  cases hh:Ss.findK op Ss.accL<;>rw [hh] at h1<;>exact h1
 generalize mapI jbQ Ss.accL=cells at *
 cases hf:Ss.accOf op with
 | none =>
  rw [hf] at hlk;simp only at hlk;refine QB (c:=jc Tryz.f127) Tryz.func127 Tryz.ntmps127 fun hwf=>?_
  refine bw ?_
  refine QP ?_;refine jK (xs:=[]) rfl (ca _) ?_;rintro X S' ⟨rfl,rfl⟩;rw [jM hwf];refine bB hlk ?_;refine bR ?_
  exact ja hwf (by simp) rfl
 | some a =>
  obtain ⟨a1,a2,a3,a4⟩:=a;rw [hf] at hlk;have hlk' : ∀ (S:Store) (o:Nat),S.get o=some (0,cells)->qW (.agg [.int .i64 0, .int .i64 0, .bool false, .bool false]) true S (.map o) (.int .i64 op)=some (.tuple [.agg [.int .i64 a1, .int .i64 a2, .bool a3, .bool a4], .bool true]):=hlk
  refine QB (c:=jc Tryz.f127) Tryz.func127 Tryz.ntmps127 fun hwf=>?_
  refine bw ?_
  refine QP ?_;refine jK (xs:=[]) rfl (ca _) ?_;rintro X S' ⟨rfl,rfl⟩;rw [jM hwf];refine bB hlk' ?_;refine bR ?_
  exact ja hwf (by simp) rfl
end Go.Vw
namespace Ss
structure FormR where
 inn:List Int
 outs:List Int
 most:Int
 ok:Bool
deriving DecidableEq,Inhabited
def formMem (op:Int):FormR :=
 if op=257 then ⟨[127],[],8589934592,true⟩
 else if op=63 then ⟨[],[127],0,true⟩
 else if op=64 then ⟨[127],[127],0,true⟩
 else match accOf op with
  | some a=>if a.store then ⟨[127,a.kind],[],4294967295,true⟩ else ⟨[127],[a.kind],4294967295,true⟩
  | none=>⟨[],[],0,false⟩
def formNum (e:Env) (op:Int):FormR :=
 match numSig op with
 | (l,t,true)=>⟨l,[t],0,true⟩
 | _=>if e.mem then formMem op else ⟨[],[],0,false⟩
def formGlob (e:Env) (op n:Int):FormR :=
 if n<e.globals.length then (if op=35 then ⟨[],[e.globals.getD n.toNat 0],n,true⟩ else ⟨[e.globals.getD n.toNat 0],[],n,e.muts.getD n.toNat false⟩) else ⟨[],[],0,false⟩
def form (e:Env) (op n out:Int):FormR :=
 if op=256 then (if out=127 then ⟨[],[127],4294967295,true⟩ else ⟨[],[126],18446744073709551615,true⟩)
 else if op=258 then ⟨[],[],0,true⟩
 else if op=27 then ⟨[out,out,127],[out],0,true⟩
 else if op=16 then (if n<e.sigs.length then ⟨(e.sigs.getD n.toNat default).inn,(e.sigs.getD n.toNat default).out,n,true⟩ else ⟨[],[],0,false⟩)
 else if op=35\/op=36 then formGlob e op n
 else formNum e op
end Ss
namespace Go.Vw
open Go.Proofs Go.RowKit
attribute [-simp] List.map_set
theorem wrap_u64' {n:Int} (h1:0<=n) (h2:n<18446744073709551616):IntKind.u64.wrap n=n:=by
 have e:IntKind.u64.wrap n=n % 18446744073709551616:=by simp [IntKind.wrap,IntKind.bits,IntKind.signed]
 rw [e]; omega
def jbm (r:Ss.FormR):V := .tuple [vl vint r.inn,vl vint r.outs,vu r.most, .bool r.ok]
theorem bO {n:Int} (h1:0<=n:=by omega) (h2:n<18446744073709551616:=by omega):IntKind.u64.wrap n=n:=wrap_u64' h1 h2
theorem opSlice_one {α:Type} {enc:α->V} {l:List α} {k:IntKind} {m s:Nat} {S:Store} (hs : ∀ a,(enc a).ncells=s) (h:m<l.length):qp s S (vl enc l) (some (.int k (m:Int))) (some (.int k ((m:Int)+1))) none=some (vl enc [l[m]]):=by
 have e1:((m:Int)+1).toNat=m+1:=by omega
 have e2:((l.map enc).take (m+1)).drop m=[enc l[m]]:=by
  rw [List.drop_take];simp [am,h]
 simp only [qp,vl,qF,aI];rw [if_pos (by omega),if_pos (by omega),e1];simp only [Int.toNat_natCast];rw [if_pos ⟨by omega,by omega,by omega,by simp, .inr (by simp [hs])⟩];simp [e2]
theorem form_c32 (e:Ss.Env) (op n out:Int) (hsl:e.sigs.length<=140737488355328) (hgl:e.globals.length<=140737488355328) (hml:e.muts.length=e.globals.length) (h1:op=256) (h2:out=127) :
  bS 105 [qL e,vint op,vu n,vint out] (jbm ⟨[],[127],4294967295,true⟩):=by
 intro S;obtain ⟨sg,im,gl,mu,me⟩:=e;simp only at hsl hgl hml;refine QB (c:=jc Tryz.f105) Tryz.func105 Tryz.ntmps105 fun hwf=>?_
 refine QY ?_;refine QY ?_;refine jt 12 rfl ((frz1 (k:=1) (len:=1) (by simp) (by rfl) (by rfl) (by rfl))) (by conv=>lhs; simp [Fr.set]) ?_;simp only [aq,au]
 refine bt h1 h2 ?_
 exact jf hwf (((Ghost.tuple [] [_,_,_] (Ghost.nils_list _))).toB _) rfl
theorem form_c64 (e:Ss.Env) (op n out:Int) (hsl:e.sigs.length<=140737488355328) (hgl:e.globals.length<=140737488355328) (hml:e.muts.length=e.globals.length) (h1:op=256) (h2 : ¬ out=127) :
  bS 105 [qL e,vint op,vu n,vint out] (jbm ⟨[],[126],18446744073709551615,true⟩):=by
 intro S;obtain ⟨sg,im,gl,mu,me⟩:=e;simp only at hsl hgl hml;refine QB (c:=jc Tryz.f105) Tryz.func105 Tryz.ntmps105 fun hwf=>?_
 refine QY ?_;refine QY ?_;refine jt 12 rfl ((frz1 (k:=1) (len:=1) (by simp) (by rfl) (by rfl) (by rfl))) (by conv=>lhs; simp [Fr.set]) ?_;simp only [aq,au]
 refine bt h1 h2 ?_
 exact jf hwf ((((Ghost.tuple [] [_,_,_] (Ghost.nils_list _)).trans (Ghost.tuple [_] [_,_] (frz1 (k:=2) (by simp) (by rfl) (by rfl) (by rfl))))).toB _) rfl
theorem form_tick (e:Ss.Env) (op n out:Int) (hsl:e.sigs.length<=140737488355328) (hgl:e.globals.length<=140737488355328) (hml:e.muts.length=e.globals.length) (h1:op=258) :
  bS 105 [qL e,vint op,vu n,vint out] (jbm ⟨[],[],0,true⟩):=by
 intro S;obtain ⟨sg,im,gl,mu,me⟩:=e;simp only at hsl hgl hml;refine QB (c:=jc Tryz.f105) Tryz.func105 Tryz.ntmps105 fun hwf=>?_
 refine QY ?_;refine QY ?_;refine jt 12 rfl ((frz1 (k:=1) (len:=1) (by simp) (by rfl) (by rfl) (by rfl))) (by conv=>lhs; simp [Fr.set]) ?_;simp only [aq,au]
 refine bx h1 ?_
 exact jf hwf ((((Ghost.tuple [] [_,_,_] (Ghost.nils_list _)).trans (Ghost.tuple [_] [_,_] (Ghost.nils_list _)))).toB _) rfl
theorem form_sel (e:Ss.Env) (op n out:Int) (hsl:e.sigs.length<=140737488355328) (hgl:e.globals.length<=140737488355328) (hml:e.muts.length=e.globals.length) (h1:op=27) :
  bS 105 [qL e,vint op,vu n,vint out] (jbm ⟨[out,out,127],[out],0,true⟩):=by
 intro S;obtain ⟨sg,im,gl,mu,me⟩:=e;simp only at hsl hgl hml;refine QB (c:=jc Tryz.f105) Tryz.func105 Tryz.ntmps105 fun hwf=>?_
 refine QY ?_;refine QY ?_;refine jt 12 rfl ((frz1 (k:=1) (len:=1) (by simp) (by rfl) (by rfl) (by rfl))) (by conv=>lhs; simp [Fr.set]) ?_;simp only [aq,au]
 refine bx h1 ?_
 exact jf hwf ((((Ghost.tuple [] [_,_,_] (frz1 (k:=2) (by simp) (by rfl) (by rfl) (by rfl))).trans (Ghost.tuple [_] [_,_] (frz1 (k:=3) (by simp) (by rfl) (by rfl) (by rfl))))).toB _) rfl
theorem form_call (e:Ss.Env) (op n out:Int) (hsl:e.sigs.length<=140737488355328) (hgl:e.globals.length<=140737488355328) (hml:e.muts.length=e.globals.length) (h0:0<=n) (h1:op=16) :
  bS 105 [qL e,vint op,vu n,vint out] (jbm (if n<e.sigs.length then ⟨(e.sigs.getD n.toNat default).inn,(e.sigs.getD n.toNat default).out,n,true⟩ else ⟨[],[],0,false⟩)):=by
 intro S;obtain ⟨sg,im,gl,mu,me⟩:=e;simp only at hsl hgl hml;obtain ⟨m,rfl⟩ : ∃ m:Nat,n=m:=⟨n.toNat,by omega⟩
 have hc:IntKind.u64.wrap (sg.length:Int)=(sg.length:Int):=bO;simp only
 by_cases h2:m<sg.length
 ·have h2':(m:Int)<(sg.length:Int):=by omega
  have h2n : ¬ (sg.length:Int)<=(m:Int):=by omega
  rw [if_pos h2'];obtain ⟨⟨a,b⟩,hab⟩ : ∃ x,sg[m]=x:=⟨_,rfl⟩
  have hgd:sg.getD (m:Int).toNat default=⟨a,b⟩:=by simp [h2,hab]
  rw [hgd];refine QB (c:=jc Tryz.f105) Tryz.func105 Tryz.ntmps105 fun hwf=>?_
  refine QY ?_;refine QY ?_;refine jt 12 rfl ((frz1 (k:=1) (len:=1) (by simp) (by rfl) (by rfl) (by rfl))) (by conv=>lhs; simp [Fr.set]) ?_;simp only [aq,au]
  refine bJ h1 hc h2 h2n hab ?_
  exact ja hwf (by simp [jbm,vl]) rfl
 ·have h2' : ¬ (m:Int)<(sg.length:Int):=by omega
  have h2n:(sg.length:Int)<=(m:Int):=by omega
  rw [if_neg h2'];refine QB (c:=jc Tryz.f105) Tryz.func105 Tryz.ntmps105 fun hwf=>?_
  refine QY ?_;refine QY ?_;refine jt 12 rfl ((frz1 (k:=1) (len:=1) (by simp) (by rfl) (by rfl) (by rfl))) (by conv=>lhs; simp [Fr.set]) ?_;simp only [aq,au]
  refine bD h1 hc h2 h2n ?_
  exact jf hwf ((((Ghost.tuple [] [_,_,_] (Ghost.nils_list _)).trans (Ghost.tuple [_] [_,_] (Ghost.nils_list _)))).toB _) rfl
theorem form_glob (e:Ss.Env) (op n out:Int) (hsl:e.sigs.length<=140737488355328) (hgl:e.globals.length<=140737488355328) (hml:e.muts.length=e.globals.length) (h0:0<=n) (h1:op=35\/op=36) :
  bS 105 [qL e,vint op,vu n,vint out] (jbm (Ss.formGlob e op n)):=by
 intro S;obtain ⟨sg,im,gl,mu,me⟩:=e;simp only at hsl hgl hml;obtain ⟨m,rfl⟩ : ∃ m:Nat,n=m:=⟨n.toNat,by omega⟩
 have hc:IntKind.u64.wrap (gl.length:Int)=(gl.length:Int):=bO;simp only [Ss.formGlob]
 by_cases h2:m<gl.length
 case neg =>
  have h2' : ¬ (m:Int)<(gl.length:Int):=by omega
  have h2n:(gl.length:Int)<=(m:Int):=by omega
  rw [if_neg h2'];rcases h1 with h1 | h1
  ·skip
   refine QB (c:=jc Tryz.f105) Tryz.func105 Tryz.ntmps105 fun hwf=>?_
   refine QY ?_;refine QY ?_;refine jt 12 rfl ((frz1 (k:=1) (len:=1) (by simp) (by rfl) (by rfl) (by rfl))) (by conv=>lhs; simp [Fr.set]) ?_;simp only [aq,au]
   refine bD h1 hc h2 h2n ?_
   exact jf hwf ((((Ghost.tuple [] [_,_,_] (Ghost.nils_list _)).trans (Ghost.tuple [_] [_,_] (Ghost.nils_list _)))).toB _) rfl
  ·skip
   refine QB (c:=jc Tryz.f105) Tryz.func105 Tryz.ntmps105 fun hwf=>?_
   refine QY ?_;refine QY ?_;refine jt 12 rfl ((frz1 (k:=1) (len:=1) (by simp) (by rfl) (by rfl) (by rfl))) (by conv=>lhs; simp [Fr.set]) ?_;simp only [aq,au]
   refine bD h1 hc h2 h2n ?_
   exact jf hwf ((((Ghost.tuple [] [_,_,_] (Ghost.nils_list _)).trans (Ghost.tuple [_] [_,_] (Ghost.nils_list _)))).toB _) rfl
 have h2':(m:Int)<(gl.length:Int):=by omega
 have h2n : ¬ (gl.length:Int)<=(m:Int):=by omega
 have hw:IntKind.u64.wrap ((m:Int)+1)=(m:Int)+1:=bO;have hsl1 : ∀ S:Store,qp 1 S (vl vint gl) (some (.int .u64 (m:Int))) (some (.int .u64 ((m:Int)+1))) none=some (vl vint [gl[m]]):=fun S=>opSlice_one nc_vint h2
 have hgd:gl.getD (m:Int).toNat 0=gl[m]:=by simp [h2]
 have hm:m<mu.length:=by omega
 obtain ⟨b,hb⟩ : ∃ b,mu[m]=b:=⟨_,rfl⟩
 have hmd:mu.getD (m:Int).toNat false=b:=by simp [hm,hb]
 rw [if_pos h2',hgd,hmd];rcases h1 with h1 | h1
 ·subst h1;rw [if_pos rfl];refine QB (c:=jc Tryz.f105) Tryz.func105 Tryz.ntmps105 fun hwf=>?_
  refine QY ?_;refine QY ?_;refine jt 12 rfl ((frz1 (k:=1) (len:=1) (by simp) (by rfl) (by rfl) (by rfl))) (by conv=>lhs; simp [Fr.set]) ?_;simp only [aq,au]
  refine bJ hc h2 h2n hw hsl1 ?_
  exact jf hwf (((Ghost.tuple [] [_,_,_] (Ghost.nils_list _))).toB _) rfl
 ·subst h1;rw [if_neg (by decide)];refine QB (c:=jc Tryz.f105) Tryz.func105 Tryz.ntmps105 fun hwf=>?_
  refine QY ?_;refine QY ?_;refine jt 12 rfl ((frz1 (k:=1) (len:=1) (by simp) (by rfl) (by rfl) (by rfl))) (by conv=>lhs; simp [Fr.set]) ?_;simp only [aq,au]
  refine bJ hc h2 h2n hw hsl1 ?_
  refine QT ?_;refine QD (r:=by conv=>lhs;simp[QV,hm,hb]) (k:=?_);refine bR ?_
  exact jf hwf (((Ghost.tuple [_] [_,_] (Ghost.nils_list _))).toB _) rfl
theorem form_num (e:Ss.Env) (op n out:Int) (hsl:e.sigs.length<=140737488355328) (hgl:e.globals.length<=140737488355328) (hml:e.muts.length=e.globals.length) (ho:Ss.I64 op) (h1 : ¬ op=256) (h2 : ¬ op=258) (h3 : ¬ op=27) (h4 : ¬ op=16) (h5 : ¬ op=35) (h6 : ¬ op=36) :
  bS 105 [qL e,vint op,vu n,vint out] (jbm (Ss.formNum e op)):=by
 intro S;obtain ⟨sg,im,gl,mu,me⟩:=e;simp only at hsl hgl hml;have hns:=NumSig_v op ho;simp only [Ss.formNum];generalize hsg:Ss.numSig op=sgv at *
 obtain ⟨l,t,b⟩:=sgv;simp only at hns
 by_cases hnt:b=true
 ·subst hnt;simp only;refine QB (c:=jc Tryz.f105) Tryz.func105 Tryz.ntmps105 fun hwf=>?_
  refine QY ?_;refine QY ?_;refine jt 12 rfl ((frz1 (k:=1) (len:=1) (by simp) (by rfl) (by rfl) (by rfl))) (by conv=>lhs; simp [Fr.set]) ?_;simp only [aq,au]
  refine bz h1 h2 h3 h4 h5 h6 ?_
  refine QP ?_;refine QL (hns) ?_;refine bQ ?_
  exact jf hwf (((Ghost.tuple [_] [_,_] (frz1 (k:=2) (by simp) (by rfl) (by rfl) (by rfl)))).toB _) rfl
 have hnt':b=false:=by simpa using hnt
 rw [hnt'];simp only
 by_cases hme:me=true
 case neg =>
  have hme':me=false:=by simpa using hme
  rw [if_neg hme];refine QB (c:=jc Tryz.f105) Tryz.func105 Tryz.ntmps105 fun hwf=>?_
  refine QY ?_;refine QY ?_;refine jt 12 rfl ((frz1 (k:=1) (len:=1) (by simp) (by rfl) (by rfl) (by rfl))) (by conv=>lhs; simp [Fr.set]) ?_;simp only [aq,au]
  refine bz h1 h2 h3 h4 h5 h6 ?_
  refine QP ?_;refine QL (hns) ?_;refine bB hnt' ?_;refine QN ?_
  refine bx hme' ?_
  exact jf hwf ((((Ghost.tuple [] [_,_,_] (Ghost.nils_list _)).trans (Ghost.tuple [_] [_,_] (Ghost.nils_list _)))).toB _) rfl
 rw [if_pos hme];unfold Ss.formMem
 by_cases k1:op=257
 ·rw [if_pos k1];refine QB (c:=jc Tryz.f105) Tryz.func105 Tryz.ntmps105 fun hwf=>?_
  refine QY ?_;refine QY ?_;refine jt 12 rfl ((frz1 (k:=1) (len:=1) (by simp) (by rfl) (by rfl) (by rfl))) (by conv=>lhs; simp [Fr.set]) ?_;simp only [aq,au]
  refine bz h1 h2 h3 h4 h5 h6 ?_
  refine QP ?_;refine QL (hns) ?_;refine bB hnt' ?_;refine QN ?_
  refine bt hme k1 ?_
  exact jf hwf (((Ghost.tuple [_] [_,_] (Ghost.nils_list _))).toB _) rfl
 rw [if_neg k1]
 by_cases k2:op=63
 ·rw [if_pos k2];refine QB (c:=jc Tryz.f105) Tryz.func105 Tryz.ntmps105 fun hwf=>?_
  refine QY ?_;refine QY ?_;refine jt 12 rfl ((frz1 (k:=1) (len:=1) (by simp) (by rfl) (by rfl) (by rfl))) (by conv=>lhs; simp [Fr.set]) ?_;simp only [aq,au]
  refine bz h1 h2 h3 h4 h5 h6 ?_
  refine QP ?_;refine QL (hns) ?_;refine bB hnt' ?_;refine QN ?_
  refine bv hme k1 k2 ?_
  exact jf hwf (((Ghost.tuple [] [_,_,_] (Ghost.nils_list _))).toB _) rfl
 rw [if_neg k2]
 by_cases k3:op=64
 ·rw [if_pos k3];refine QB (c:=jc Tryz.f105) Tryz.func105 Tryz.ntmps105 fun hwf=>?_
  refine QY ?_;refine QY ?_;refine jt 12 rfl ((frz1 (k:=1) (len:=1) (by simp) (by rfl) (by rfl) (by rfl))) (by conv=>lhs; simp [Fr.set]) ?_;simp only [aq,au]
  refine bz h1 h2 h3 h4 h5 h6 ?_
  refine QP ?_;refine QL (hns) ?_;refine bB hnt' ?_;refine QN ?_
  refine bD hme k1 k2 k3 ?_
  exact ja hwf (by simp [jbm,vl]) rfl
 rw [if_neg k3];have hac:=Access_v op
 cases hf:Ss.accOf op with
 | none =>
  rw [hf] at hac;have hac':bS 127 [vint op] (.tuple [.int .i64 0, .int .i64 0, .bool false, .bool false]):=hac;simp only;refine QB (c:=jc Tryz.f105) Tryz.func105 Tryz.ntmps105 fun hwf=>?_
  refine QY ?_;refine QY ?_;refine jt 12 rfl ((frz1 (k:=1) (len:=1) (by simp) (by rfl) (by rfl) (by rfl))) (by conv=>lhs; simp [Fr.set]) ?_;simp only [aq,au]
  refine bz h1 h2 h3 h4 h5 h6 ?_
  refine QP ?_;refine QL (hns) ?_;refine bB hnt' ?_;refine QN ?_
  refine bD hme k1 k2 k3 ?_
  refine QP ?_;refine QL (hac') ?_;refine bQ ?_
  exact jf hwf ((((Ghost.tuple [] [_,_,_] (Ghost.nils_list _)).trans (Ghost.tuple [_] [_,_] (Ghost.nils_list _)))).toB _) rfl
 | some a =>
  rw [hf] at hac;obtain ⟨a1,a2,a3,a4⟩:=a;have hac':bS 127 [vint op] (.tuple [.int .i64 a1, .int .i64 a2, .bool a3, .bool true]):=hac;simp only
  by_cases h9:a3=true
  ·rw [if_pos h9];refine QB (c:=jc Tryz.f105) Tryz.func105 Tryz.ntmps105 fun hwf=>?_
   refine QY ?_;refine QY ?_;refine jt 12 rfl ((frz1 (k:=1) (len:=1) (by simp) (by rfl) (by rfl) (by rfl))) (by conv=>lhs; simp [Fr.set]) ?_;simp only [aq,au]
   refine bz h1 h2 h3 h4 h5 h6 ?_
   refine QP ?_;refine QL (hns) ?_;refine bB hnt' ?_;refine QN ?_
   refine bD hme k1 k2 k3 ?_
   refine QP ?_;refine QL (hac') ?_;refine bB h9 ?_;refine QN ?_
   refine bx h9 ?_
   exact jf hwf ((((Ghost.tuple [] [_,_,_] (frz1 (k:=2) (by simp) (by rfl) (by rfl) (by rfl))).trans (Ghost.tuple [_] [_,_] (Ghost.nils_list _)))).toB _) rfl
  ·rw [if_neg h9];have h9':a3=false:=by simpa using h9
   refine QB (c:=jc Tryz.f105) Tryz.func105 Tryz.ntmps105 fun hwf=>?_
   refine QY ?_;refine QY ?_;refine jt 12 rfl ((frz1 (k:=1) (len:=1) (by simp) (by rfl) (by rfl) (by rfl))) (by conv=>lhs; simp [Fr.set]) ?_;simp only [aq,au]
   refine bz h1 h2 h3 h4 h5 h6 ?_
   refine QP ?_;refine QL (hns) ?_;refine bB hnt' ?_;refine QN ?_
   refine bD hme k1 k2 k3 ?_
   refine QP ?_;refine QL (hac') ?_;refine bB h9' ?_;refine QN ?_
   refine bx h9' ?_
   exact jf hwf (((Ghost.tuple [_] [_,_] (frz1 (k:=2) (by simp) (by rfl) (by rfl) (by rfl)))).toB _) rfl
theorem form_v (e:Ss.Env) (op n out:Int) (hsl:e.sigs.length<=140737488355328) (hgl:e.globals.length<=140737488355328) (hml:e.muts.length=e.globals.length) (ho:Ss.I64 op) (h0:0<=n) :
  bS 105 [qL e,vint op,vu n,vint out] (jbm (Ss.form e op n out)):=by
 unfold Ss.form;split
 ·rename_i h1;split
  ·rename_i h2; exact form_c32 e op n out hsl hgl hml h1 h2
  ·rename_i h2; exact form_c64 e op n out hsl hgl hml h1 h2
 ·rename_i h1;split
  ·rename_i h2; exact form_tick e op n out hsl hgl hml h2
  ·rename_i h2;split
   ·rename_i h3; exact form_sel e op n out hsl hgl hml h3
   ·rename_i h3;split
    ·rename_i h4; exact form_call e op n out hsl hgl hml h0 h4
    ·rename_i h4;split
     ·rename_i h5; exact form_glob e op n out hsl hgl hml h0 h5
     ·rename_i h5; exact form_num e op n out hsl hgl hml ho h1 h2 h3 h4 (fun h=>h5 (.inl h)) (fun h=>h5 (.inr h))
end Go.Vw
namespace Ev
/-! ### Numbers -/
def widthI (t:Int):Nat:=if t=127 then 32 else 64
def b1 (b:Bool):Int:=if b then 1 else 0
def U64 (n:Int):Prop:=0<=n/\n<18446744073709551616
def sgnI (n:Int) (b:Nat):Int:=(Go.IntKind.i64.wrap (Go.IntKind.u64.wrap (n*2^(64-b)))).fdiv (2^(64-b))
def orI (x y:Int):Int:=Go.IntKind.u64.wrap (((x % 2^Go.IntKind.u64.bits).toNat ||| (y % 2^Go.IntKind.u64.bits).toNat:Nat):Int)
def turnS (w:Nat) (a:Int):Int:=(orI (Go.IntKind.u64.wrap (a*2)) (a.fdiv (2^(w-1)))) % 2^w
def turnI (w:Nat):Nat->Int->Int
 | 0,a=>a
 | k+1,a=>turnS w (turnI w k a)
end Ev
namespace Go.Vw
open Go.Proofs Go.RowKit
attribute [-simp] List.map_set
theorem Nwidth_v (t:Int):bS 149 [vint t] (vnat (Ev.widthI t)):=by
 intro S;refine QB (c:=jc Tryz.f149) Tryz.func149 Tryz.ntmps149 fun hwf=>?_
 refine QY ?_
 by_cases h:t=127
 ·subst h
  refine bw ?_
  exact bN
 ·have e:Ev.widthI t=64:=by simp [Ev.widthI,h]
  rw [e]
  refine bx h ?_
  exact bN
theorem Nbool_v (b:Bool):bS 150 [.bool b] (vu (Ev.b1 b)):=by
 intro S;refine QB (c:=jc Tryz.f150) Tryz.func150 Tryz.ntmps150 fun hwf=>?_
 refine QY ?_
 cases b with
 | true =>
  refine bw ?_
  exact bN
 | false =>
  refine bw ?_
  exact bN
theorem qQ:IntKind.u64.bits=64:=rfl
theorem i64_bits:IntKind.i64.bits=64:=rfl
theorem jcw {b:Nat} (h:b<64):(2:Int)^b<18446744073709551616:=by
 have h1:(2:Nat)^b<2^64:=Nat.pow_lt_pow_right (by decide) h;have h2:((2^b:Nat):Int)=(2:Int)^b:=by simp
 omega
theorem WH (b:Nat):((2^b:Nat):Int)=(2:Int)^b:=by simp
theorem wrap_u64_in (n:Int):Ev.U64 (IntKind.u64.wrap n):=by
 have e:IntKind.u64.wrap n=n % 18446744073709551616:=by simp [IntKind.wrap,IntKind.bits,IntKind.signed]
 rw [e];exact ⟨Int.emod_nonneg _ (by decide),Int.emod_lt_of_pos _ (by decide)⟩
theorem mod_in {n:Int} (h:Ev.U64 n) (b:Nat):Ev.U64 (n % 2^b):=by
 obtain ⟨h0,h1⟩:=h;obtain ⟨m,rfl⟩ : ∃ m:Nat,n=m:=⟨n.toNat,by omega⟩
 have e3:(((m % 2^b:Nat)):Int)=(m:Int) % 2^b:=by rw [Int.natCast_emod,WH]
 have:=Nat.mod_le m (2^b);rw [<-e3];exact ⟨by omega,by omega⟩
theorem low_and {n:Int} (h:Ev.U64 n) {b:Nat} (hb:b<64):IntKind.u64.wrap (((n % 2^IntKind.u64.bits).toNat &&& (((2:Int)^b-1) % 2^IntKind.u64.bits).toNat:Nat):Int)=n % 2^b:=by
 have hp:=jcw hb;have hp0:(0:Int)<2^b:=Int.pow_pos (by decide);have hc:=WH b;have e64:(2:Int)^IntKind.u64.bits=18446744073709551616:=by rw [qQ]; rfl
 rw [e64];obtain ⟨h0,h1⟩:=h;obtain ⟨m,rfl⟩ : ∃ m:Nat,n=m:=⟨n.toNat,by omega⟩
 have e1:((m:Int) % 18446744073709551616).toNat=m:=by omega
 have e2:((2^b-1:Int) % 18446744073709551616).toNat=2^b-1:=by
  rw [<-hc];rw [<-hc] at hp hp0;omega
 rw [e1,e2,Nat.and_two_pow_sub_one_eq_mod];have e3:(((m % 2^b:Nat)):Int)=(m:Int) % 2^b:=by rw [Int.natCast_emod,hc]
 rw [e3];have:=mod_in (n:=(m:Int)) ⟨h0,h1⟩ b;exact wrap_u64' this.1 this.2
theorem Ye (n:Int) (b:Nat) (hb:b<=64) (h:Ev.U64 n):bS 154 [vu n,vnat b] (vu (n % 2^b)):=by
 intro S;refine QB (c:=jc Tryz.f154) Tryz.func154 Tryz.ntmps154 fun hwf=>?_
 refine QY ?_
 by_cases hb2:b=64
 ·subst hb2;have e:n % 2^64=n:=Int.emod_eq_of_lt h.1 (by have:=h.2; omega);rw [e]
  refine bw ?_
  exact bN
 ·have hI : ¬ (b:Int)=64:=by omega
  have hp:=jcw (b:=b) (by omega);have hp0:(0:Int)<2^b:=Int.pow_pos (by decide);have hm:min b IntKind.u64.bits=b:=by rw [qQ]; omega
  have w1:IntKind.u64.wrap (2^b)=2^b:=wrap_u64' (by omega) hp;have w2:IntKind.u64.wrap (2^b-1)=2^b-1:=bO;have w3:=low_and h (b:=b) (by omega)
  refine bJ hI hm w1 w2 w3 ?_
  exact bN
theorem qS (n:Int) (b:Nat) (hb:b<=64):bS 155 [vu n,vnat b] (vint (Ev.sgnI n b)):=by
 intro S;have hI:(b:Int)<=64:=by omega
 have w0:IntKind.i64.wrap (64-(b:Int))=64-(b:Int):=wrap_i64 (by omega) (by omega);have t0:(64-(b:Int)).toNat=64-b:=by omega
 have hm:min (64-b) IntKind.u64.bits=64-b:=by rw [qQ]; omega
 have hm2:min (64-b) IntKind.i64.bits=64-b:=by rw [i64_bits]; omega
 refine QB (c:=jc Tryz.f155) Tryz.func155 Tryz.ntmps155 fun hwf=>?_
 refine QY ?_
 refine bJ w0 t0 hm hm2 hI ?_
 exact bN
theorem Nturned_v (a:Int) (k w:Nat) (hk:k<=64) (hw1:1<=w) (hw:w<=64) (h:Ev.U64 a):bS 156 [vu a,vnat k,vnat w] (vu (Ev.turnI w k a))/\Ev.U64 (Ev.turnI w k a):=by
 have hI : ∀ j,Ev.U64 (Ev.turnI w j a):=fun j=>by
  cases j with
  | zero=>exact h
  | succ j=>exact mod_in (wrap_u64_in _) w
 refine ⟨fun S => ?_,hI k⟩;have cl:=fun x hx=>Ye x w hw hx
 have hwI:(w:Int)<=64:=by omega
 have w0:IntKind.i64.wrap ((w:Int)-1)=(w:Int)-1:=wrap_i64 (by omega) (by omega);have hw0:(1:Int)<=w:=by omega
 have t0:((w:Int)-1).toNat=w-1:=by omega
 have hm:min (w-1) IntKind.u64.bits=w-1:=by rw [qQ]; omega
 refine QB (c:=jc Tryz.f156) Tryz.func156 Tryz.ntmps156 fun hwf=>?_
 refine QY ?_
 refine bw ?_
 refine QT ?_;refine jd [0,1,2,7] rfl (fun c σ S' => ∃ (j:Nat),j<=k/\c=k-j/\σ=[(0,vu (Ev.turnI w j a)),(1,vnat k),(2,vnat w),(7,vnat j)]/\S'=St S [] []) k ?_ ?_
 ·exact ⟨0,by omega,rfl,by simp [Fr.only,Fr.look,vu,Ev.turnI],by simp⟩
 ·rintro c σ T ⟨j,hj,rfl,rfl,rfl⟩;have hx:=hI j;have hst:Ev.turnI w (j+1) a=Ev.turnS w (Ev.turnI w j a):=rfl;generalize hx0:Ev.turnI w j a=x at hx hst ⊢
  by_cases hjt:j<k
  ·have hwj:=jg hjt (by omega);have c2:=cl (Ev.orI (IntKind.u64.wrap (x*2)) (x.fdiv (2^(w-1)))) (wrap_u64_in _);have hm1:min 1 IntKind.u64.bits=1:=rfl;have p1:(2:Int)^1=2:=rfl;have c3:bS 154 [.int .u64 (IntKind.u64.wrap (((IntKind.u64.wrap (x*2) % 2^IntKind.u64.bits).toNat ||| (x.fdiv (2^(w-1)) % 2^IntKind.u64.bits).toNat:Nat):Int)), .int .i64 (w:Int)] (vu (Ev.turnS w x)):=c2
   refine bx hjt ?_
   refine QP ?_ (r:=by conv=>lhs;simp[QV,w0,hw0,t0,hm,hm1,p1]);refine QL c3 ?_;refine QW ?_
   refine bx hwj ?_
   show js _ _ _ _ _ _ _;exact again ⟨ao hjt (aY j),j+1,hjt,rfl,by simp [Fr.only,Fr.look,vu,hst],rfl⟩
  ·have hje:j=k:=by omega
   subst hje;rw [hx0]
   refine bx hjt ?_
   exact bN
end Go.Vw
namespace Ev
def cmpL (a b x y:Int):List Bool:=[decide (a=b), !decide (a=b),decide (x<y),decide (a<b),decide (y<x),decide (b<a),decide (x<=y),decide (a<=b),decide (y<=x),decide (b<=a)]
def cmpI (k:Nat) (a b:Int) (w:Nat):Int:=b1 ((cmpL a b (sgnI a w) (sgnI b w)).getD k false)
end Ev
namespace Go.Vw
open Go.Proofs Go.RowKit
attribute [-simp] List.map_set
theorem jbZ (k:Nat) (hk:k<10) (a b:Int) (w:Nat) (hw:w<=64):bS 151 [vnat k,vu a,vu b,vnat w] (vu (Ev.cmpI k a b w)):=by
 intro S;have c1:=qS a w hw;have c2:=qS b w hw;have hr:rep0 [V.bool false] 10=List.replicate 10 (V.bool false):=rfl;have hX:Ev.cmpI k a b w=Ev.b1 ((Ev.cmpL a b (Ev.sgnI a w) (Ev.sgnI b w)).getD k false):=rfl;rw [hX];generalize Ev.sgnI a w=x at *
 generalize Ev.sgnI b w=y at *
 clear hX;refine QB (c:=jc Tryz.f151) Tryz.func151 Tryz.ntmps151 fun hwf=>?_
 refine QY ?_;refine QP ?_;refine QL c1 ?_;refine QZ ?_;refine QL c2 ?_;refine QW ?_;refine bM hr ?_;have hcm:(Ev.cmpL a b x y).map V.bool=[V.bool (decide (a=b)),V.bool (!decide (a=b)),V.bool (decide (x<y)),V.bool (decide (a<b)),V.bool (decide (y<x)),V.bool (decide (b<a)),V.bool (decide (x<=y)),V.bool (decide (a<=b)),V.bool (decide (y<=x)),V.bool (decide (b<=a))]:=rfl;have hll:(Ev.cmpL a b x y).length=10:=rfl;rw [<-hcm];clear hcm;generalize Ev.cmpL a b x y=L at *
 have hkl:k<L.length:=by omega
 have hg:L.getD k false=L[k]:=by rw [ag,ac hkl]; rfl
 rw [hg];have cb:=Nbool_v L[k];have hkI:(k:Int)<10:=by omega
 refine QP ?_ (r:=by conv=>lhs;simp[QV,hkl,hk,hkI]);refine QL cb ?_;refine bQ ?_
 exact bN
theorem b1_in (b:Bool):0<=Ev.b1 b/\Ev.b1 b<=1:=by cases b<;>simp [Ev.b1]
def Fit (w:Nat) (n:Int):Prop:=0<=n/\n<2^w
theorem Fit.u64 {w:Nat} {n:Int} (hw:w<=64) (h:Fit w n):Ev.U64 n:=by
 refine ⟨h.1, ?_⟩;have h1:(2:Nat)^w<=2^64:=Nat.pow_le_pow_right (by decide) hw;have h2:=WH w;have:=h.2;omega
theorem zg (n:Int) (w:Nat):Fit w (n % 2^w):=by
 have hp0:(0:Int)<2^w:=Int.pow_pos (by decide);exact ⟨Int.emod_nonneg _ (by omega),Int.emod_lt_of_pos _ hp0⟩
theorem fit_quo {w:Nat} {a b:Int} (ha:Fit w a) (hb:Fit w b):Fit w (a.tdiv b):=by
 obtain ⟨a0,a1⟩:=ha;obtain ⟨b0,_⟩:=hb;obtain ⟨m,rfl⟩ : ∃ m:Nat,a=m:=⟨a.toNat,by omega⟩
 obtain ⟨q,rfl⟩ : ∃ q:Nat,b=q:=⟨b.toNat,by omega⟩
 have e:((m:Int)).tdiv (q:Int)=((m / q:Nat):Int):=rfl;rw [e];exact ⟨Int.natCast_nonneg _,Int.lt_of_le_of_lt (Int.ofNat_le.2 (Nat.div_le_self m q)) a1⟩
theorem fit_rem {w:Nat} {a b:Int} (ha:Fit w a) (hb:Fit w b):Fit w (a.tmod b):=by
 obtain ⟨a0,a1⟩:=ha;obtain ⟨b0,_⟩:=hb;obtain ⟨m,rfl⟩ : ∃ m:Nat,a=m:=⟨a.toNat,by omega⟩
 obtain ⟨q,rfl⟩ : ∃ q:Nat,b=q:=⟨b.toNat,by omega⟩
 have e:((m:Int)).tmod (q:Int)=((m % q:Nat):Int):=rfl;rw [e];exact ⟨Int.natCast_nonneg _,Int.lt_of_le_of_lt (Int.ofNat_le.2 (Nat.mod_le m q)) a1⟩
theorem jcL (w:Nat):Fit w 0:=⟨by omega,Int.pow_pos (by decide)⟩
theorem sgn_zero {w:Nat} (hw:w<=64) {b:Int} (h:Fit w b) (hb:b≠0):Ev.sgnI b w≠0:=by
 intro h0;have hc:(0:Int)<2^(64-w):=Int.pow_pos (by decide);have hv:b*2^(64-w)<18446744073709551616:=by
  have h1:b*2^(64-w)<2^w*2^(64-w):=Int.mul_lt_mul_of_pos_right h.2 hc;rw [<-Int.pow_add,show w+(64-w)=64 by omega] at h1;omega
 have hge:(2:Int)^(64-w)<=b*2^(64-w):=by
  have h1:1*(2:Int)^(64-w)<=b*2^(64-w):=Int.mul_le_mul_of_nonneg_right (by have:=h.1; omega) (by omega);omega
 rw [Ev.sgnI,wrap_u64' (by omega) hv] at h0;generalize b*2^(64-w)=v at *
 generalize (2:Int)^(64-w)=c at *
 have e:IntKind.i64.wrap v=v\/IntKind.i64.wrap v=v-18446744073709551616:=by
  have p1:(2:Int)^64=18446744073709551616:=rfl;have p2:(2:Int)^(64-1)=9223372036854775808:=rfl;simp only [IntKind.wrap,IntKind.bits,IntKind.signed,aE,aj,p1,p2];split<;>omega
 rw [Int.fdiv_eq_ediv_of_nonneg _ (by omega)] at h0;have h2:=Int.emod_add_mul_ediv (IntKind.i64.wrap v) c;rw [h0] at h2;have h3:=Int.emod_nonneg (IntKind.i64.wrap v) (b:=c) (by omega);have h4:=Int.emod_lt_of_pos (IntKind.i64.wrap v) hc;omega
theorem Ndivide_v (k:Int) (a b:Int) (w:Nat) (hw1:1<=w) (hw:w<=64) (ha:Fit w a) (hb:Fit w b) : ∃ n e:Int,bS 157 [vint k,vu a,vu b,vnat w] (.tuple [vu n,vint e])/\Fit w n:=by
 have c1:=qS a w hw;have c2:=qS b w hw
 by_cases hb0:b=0
 ·subst hb0;refine ⟨0,33,fun S => ?_,jcL w⟩;refine QB (c:=jc Tryz.f157) Tryz.func157 Tryz.ntmps157 fun hwf=>?_
  refine QY ?_;refine QP ?_;refine QL c1 ?_;refine QZ ?_;refine QL c2 ?_;refine bQ ?_
  exact bN
 have hq:=fit_quo ha hb;have hr:=fit_rem ha hb;have hqw:IntKind.u64.wrap (a.tdiv b)=a.tdiv b:=wrap_u64' hq.1 (hq.u64 hw).2;have cm:=qS (2^(w-1)) w hw;have w0:IntKind.i64.wrap ((w:Int)-1)=(w:Int)-1:=wrap_i64 (by omega) (by omega);have w1:(1:Int)<=w:=by omega
 have t0:((w:Int)-1).toNat=w-1:=by omega
 have hm:min (w-1) IntKind.u64.bits=w-1:=by rw [qQ]; omega
 have hp:=jcw (b:=w-1) (by omega);have hp0:(0:Int)<2^(w-1):=Int.pow_pos (by decide);have w2:IntKind.u64.wrap (2^(w-1))=2^(w-1):=wrap_u64' (by omega) hp;have hy0:=sgn_zero hw hb hb0;generalize Ev.sgnI a w=x at *
 generalize Ev.sgnI b w=y at *
 generalize Ev.sgnI (2^(w-1)) w=z at *
 have cl:=fun v hv=>Ye v w hw hv
 by_cases hy:y = -1
 ·subst hy;have hyn : ¬ (-1:Int)=0:=by decide
  by_cases hz:x=z
  ·subst hz
   by_cases hk0:k=0
   ·subst hk0;refine ⟨0,34,fun S => ?_,jcL w⟩;refine QB (c:=jc Tryz.f157) Tryz.func157 Tryz.ntmps157 fun hwf=>?_
    refine QY ?_;refine QP ?_;refine QL c1 ?_;refine QZ ?_;refine QL c2 ?_;refine QW ?_
    refine bx hb0 ?_
    refine QP ?_ (r:=by conv=>lhs;simp[QV,w0,w1,t0,hm,w2]);refine QL cm ?_;refine QW ?_
    refine bt hb0 hqw ?_
    exact bN
   by_cases hk1:k=1
   ·subst hk1;refine ⟨_,0,fun S => ?_,hq⟩;refine QB (c:=jc Tryz.f157) Tryz.func157 Tryz.ntmps157 fun hwf=>?_
    refine QY ?_;refine QP ?_;refine QL c1 ?_;refine QZ ?_;refine QL c2 ?_;refine QW ?_
    refine bx hb0 ?_
    refine QP ?_ (r:=by conv=>lhs;simp[QV,w0,w1,t0,hm,w2]);refine QL cm ?_;refine QW ?_
    refine bt hb0 hqw ?_
    exact bN
   by_cases hk2:k=2
   ·subst hk2;refine ⟨0,0,fun S => ?_,jcL w⟩;refine QB (c:=jc Tryz.f157) Tryz.func157 Tryz.ntmps157 fun hwf=>?_
    refine QY ?_;refine QP ?_;refine QL c1 ?_;refine QZ ?_;refine QL c2 ?_;refine QW ?_
    refine bx hb0 ?_
    refine QP ?_ (r:=by conv=>lhs;simp[QV,w0,w1,t0,hm,w2]);refine QL cm ?_;refine QW ?_
    refine bt hb0 hqw ?_
    exact bN
   refine ⟨_,0,fun S => ?_,hr⟩;refine QB (c:=jc Tryz.f157) Tryz.func157 Tryz.ntmps157 fun hwf=>?_
   refine QY ?_;refine QP ?_;refine QL c1 ?_;refine QZ ?_;refine QL c2 ?_;refine QW ?_
   refine bx hb0 ?_
   refine QP ?_ (r:=by conv=>lhs;simp[QV,w0,w1,t0,hm,w2]);refine QL cm ?_;refine QW ?_
   refine bJ hk0 hk1 hk2 hb0 hqw ?_
   exact bN
  by_cases hk0:k=0
  ·subst hk0;refine ⟨(IntKind.u64.wrap (IntKind.i64.wrap (-x))) % 2^w,0,fun S => ?_,zg _ w⟩;refine QB (c:=jc Tryz.f157) Tryz.func157 Tryz.ntmps157 fun hwf=>?_
   refine QY ?_;refine QP ?_;refine QL c1 ?_;refine QZ ?_;refine QL c2 ?_;refine QW ?_
   refine bx hb0 ?_
   refine QP ?_ (r:=by conv=>lhs;simp[QV,w0,w1,t0,hm,w2]);refine QL cm ?_;refine bB hz ?_;refine QN ?_
   refine bt hb0 hqw ?_
   refine bH hyn ?_;refine QL (cl _ (wrap_u64_in _)) ?_;refine bQ ?_
   exact bN
  by_cases hk1:k=1
  ·subst hk1;refine ⟨_,0,fun S => ?_,hq⟩;refine QB (c:=jc Tryz.f157) Tryz.func157 Tryz.ntmps157 fun hwf=>?_
   refine QY ?_;refine QP ?_;refine QL c1 ?_;refine QZ ?_;refine QL c2 ?_;refine QW ?_
   refine bx hb0 ?_
   refine QP ?_ (r:=by conv=>lhs;simp[QV,w0,w1,t0,hm,w2]);refine QL cm ?_;refine bB hz ?_;refine QN ?_
   refine bt hb0 hqw ?_
   exact bN
  by_cases hk2:k=2
  ·subst hk2;refine ⟨(IntKind.u64.wrap 0) % 2^w,0,fun S => ?_,zg _ w⟩;refine QB (c:=jc Tryz.f157) Tryz.func157 Tryz.ntmps157 fun hwf=>?_
   refine QY ?_;refine QP ?_;refine QL c1 ?_;refine QZ ?_;refine QL c2 ?_;refine QW ?_
   refine bx hb0 ?_
   refine QP ?_ (r:=by conv=>lhs;simp[QV,w0,w1,t0,hm,w2]);refine QL cm ?_;refine bB hz ?_;refine QN ?_
   refine bt hb0 hqw ?_
   refine bH hyn ?_;refine QL (cl _ (wrap_u64_in _)) ?_;refine bQ ?_
   exact bN
  refine ⟨_,0,fun S => ?_,hr⟩;refine QB (c:=jc Tryz.f157) Tryz.func157 Tryz.ntmps157 fun hwf=>?_
  refine QY ?_;refine QP ?_;refine QL c1 ?_;refine QZ ?_;refine QL c2 ?_;refine QW ?_
  refine bx hb0 ?_
  refine QP ?_ (r:=by conv=>lhs;simp[QV,w0,w1,t0,hm,w2]);refine QL cm ?_;refine bB hz ?_;refine QN ?_
  refine bJ hk0 hk1 hk2 hb0 hqw ?_
  exact bN
 ·have hyn:=hy0
  by_cases hk0:k=0
  ·subst hk0;refine ⟨(IntKind.u64.wrap (IntKind.i64.wrap (x.tdiv y))) % 2^w,0,fun S => ?_,zg _ w⟩;refine QB (c:=jc Tryz.f157) Tryz.func157 Tryz.ntmps157 fun hwf=>?_
   refine QY ?_;refine QP ?_;refine QL c1 ?_;refine QZ ?_;refine QL c2 ?_;refine QW ?_
   refine bx hb0 ?_
   refine bM hy ?_
   refine bt hb0 hqw ?_
   refine bH hyn ?_;refine QL (cl _ (wrap_u64_in _)) ?_;refine bQ ?_
   exact bN
  by_cases hk1:k=1
  ·subst hk1;refine ⟨_,0,fun S => ?_,hq⟩;refine QB (c:=jc Tryz.f157) Tryz.func157 Tryz.ntmps157 fun hwf=>?_
   refine QY ?_;refine QP ?_;refine QL c1 ?_;refine QZ ?_;refine QL c2 ?_;refine QW ?_
   refine bx hb0 ?_
   refine bM hy ?_
   refine bt hb0 hqw ?_
   exact bN
  by_cases hk2:k=2
  ·subst hk2;refine ⟨(IntKind.u64.wrap (x.tmod y)) % 2^w,0,fun S => ?_,zg _ w⟩;refine QB (c:=jc Tryz.f157) Tryz.func157 Tryz.ntmps157 fun hwf=>?_
   refine QY ?_;refine QP ?_;refine QL c1 ?_;refine QZ ?_;refine QL c2 ?_;refine QW ?_
   refine bx hb0 ?_
   refine bM hy ?_
   refine bt hb0 hqw ?_
   refine bH hyn ?_;refine QL (cl _ (wrap_u64_in _)) ?_;refine bQ ?_
   exact bN
  refine ⟨_,0,fun S => ?_,hr⟩;refine QB (c:=jc Tryz.f157) Tryz.func157 Tryz.ntmps157 fun hwf=>?_
  refine QY ?_;refine QP ?_;refine QL c1 ?_;refine QZ ?_;refine QL c2 ?_;refine QW ?_
  refine bx hb0 ?_
  refine bM hy ?_
  refine bJ hk0 hk1 hk2 hb0 hqw ?_
  exact bN
end Go.Vw
