import Derived.Test.YtenhhokhkkfgbaaGreatC11
import Derived.Test.YtenhhokhkkfgbaaGreatProg
import Derived.OpenShut
/- Part of the proof. -/
set_option linter.unusedVariables false
set_option linter.unusedSimpArgs false
set_option maxRecDepth 100000
set_option maxHeartbeats 4000000
/-
 Functions in SSA form, told plainly; what they read as.
-/
namespace Ss
structure Sig where
 inn:List Int
 out:List Int
deriving DecidableEq,Inhabited
structure Ins where
 op:Int
 n:Int
 args:List Int
 outs:List Int
deriving DecidableEq,Inhabited
structure Edge where
 to:Int
 args:List Int
deriving DecidableEq,Inhabited
structure Term where
 kind:Int
 arg:Int
 to:List Edge
 args:List Int
deriving DecidableEq,Inhabited
structure Block where
 params:List Int
 code:List Ins
 term:Term
deriving DecidableEq,Inhabited
structure Fn where
 sig:Sig
 types:List Int
 blocks:List Block
deriving DecidableEq,Inhabited
structure Env where
 sigs:List Sig
 imports:Int
 globals:List Int
 muts:List Bool
 mem:Bool
deriving DecidableEq,Inhabited
def I64 (n:Int):Prop := -9223372036854775808<=n/\n<=9223372036854775807
def Ints (l:List Int):Prop:=l.length<=140737488355328 /\ ∀ n∈l,I64 n
def Sig.Fits (s:Sig):Prop:=Ints s.inn/\Ints s.out
def Ins.Fits (x:Ins):Prop:=I64 x.op/\(0<=x.n/\x.n<18446744073709551616)/\Ints x.args/\Ints x.outs
def Edge.Fits (x:Edge):Prop:=I64 x.to/\Ints x.args
def Term.Fits (t:Term):Prop:=I64 t.kind/\I64 t.arg/\(t.to.length<=140737488355328 /\ ∀ x∈t.to,x.Fits)/\Ints t.args
def Block.Fits (b:Block):Prop:=Ints b.params/\(b.code.length<=140737488355328 /\ ∀ x∈b.code,x.Fits)/\b.term.Fits
def Fn.Fits (f:Fn):Prop:=f.sig.Fits/\Ints f.types/\(f.blocks.length<=140737488355328 /\ ∀ b∈f.blocks,b.Fits)
def Env.Fits (e:Env):Prop:=(e.sigs.length<=140737488355328 /\ ∀ s∈e.sigs,s.Fits)/\I64 e.imports/\Ints e.globals/\e.muts.length<=140737488355328
end Ss
namespace Go.Vw
def vu (n:Int):V := .int .u64 n
def jm (s:Ss.Sig):V := .agg [vl vint s.inn,vl vint s.out]
def jp (x:Ss.Ins):V := .agg [vint x.op,vu x.n,vl vint x.args,vl vint x.outs]
def jk (x:Ss.Edge):V := .agg [vint x.to,vl vint x.args]
def encTerm (t:Ss.Term):V := .agg [vint t.kind,vint t.arg,vl jk t.to,vl vint t.args]
def je (b:Ss.Block):V := .agg [vl vint b.params,vl jp b.code,vint b.term.kind,vint b.term.arg,vl jk b.term.to,vl vint b.term.args]
def jI (f:Ss.Fn):V := .agg [vl vint f.sig.inn,vl vint f.sig.out,vl vint f.types,vl je f.blocks]
def qL (e:Ss.Env):V := .agg [vl jm e.sigs,vint e.imports,vl vint e.globals,vl V.bool e.muts, .bool e.mem]
theorem JZ (x:Ss.Ins):(jp x).closed=true:=rfl
theorem Wg (x:Ss.Edge):(jk x).closed=true:=rfl
theorem jaO (x:Ss.Block):(je x).closed=true:=rfl
theorem zW (x:Ss.Ins):(jp x).cells=[vint x.op,vu x.n,vl vint x.args,vl vint x.outs]:=nr rfl
theorem ze (x:Ss.Edge):(jk x).cells=[vint x.to,vl vint x.args]:=nr rfl
theorem zj (b:Ss.Block):(je b).cells=[vl vint b.params,vl jp b.code,vint b.term.kind,vint b.term.arg,vl jk b.term.to,vl vint b.term.args]:=nr rfl
theorem encSig_nc (x:Ss.Sig):(jm x).ncells=2:=nr rfl
theorem encIns_nc (x:Ss.Ins):(jp x).ncells=4:=nr rfl
theorem encEdge_nc (x:Ss.Edge):(jk x).ncells=2:=nr rfl
theorem encBlock_nc (x:Ss.Block):(je x).ncells=6:=nr rfl
theorem encSig_eq (s:Ss.Sig):jm s = .agg [vl vint s.inn,vl vint s.out]:=nr rfl
theorem encIns_eq (x:Ss.Ins):jp x = .agg [vint x.op,vu x.n,vl vint x.args,vl vint x.outs]:=nr rfl
theorem encEdge_eq (x:Ss.Edge):jk x = .agg [vint x.to,vl vint x.args]:=nr rfl
theorem encTerm_eq (t:Ss.Term):encTerm t = .agg [vint t.kind,vint t.arg,vl jk t.to,vl vint t.args]:=nr rfl
theorem encBlock_eq (b:Ss.Block):je b = .agg [vl vint b.params,vl jp b.code,vint b.term.kind,vint b.term.arg,vl jk b.term.to,vl vint b.term.args]:=nr rfl
theorem encFn_eq (f:Ss.Fn):jI f = .agg [vl vint f.sig.inn,vl vint f.sig.out,vl vint f.types,vl je f.blocks]:=nr rfl
theorem encEnv_eq (e:Ss.Env):qL e = .agg [vl jm e.sigs,vint e.imports,vl vint e.globals,vl V.bool e.muts, .bool e.mem]:=nr rfl
theorem one_vu (n:Int):(vu n).one=true:=nr rfl
theorem resV_one (t:Nat) (σ:Fr):resV [t] σ=σ.look t:=nr rfl
theorem resV_two (t u:Nat) (σ:Fr):resV [t,u] σ = .tuple [σ.look t,σ.look u]:=nr rfl
theorem resV_3 (t u v:Nat) (σ:Fr):resV [t,u,v] σ = .tuple [σ.look t,σ.look u,σ.look v]:=nr rfl
theorem resV_4 (t u v w:Nat) (σ:Fr):resV [t,u,v,w] σ = .tuple [σ.look t,σ.look u,σ.look v,σ.look w]:=nr rfl
theorem resV_nil (σ:Fr):resV [] σ = .tuple []:=nr rfl
attribute [simp] resV_one resV_two resV_3 resV_4 resV_nil encSig_nc encIns_nc encEdge_nc encBlock_nc encSig_eq encIns_eq encEdge_eq encTerm_eq encBlock_eq encFn_eq encEnv_eq one_vu vu
theorem vcall_useH {P:Program} {z:Option ZZ} {σ:Fr} {S:Store} {K:Fr->Store->Prop} {d:Option Nat} {f:FuncId} {args:List Arg} {xs:List V} {r:List CO} {X:V} (h:VPure P f xs X) (ha:args.map (ev σ)=xs) (H:jz P z r K (σ.put d X) S) (hz:noW z d=true:=by rfl):jz P z (⟨d,none, .call f args⟩::r) K σ S:=jb ha h H hz
theorem ZU {P:Program} {z:Option ZZ} {σ:Fr} {S:Store} {K:Fr->Store->Prop} {d:Option Nat} {g:FuncId} {caps:List V} {fz:Arg} {args:List Arg} {xs:List V} {r:List CO} {X:V} (h:VPure P g xs X) (hf:ev σ fz = .func g caps) (hc:jH P g=true) (ha:args.map (ev σ)++caps=xs) (H:jz P z r K (σ.put d X) S) (hz:noW z d=true:=by rfl):jz P z (⟨d,none, .callv fz args⟩::r) K σ S:=qx hf hc ha h H hz
theorem jg {k n:Nat} (h:k<n) (hn:n<2^63):IntKind.i64.wrap ((k:Int)+1)=(k:Int)+1:=wrap_i64 (by omega) (by omega)
end Go.Vw
namespace Go.Vw
open Go.Proofs Go.RowKit Go.ChangeShapes Go.WideShapes
theorem WU {l b:Nat} (hb:1<=b) (h:l*b<=140737488351232):l<=140737488355328:=by
 have:l*1<=l*b:=Nat.mul_le_mul_left _ hb;omega
theorem i64_of {n:Int} (h:(Lit.int .i64 n).wf=true):Ss.I64 n:=bounds_i64 h
theorem jcu:ReadsC Tryz.prog 3 (fun n:Int=>[vint n]) Ss.I64 :=
 (ReadsC.int Tryz.underlying3).map id (fun _=>rfl) (fun n h=>i64_of h)
theorem rdU64:ReadsC Tryz.prog 63 (fun n:Int=>[vu n]) (fun n=>0<=n/\n<18446744073709551616) :=
 (ReadsC.int Tryz.underlying63).map id (fun _=>rfl) (fun n h=>by have h1:=bounds_u64 h; simp only [id]; omega)
theorem rdBool:ReadsC Tryz.prog 4 (fun b:Bool=>[.bool b]) (fun _=>True):=ReadsC.bool Tryz.underlying4
theorem WF:ReadsC Tryz.prog 23 (fun l:List Int=>[vl vint l]) Ss.Ints :=
 (ReadsC.slice vint Tryz.underlying23 jcu (aQ (by kernel_rfl)) (fun _ => .inr rfl)).map id (fun _=>rfl) (fun l h=>⟨WU (aQ (by kernel_rfl)) h.1.2,h.2⟩)
theorem rdBools:ReadsC Tryz.prog 24 (fun l:List Bool=>[vl V.bool l]) (fun l=>l.length<=140737488355328) :=
 (ReadsC.slice V.bool Tryz.underlying24 rdBool (aQ (by kernel_rfl)) (fun _ => .inr rfl)).map id (fun _=>rfl) (fun l h=>WU (aQ (by kernel_rfl)) h.1.2)
theorem rdSig:ReadsC Tryz.prog 28 (fun s:Ss.Sig=>[vl vint s.inn,vl vint s.out]) Ss.Sig.Fits :=
 (ReadsC.struct Tryz.underlying28 (by kernel_rfl) (ReadsF.cons (by kernel_rfl) WF (ReadsF.cons (by kernel_rfl) WF ReadsF.nil))).map (fun p=>(⟨p.1,p.2.1⟩:Ss.Sig)) (fun _=>rfl) (fun p h=>⟨h.1,h.2.1⟩)
theorem rdSigs:ReadsC Tryz.prog 22 (fun l:List Ss.Sig=>[vl jm l]) (fun l=>l.length<=140737488355328 /\ ∀ s∈l,s.Fits) :=
 (ReadsC.slice jm Tryz.underlying22 rdSig (aQ (by kernel_rfl)) (fun _ => .inl rfl)).map id (fun _=>rfl) (fun l h=>⟨WU (aQ (by kernel_rfl)) h.1.2,h.2⟩)
theorem rdIns:ReadsC Tryz.prog 65 (fun x:Ss.Ins=>[vint x.op,vu x.n,vl vint x.args,vl vint x.outs]) Ss.Ins.Fits :=
 (ReadsC.struct Tryz.underlying65 (by kernel_rfl) (ReadsF.cons (by kernel_rfl) jcu (ReadsF.cons (by kernel_rfl) rdU64 (ReadsF.cons (by kernel_rfl) WF (ReadsF.cons (by kernel_rfl) WF ReadsF.nil))))).map (fun p=>(⟨p.1,p.2.1,p.2.2.1,p.2.2.2.1⟩:Ss.Ins)) (fun _=>rfl) (fun p h=>⟨h.1,h.2.1,h.2.2.1,h.2.2.2.1⟩)
theorem rdInss:ReadsC Tryz.prog 57 (fun l:List Ss.Ins=>[vl jp l]) (fun l=>l.length<=140737488355328 /\ ∀ s∈l,s.Fits) :=
 (ReadsC.slice jp Tryz.underlying57 rdIns (aQ (by kernel_rfl)) (fun _ => .inl rfl)).map id (fun _=>rfl) (fun l h=>⟨WU (aQ (by kernel_rfl)) h.1.2,h.2⟩)
theorem rdEdge:ReadsC Tryz.prog 67 (fun x:Ss.Edge=>[vint x.to,vl vint x.args]) Ss.Edge.Fits :=
 (ReadsC.struct Tryz.underlying67 (by kernel_rfl) (ReadsF.cons (by kernel_rfl) jcu (ReadsF.cons (by kernel_rfl) WF ReadsF.nil))).map (fun p=>(⟨p.1,p.2.1⟩:Ss.Edge)) (fun _=>rfl) (fun p h=>⟨h.1,h.2.1⟩)
theorem rdEdges:ReadsC Tryz.prog 58 (fun l:List Ss.Edge=>[vl jk l]) (fun l=>l.length<=140737488355328 /\ ∀ s∈l,s.Fits) :=
 (ReadsC.slice jk Tryz.underlying58 rdEdge (aQ (by kernel_rfl)) (fun _ => .inl rfl)).map id (fun _=>rfl) (fun l h=>⟨WU (aQ (by kernel_rfl)) h.1.2,h.2⟩)
theorem rdTerm:ReadsC Tryz.prog 60 (fun t:Ss.Term=>[vint t.kind,vint t.arg,vl jk t.to,vl vint t.args]) Ss.Term.Fits :=
 (ReadsC.struct Tryz.underlying60 (by kernel_rfl) (ReadsF.cons (by kernel_rfl) jcu (ReadsF.cons (by kernel_rfl) jcu (ReadsF.cons (by kernel_rfl) rdEdges (ReadsF.cons (by kernel_rfl) WF ReadsF.nil))))).map (fun p=>(⟨p.1,p.2.1,p.2.2.1,p.2.2.2.1⟩:Ss.Term)) (fun _=>rfl) (fun p h=>⟨h.1,h.2.1,h.2.2.1,h.2.2.2.1⟩)
theorem rdBlock:ReadsC Tryz.prog 62 (fun b:Ss.Block=>[vl vint b.params,vl jp b.code,vint b.term.kind,vint b.term.arg,vl jk b.term.to,vl vint b.term.args]) Ss.Block.Fits :=
 (ReadsC.struct Tryz.underlying62 (by kernel_rfl) (ReadsF.cons (by kernel_rfl) WF (ReadsF.cons (by kernel_rfl) rdInss (ReadsF.cons (by kernel_rfl) rdTerm ReadsF.nil)))).map (fun p=>(⟨p.1,p.2.1,p.2.2.1⟩:Ss.Block)) (fun _=>rfl) (fun p h=>⟨h.1,h.2.1,h.2.2.1⟩)
theorem rdBlocks:ReadsC Tryz.prog 29 (fun l:List Ss.Block=>[vl je l]) (fun l=>l.length<=140737488355328 /\ ∀ s∈l,s.Fits) :=
 (ReadsC.slice je Tryz.underlying29 rdBlock (aQ (by kernel_rfl)) (fun _ => .inl rfl)).map id (fun _=>rfl) (fun l h=>⟨WU (aQ (by kernel_rfl)) h.1.2,h.2⟩)
theorem rdFn:ReadsC Tryz.prog 31 (fun f:Ss.Fn=>[vl vint f.sig.inn,vl vint f.sig.out,vl vint f.types,vl je f.blocks]) Ss.Fn.Fits :=
 (ReadsC.struct Tryz.underlying31 (by kernel_rfl) (ReadsF.cons (by kernel_rfl) rdSig (ReadsF.cons (by kernel_rfl) WF (ReadsF.cons (by kernel_rfl) rdBlocks ReadsF.nil)))).map (fun p=>(⟨p.1,p.2.1,p.2.2.1⟩:Ss.Fn)) (fun _=>rfl) (fun p h=>⟨h.1,h.2.1,h.2.2.1⟩)
theorem rdEnv:ReadsC Tryz.prog 26 (fun e:Ss.Env=>[vl jm e.sigs,vint e.imports,vl vint e.globals,vl V.bool e.muts, .bool e.mem]) Ss.Env.Fits :=
 (ReadsC.struct Tryz.underlying26 (by kernel_rfl) (ReadsF.cons (by kernel_rfl) rdSigs (ReadsF.cons (by kernel_rfl) jcu (ReadsF.cons (by kernel_rfl) WF (ReadsF.cons (by kernel_rfl) rdBools (ReadsF.cons (by kernel_rfl) rdBool ReadsF.nil)))))).map (fun p=>(⟨p.1,p.2.1,p.2.2.1,p.2.2.2.1,p.2.2.2.2.1⟩:Ss.Env)) (fun _=>rfl) (fun p h=>⟨h.1,h.2.1,h.2.2.1,h.2.2.2.1⟩)
end Go.Vw
namespace Go.Vw
open Go.Proofs Go.RowKit
abbrev bS:=VPure Tryz.prog
abbrev bU:=VCalls Tryz.prog
end Go.Vw
namespace Go.Vw
open Go.Proofs Go.RowKit
attribute [-simp] List.map_set
def zd {α:Type} (p:α->Bool):List α->Nat->Int
 | [],_ => -1
 | x::xs,k=>if p x then (k:Int) else zd p xs (k+1)
theorem JN {α:Type} (p:α->Bool) : ∀ (l:List α) (k:Nat),decide (0<=zd p l k)=l.any p
 | [],k=>by simp [zd]
 | x::xs,k=>by
   cases h:p x
   ·simp [zd,h,JN p xs (k+1)]
   ·simp [zd,h]
def eqF {α:Type} (p:α->α->Bool):List α->List α->Bool
 | [],[]=>true
 | x::xs,y::ys=>p x y&&eqF p xs ys
 | _,_=>false
theorem eqF_len {α:Type} {p:α->α->Bool} : ∀ {l m:List α}, ¬ l.length=m.length->eqF p l m=false
 | [],[],h=>absurd rfl h
 | [],_::_,_=>rfl
 | _::_,[],_=>rfl
 | x::xs,y::ys,h=>by rw [eqF,eqF_len (l:=xs) (m:=ys) (by simpa using h)]; simp
theorem eqF_eq {α:Type} [DecidableEq α] {p:α->α->Bool} (hp : ∀ x y,p x y=decide (x=y)) : ∀ (l m:List α),eqF p l m=decide (l=m)
 | [],[]=>by simp [eqF]
 | [],_::_=>by simp [eqF]
 | _::_,[]=>by simp [eqF]
 | x::xs,y::ys=>by rw [eqF,hp,eqF_eq hp xs ys]; simp
theorem IndexL_v (l:List (List Int)) (p:List Int->Bool) (fid:FuncId) (caps:List V) (hc:jH Tryz.prog fid=true) (hl:l.length<2^63) (h : ∀ x∈l,bS fid ([vl vint x]++caps) (.bool (p x))) :
  bS 135 [vl (vl vint) l, .func fid caps] (vint (zd p l 0)):=by
 intro S;refine QB (c:=jc Tryz.f135) Tryz.func135 Tryz.ntmps135 fun hwf=>?_
 refine bw ?_
 refine QT ?_;refine jd [0,1,7,8] rfl (fun c σ S' => ∃ (k:Nat),k<=l.length/\c=l.length-k/\zd p (l.drop k) k=zd p l 0/\σ=[(0,vl (vl vint) l),(1, .func fid caps),(7,vnat l.length),(8,vnat k)]/\S'=St S [] []) l.length ?_ ?_
 ·exact ⟨0,by omega,rfl,rfl,by simp [Fr.only],rfl⟩
 ·rintro c σ T ⟨k,hk,rfl,hd,rfl,rfl⟩
  by_cases hkt:k<l.length
  ·have hst:zd p (l.drop k) k=if p l[k] then (k:Int) else zd p (l.drop (k+1)) (k+1):=by rw [am hkt,zd]
   have hw:=jg hkt hl
   refine bx hkt ?_
   refine bH hkt ?_;refine qx rfl hc rfl (h _ (ah hkt)) ?_;refine QW ?_
   cases hp:p l[k] with
   | true =>
    rw [hp] at hst
    refine bx hp ?_
    exact ja hwf (by rw [<-hd,hst]; rfl) rfl
   | false =>
    rw [hp] at hst
    refine bx hp ?_
    show js _ _ _ _ _ _ _;exact again ⟨ao hkt (aY k),k+1,hkt,rfl,by rw [<-hd,hst]; rfl,by simp [Fr.only,hw],rfl⟩
  ·have e:l.drop k=[]:=by rw [aH]; omega
   rw [e] at hd
   refine bx hkt ?_
   exact ja hwf (by rw [<-hd]; rfl) rfl
theorem AnyL_v (l:List (List Int)) (p:List Int->Bool) (fid:FuncId) (caps:List V) (hc:jH Tryz.prog fid=true) (hl:l.length<2^63) (h : ∀ x∈l,bS fid ([vl vint x]++caps) (.bool (p x))) :
  bS 116 [vl (vl vint) l, .func fid caps] (.bool (l.any p)):=by
 intro S;refine QB (c:=jc Tryz.f116) Tryz.func116 Tryz.ntmps116 fun hwf=>?_
 rw [<-JN p l 0]
 refine bw ?_
 refine QP ?_;refine QL (IndexL_v l p fid caps hc hl h) ?_;refine bQ ?_
 exact bN
theorem IndexI_v (l:List (Int)) (p:Int->Bool) (fid:FuncId) (caps:List V) (hc:jH Tryz.prog fid=true) (hl:l.length<2^63) (h : ∀ x∈l,bS fid ([vint x]++caps) (.bool (p x))) :
  bS 74 [vl (vint) l, .func fid caps] (vint (zd p l 0)):=by
 intro S;refine QB (c:=jc Tryz.f74) Tryz.func74 Tryz.ntmps74 fun hwf=>?_
 refine bw ?_
 refine QT ?_;refine jd [0,1,7,8] rfl (fun c σ S' => ∃ (k:Nat),k<=l.length/\c=l.length-k/\zd p (l.drop k) k=zd p l 0/\σ=[(0,vl (vint) l),(1, .func fid caps),(7,vnat l.length),(8,vnat k)]/\S'=St S [] []) l.length ?_ ?_
 ·exact ⟨0,by omega,rfl,rfl,by simp [Fr.only],rfl⟩
 ·rintro c σ T ⟨k,hk,rfl,hd,rfl,rfl⟩
  by_cases hkt:k<l.length
  ·have hst:zd p (l.drop k) k=if p l[k] then (k:Int) else zd p (l.drop (k+1)) (k+1):=by rw [am hkt,zd]
   have hw:=jg hkt hl
   refine bx hkt ?_
   refine bH hkt ?_;refine qx rfl hc rfl (h _ (ah hkt)) ?_;refine QW ?_
   cases hp:p l[k] with
   | true =>
    rw [hp] at hst
    refine bx hp ?_
    exact ja hwf (by rw [<-hd,hst]; rfl) rfl
   | false =>
    rw [hp] at hst
    refine bx hp ?_
    show js _ _ _ _ _ _ _;exact again ⟨ao hkt (aY k),k+1,hkt,rfl,by rw [<-hd,hst]; rfl,by simp [Fr.only,hw],rfl⟩
  ·have e:l.drop k=[]:=by rw [aH]; omega
   rw [e] at hd
   refine bx hkt ?_
   exact ja hwf (by rw [<-hd]; rfl) rfl
theorem AnyI_v (l:List (Int)) (p:Int->Bool) (fid:FuncId) (caps:List V) (hc:jH Tryz.prog fid=true) (hl:l.length<2^63) (h : ∀ x∈l,bS fid ([vint x]++caps) (.bool (p x))) :
  bS 94 [vl (vint) l, .func fid caps] (.bool (l.any p)):=by
 intro S;refine QB (c:=jc Tryz.f94) Tryz.func94 Tryz.ntmps94 fun hwf=>?_
 rw [<-JN p l 0]
 refine bw ?_
 refine QP ?_;refine QL (IndexI_v l p fid caps hc hl h) ?_;refine bQ ?_
 exact bN
theorem IndexB_v (l:List (Ss.Block)) (p:Ss.Block->Bool) (fid:FuncId) (caps:List V) (hc:jH Tryz.prog fid=true) (hl:l.length<2^63) (h : ∀ x∈l,bS fid ([je x]++caps) (.bool (p x))) :
  bS 97 [vl (je) l, .func fid caps] (vint (zd p l 0)):=by
 intro S;refine QB (c:=jc Tryz.f97) Tryz.func97 Tryz.ntmps97 fun hwf=>?_
 refine bw ?_
 refine QT ?_;refine jd [0,1,7,8] rfl (fun c σ S' => ∃ (k:Nat),k<=l.length/\c=l.length-k/\zd p (l.drop k) k=zd p l 0/\σ=[(0,vl (je) l),(1, .func fid caps),(7,vnat l.length),(8,vnat k)]/\S'=St S [] []) l.length ?_ ?_
 ·exact ⟨0,by omega,rfl,rfl,by simp [Fr.only],rfl⟩
 ·rintro c σ T ⟨k,hk,rfl,hd,rfl,rfl⟩
  by_cases hkt:k<l.length
  ·have hst:zd p (l.drop k) k=if p l[k] then (k:Int) else zd p (l.drop (k+1)) (k+1):=by rw [am hkt,zd]
   have hw:=jg hkt hl
   refine bx hkt ?_
   refine bH hkt ?_;refine qx rfl hc rfl (h _ (ah hkt)) ?_;refine QW ?_
   cases hp:p l[k] with
   | true =>
    rw [hp] at hst
    refine bx hp ?_
    exact ja hwf (by rw [<-hd,hst]; rfl) rfl
   | false =>
    rw [hp] at hst
    refine bx hp ?_
    show js _ _ _ _ _ _ _;exact again ⟨ao hkt (aY k),k+1,hkt,rfl,by rw [<-hd,hst]; rfl,by simp [Fr.only,hw],rfl⟩
  ·have e:l.drop k=[]:=by rw [aH]; omega
   rw [e] at hd
   refine bx hkt ?_
   exact ja hwf (by rw [<-hd]; rfl) rfl
theorem AnyB_v (l:List (Ss.Block)) (p:Ss.Block->Bool) (fid:FuncId) (caps:List V) (hc:jH Tryz.prog fid=true) (hl:l.length<2^63) (h : ∀ x∈l,bS fid ([je x]++caps) (.bool (p x))) :
  bS 61 [vl (je) l, .func fid caps] (.bool (l.any p)):=by
 intro S;refine QB (c:=jc Tryz.f61) Tryz.func61 Tryz.ntmps61 fun hwf=>?_
 rw [<-JN p l 0]
 refine bw ?_
 refine QP ?_;refine QL (IndexB_v l p fid caps hc hl h) ?_;refine bQ ?_
 exact bN
theorem IndexS_v (l:List (Ss.Sig)) (p:Ss.Sig->Bool) (fid:FuncId) (caps:List V) (hc:jH Tryz.prog fid=true) (hl:l.length<2^63) (h : ∀ x∈l,bS fid ([jm x]++caps) (.bool (p x))) :
  bS 115 [vl (jm) l, .func fid caps] (vint (zd p l 0)):=by
 intro S;refine QB (c:=jc Tryz.f115) Tryz.func115 Tryz.ntmps115 fun hwf=>?_
 refine bw ?_
 refine QT ?_;refine jd [0,1,7,8] rfl (fun c σ S' => ∃ (k:Nat),k<=l.length/\c=l.length-k/\zd p (l.drop k) k=zd p l 0/\σ=[(0,vl (jm) l),(1, .func fid caps),(7,vnat l.length),(8,vnat k)]/\S'=St S [] []) l.length ?_ ?_
 ·exact ⟨0,by omega,rfl,rfl,by simp [Fr.only],rfl⟩
 ·rintro c σ T ⟨k,hk,rfl,hd,rfl,rfl⟩
  by_cases hkt:k<l.length
  ·have hst:zd p (l.drop k) k=if p l[k] then (k:Int) else zd p (l.drop (k+1)) (k+1):=by rw [am hkt,zd]
   have hw:=jg hkt hl
   refine bx hkt ?_
   refine bH hkt ?_;refine qx rfl hc rfl (h _ (ah hkt)) ?_;refine QW ?_
   cases hp:p l[k] with
   | true =>
    rw [hp] at hst
    refine bx hp ?_
    exact ja hwf (by rw [<-hd,hst]; rfl) rfl
   | false =>
    rw [hp] at hst
    refine bx hp ?_
    show js _ _ _ _ _ _ _;exact again ⟨ao hkt (aY k),k+1,hkt,rfl,by rw [<-hd,hst]; rfl,by simp [Fr.only,hw],rfl⟩
  ·have e:l.drop k=[]:=by rw [aH]; omega
   rw [e] at hd
   refine bx hkt ?_
   exact ja hwf (by rw [<-hd]; rfl) rfl
theorem AnyS_v (l:List (Ss.Sig)) (p:Ss.Sig->Bool) (fid:FuncId) (caps:List V) (hc:jH Tryz.prog fid=true) (hl:l.length<2^63) (h : ∀ x∈l,bS fid ([jm x]++caps) (.bool (p x))) :
  bS 91 [vl (jm) l, .func fid caps] (.bool (l.any p)):=by
 intro S;refine QB (c:=jc Tryz.f91) Tryz.func91 Tryz.ntmps91 fun hwf=>?_
 rw [<-JN p l 0]
 refine bw ?_
 refine QP ?_;refine QL (IndexS_v l p fid caps hc hl h) ?_;refine bQ ?_
 exact bN
theorem IndexN_v (l:List (Ss.Ins)) (p:Ss.Ins->Bool) (fid:FuncId) (caps:List V) (hc:jH Tryz.prog fid=true) (hl:l.length<2^63) (h : ∀ x∈l,bS fid ([jp x]++caps) (.bool (p x))) :
  bS 72 [vl (jp) l, .func fid caps] (vint (zd p l 0)):=by
 intro S;refine QB (c:=jc Tryz.f72) Tryz.func72 Tryz.ntmps72 fun hwf=>?_
 refine bw ?_
 refine QT ?_;refine jd [0,1,7,8] rfl (fun c σ S' => ∃ (k:Nat),k<=l.length/\c=l.length-k/\zd p (l.drop k) k=zd p l 0/\σ=[(0,vl (jp) l),(1, .func fid caps),(7,vnat l.length),(8,vnat k)]/\S'=St S [] []) l.length ?_ ?_
 ·exact ⟨0,by omega,rfl,rfl,by simp [Fr.only],rfl⟩
 ·rintro c σ T ⟨k,hk,rfl,hd,rfl,rfl⟩
  by_cases hkt:k<l.length
  ·have hst:zd p (l.drop k) k=if p l[k] then (k:Int) else zd p (l.drop (k+1)) (k+1):=by rw [am hkt,zd]
   have hw:=jg hkt hl
   refine bx hkt ?_
   refine bH hkt ?_;refine qx rfl hc rfl (h _ (ah hkt)) ?_;refine QW ?_
   cases hp:p l[k] with
   | true =>
    rw [hp] at hst
    refine bx hp ?_
    exact ja hwf (by rw [<-hd,hst]; rfl) rfl
   | false =>
    rw [hp] at hst
    refine bx hp ?_
    show js _ _ _ _ _ _ _;exact again ⟨ao hkt (aY k),k+1,hkt,rfl,by rw [<-hd,hst]; rfl,by simp [Fr.only,hw],rfl⟩
  ·have e:l.drop k=[]:=by rw [aH]; omega
   rw [e] at hd
   refine bx hkt ?_
   exact ja hwf (by rw [<-hd]; rfl) rfl
theorem AnyN_v (l:List (Ss.Ins)) (p:Ss.Ins->Bool) (fid:FuncId) (caps:List V) (hc:jH Tryz.prog fid=true) (hl:l.length<2^63) (h : ∀ x∈l,bS fid ([jp x]++caps) (.bool (p x))) :
  bS 121 [vl (jp) l, .func fid caps] (.bool (l.any p)):=by
 intro S;refine QB (c:=jc Tryz.f121) Tryz.func121 Tryz.ntmps121 fun hwf=>?_
 rw [<-JN p l 0]
 refine bw ?_
 refine QP ?_;refine QL (IndexN_v l p fid caps hc hl h) ?_;refine bQ ?_
 exact bN
end Go.Vw
/-
  Regions that draw, with two allocations that stand in no order: a walk for each of the two orders.
-/
namespace Go.Vw
open Go.RowKit
def jx (ops:Array Oper) (j i:Nat):Array Oper:=ops.modify j fun o=>{ o with after:=o.after.push ⟨i, .data⟩ }
theorem qN (ops:Array Oper) (j i:Nat):(jx ops j i).size=ops.size:=by simp [jx]
theorem JE (ops:Array Oper) {j i k:Nat} (h:k≠j):(jx ops j i)[k]? = ops[k]? := by
  simp only [jx,Array.getElem?_modify];rw [if_neg (Ne.symm h)]
theorem jbb (ops:Array Oper) {j i:Nat} {o:Oper} (h:ops[j]? = some o):(jx ops j i)[j]? = some { o with after:=o.after.push ⟨i, .data⟩ }:=by
  simp only [jx,Array.getElem?_modify,if_true,h,bl]
theorem jak {ops:Array Oper} {i j k:Nat} {listed:Array Bool} (h:k∈Region.ready .any (jx ops j i) listed):k∈Region.ready .any ops listed:=by
  obtain ⟨h1,o,ho,hall⟩:=mem_ready.1 h
  by_cases e:k=j
  ·subst e
   cases hk:ops[k]? with
   | none =>
     have:(jx ops k i).size<=k:=by rw [qN]; exact Array.getElem?_eq_none_iff.1 hk
     rw [Array.getElem?_eq_none this] at ho; cases ho
   | some o' =>
     rw [jbb ops hk] at ho
     cases ho
     exact mem_ready.2 ⟨h1,o',hk,fun e he=>hall e (by simp [he])⟩
  ·rw [JE ops e] at ho;exact mem_ready.2 ⟨h1,o,ho,hall⟩
theorem qB {ops:Array Oper} {i j k:Nat} {listed:Array Bool} (h:k∈Region.ready .any ops listed) (hk:k≠j\/listed.getD i false=true):k∈Region.ready .any (jx ops j i) listed:=by
  obtain ⟨h1,o,ho,hall⟩:=mem_ready.1 h
  by_cases e:k=j
  ·subst e;have hi:=hk.resolve_left (fun h=>h rfl);refine mem_ready.2 ⟨h1,_,jbb ops ho,fun e he hb => ?_⟩;simp only [Array.mem_push] at he;rcases he with he | rfl
   ·exact hall e he hb
   ·exact hi
  ·exact mem_ready.2 ⟨h1,o,by rw [JE ops e]; exact ho,hall⟩
section
variable {P:Program} {Z:ZZ} {ops:Array Oper} {cs:List CO} {Q:Ff->Store->Prop}
theorem set_true_i {listed:Array Bool} {i k:Nat} (h:listed.getD i false=true):(listed.setIfInBounds k true).getD i false=true:=by
  by_cases e:k=i
  ·subst e;have:k<listed.size:=by
     rcases Nat.lt_or_ge k listed.size with h' | h'
     ·exact h'
     ·simp [Array.getElem?_eq_none h'] at h
   simp [this]
  ·rw [getD_set_ne false e]; exact h
theorem KE {i j:Nat} : ∀ (n:Nat) (listed:Array Bool) (τ:Ff) (S:Store),listed.getD i false=true->anyZ P Z (jx ops j i) cs Q n listed τ S->anyZ P Z ops cs Q n listed τ S
  | 0,listed,τ,S,hi,h=>⟨List.eq_nil_iff_forall_not_mem.2 fun k hk=>(by have:=qB (i:=i) (j:=j) hk (.inr hi); rw [h.1] at this; cases this),h.2⟩
  | n+1,listed,τ,S,hi,h=>by
    refine ⟨fun h0=>h.1 (List.eq_nil_iff_forall_not_mem.2 fun k hk=>by have:=jak hk; rw [h0] at this; cases this),fun k hk => ?_⟩;exact Ya (fun τ S=>KE n _ τ S (set_true_i hi)) (h.2 k (qB hk (.inr hi)))
theorem jbr {o:CO} {v v':V} {τ:Ff} {S S1 S1':Store} (hc:o.op.isCall=false) (h:Wa P Z o v τ S S1) (h':Wa P Z o v' τ S S1'):v=v'/\S1=S1':=by
  have rd : ∀ {Y:Store} {v v':V},Jk P Y τ o.op v->Jk P Y τ o.op v'->v=v':=by
    intro Y v v' h h'
    cases hop:o.op with
    | call f a=>rw [hop] at hc; simp [COp.isCall] at hc
    | callv f a=>rw [hop] at hc; simp [COp.isCall] at hc
    | _ =>
      rw [hop] at h h';simp only [Jk] at h h';obtain ⟨Z1,e1⟩:=h;obtain ⟨Z2,e2⟩:=h';rw [e1] at e2;exact (Prod.mk.inj (Option.some.inj e2)).1
  rcases h with ⟨w1,h⟩ | ⟨w1,rfl,rfl⟩
  ·rcases h' with ⟨w2,h'⟩ | ⟨w2,_,_⟩
   ·rcases h with ⟨r1,rfl,k1⟩ | ⟨r1,k1,_⟩
    ·rcases h' with ⟨r2,rfl,k2⟩ | ⟨r2,k2,_⟩
     ·exact ⟨rd k1 k2,rfl⟩
     ·rw [r1] at r2; cases r2
    ·rcases h' with ⟨r2,rfl,k2⟩ | ⟨r2,k2,_⟩
     ·rw [r1] at r2; cases r2
     ·have wv : ∀ {v:V} {S1:Store},zw P (trnL Z.es o.dst) τ S o.op v S1->ji (evf τ) S o.op=some (v,S1):=by
        intro v S1 h
        cases hop:o.op with
        | call f a=>rw [hop] at hc; simp [COp.isCall] at hc
        | callv f a=>rw [hop] at hc; simp [COp.isCall] at hc
        | _=>rw [hop] at h; exact h
      have e1:=wv k1;have e2:=wv k2;rw [e1] at e2; cases e2; exact ⟨rfl,rfl⟩
   ·rw [w1] at w2; cases w2
  ·rcases h' with ⟨w2,h'⟩ | ⟨w2,rfl,rfl⟩
   ·rw [w1] at w2; cases w2
   ·exact ⟨rfl,rfl⟩
theorem anyZ_two {i j:Nat} (hij:i≠j) (hdet : ∀ (k:Nat) o,cs[k]? = some o->o.op.isCall=false) (hlen:cs.length=ops.size) : ∀ (n:Nat) (listed:Array Bool) (τ:Ff) (S:Store),listed.getD i true=false->listed.getD j true=false ->
    anyZ P Z (jx ops j i) cs Q n listed τ S->anyZ P Z (jx ops i j) cs Q n listed τ S->anyZ P Z ops cs Q n listed τ S
  | 0,listed,τ,S,hi,hj,h1,h2=>⟨List.eq_nil_iff_forall_not_mem.2 fun k hk=>(by
      by_cases e:k=j
      ·have:=qB (i:=j) (j:=i) hk (.inl (by omega)); rw [h2.1] at this; cases this
      ·have:=qB (i:=i) (j:=j) hk (.inl e); rw [h1.1] at this; cases this),h1.2⟩
  | n+1,listed,τ,S,hi,hj,h1,h2=>by
    have lt : ∀ {k:Nat},listed.getD k true=false->(listed.setIfInBounds k true).getD k false=true:=by
      intro k hk;have:k<listed.size:=by
        rcases Nat.lt_or_ge k listed.size with h' | h'
        ·exact h'
        ·simp [Array.getElem?_eq_none h'] at hk
      simp [this]
    refine ⟨fun h0=>h1.1 (List.eq_nil_iff_forall_not_mem.2 fun k hk=>by have:=jak hk; rw [h0] at this; cases this),fun k hk => ?_⟩
    by_cases ei:k=i
    ·subst ei;exact Ya (fun τ S=>KE n _ τ S (lt hi)) (h1.2 k (qB hk (.inl hij)))
    by_cases ej:k=j
    ·subst ej;exact Ya (fun τ S=>KE n _ τ S (lt hj)) (h2.2 k (qB hk (.inl ei)))
    have k1:=h1.2 k (qB hk (.inl ej));have k2:=h2.2 k (qB hk (.inl ei));obtain ⟨_,o',ho',_⟩:=mem_ready.1 hk;have hlt:k<cs.length:=by rw [hlen]; exact (Array.getElem?_eq_some_iff.1 ho').1
    have hok:cs[k]? = some cs[k]:=ac hlt;simp only [atZ,hok] at k1 k2 ⊢;rw [qE] at k1 k2 ⊢;obtain ⟨v,S1,y1,n1⟩:=k1;obtain ⟨v',S1',y2,n2⟩:=k2;obtain ⟨rfl,rfl⟩:=jbr (hdet k _ hok) y1 y2;exact ⟨v,S1,y1,anyZ_two hij hdet hlen n _ _ _ (by rw [getD_set_ne true ei]; exact hi) (by rw [getD_set_ne true ej]; exact hj) n1 n2⟩
theorem Je {Q':Ff->Store->Prop} (hq : ∀ τ S,Q τ S->Q' τ S) : ∀ {l:List CO} {τ:Ff} {S:Store},Kk P Z Q l τ S->Kk P Z Q' l τ S
  | [],τ,S,h=>hq τ S h
  | o::r,τ,S,h=>by
    simp only [Kk] at h ⊢;rw [qE] at h ⊢;obtain ⟨v,S1,h1,h2⟩:=h;exact ⟨v,S1,h1,Je hq h2⟩
def lexO (es ms:List Nat) (ops:Array Oper) (cs:List CO):List Nat->Array Bool->Bool
  | [],listed=>(Region.ready .any ops listed).isEmpty
  | k::ord,listed=>(Region.ready .any ops listed).contains k &&
      (match cs[k]? with
       | some oi=>(List.range cs.length).all fun j=>j==k||listed.getD j true||ZO ms k j||(match cs[j]? with
          | some oj=>oi.apart oj&&(isRd es oi||isRd es oj)
          | none=>true)
       | none=>false)&&lexO es ms ops cs ord (listed.setIfInBounds k true)
def Zq (cs:List CO) (ord:List Nat):List CO:=ord.filterMap fun k=>cs[k]?
theorem Yb (hlen:cs.length=ops.size) : ∀ (ord:List Nat) (listed:Array Bool) (τ:Ff) (S:Store),qV ops listed->lexO Z.es (qJ ops) ops cs ord listed=true->Kk P Z Q (Zq cs ord) τ S->anyZ P Z ops cs Q ord.length listed τ S
  | [],_,_,_,_,hB,h=>⟨by simpa [lexO] using hB,h⟩
  | k::ord,listed,τ,S,hcl,hB,h=>by
    simp only [lexO,af] at hB;obtain ⟨⟨hr,hf⟩,hB'⟩:=hB
    cases h0:cs[k]? with
    | none=>rw [h0] at hf; cases hf
    | some o =>
    have hp:Zq cs (k::ord)=o::Zq cs ord:=by simp [Zq,h0]
    rw [hp] at h;simp only [Kk] at h;rw [qE] at h;obtain ⟨v,S1,hy,hK⟩:=h;have hr':k∈Region.ready .any ops listed:=by simpa using hr
    refine YO h0 hlen ord.length listed τ S S1 hcl (fun j oj hj hne hun hno => ?_) hr' hy (Yb hlen ord _ _ _ (zQ hcl hr') hB' hK);simp only [h0,aD,List.mem_range] at hf;have h1:=hf j (ae.1 hj).1;have hnm:ZO (qJ ops) k j=false:=by
      cases hm:ZO (qJ ops) k j with
      | false=>rfl
      | true=>obtain ⟨n,hn⟩:=JP hm; rw [hno n] at hn; cases hn
    simp only [hj,bq,beq_iff_eq,hne,false_or,hun,aF,hnm,af] at h1;exact h1
end
section
variable {P:Program} {N b:Nat} {Q:Exit->Fr->Store->Prop} {σ:Fr} {S:Store}
theorem jca {id:Nat} {ops:Array Oper} {cs:List CO} {Z:ZZ} {i j:Nat} {ord1 ord2:List Nat} (hm:P.follows .mixedOrders=true) (hc:qh P N ops=some cs) (hnc:cs.all (fun o => !o.op.isCall)=true) (hij:i≠j) (hi:i<ops.size) (hj:j<ops.size)
    (hB1:lexO Z.es (qJ (jx ops j i)) (jx ops j i) cs ord1 (Array.replicate ops.size false)=true) (hB2:lexO Z.es (qJ (jx ops i j)) (jx ops i j) cs ord2 (Array.replicate ops.size false)=true)
    (hn1:ord1.length=ops.size) (hn2:ord2.length=ops.size) (hE:zh (qJ ops) cs Z.es=true) (hz:Z.ok S) (h0:Z.z0.Sub S)
    (H1:Kk P Z (fun τ S => ∃ σ':Fr,σ'.look=τ/\Q .normal σ' S) (Zq cs ord1) σ.look S) (H2:Kk P Z (fun τ S => ∃ σ':Fr,σ'.look=τ/\Q .normal σ' S) (Zq cs ord2) σ.look S):VWp P N b (.region id ops true) Q σ S:=by
  intro m β w a hS hF;obtain ⟨hlen,_⟩:=jaS hc;refine wp_region_any hm ?_;have hcl : ∀ ops':Array Oper,ops'.size=ops.size->qV ops' (Array.replicate ops.size false):=by
    intro ops' he i o ho hi;have:i<ops'.size:=(Array.getElem?_eq_some_iff.1 ho).1;rw [he] at this;simp [this] at hi
  have a1:=Yb (P:=P) (Z:=Z) (ops:=jx ops j i) (by rw [qN]; exact hlen) ord1 _ σ.look S (hcl _ (qN _ _ _)) hB1 H1;have a2:=Yb (P:=P) (Z:=Z) (ops:=jx ops i j) (by rw [qN]; exact hlen) ord2 _ σ.look S (hcl _ (qN _ _ _)) hB2 H2;rw [hn1] at a1;rw [hn2] at a2;have:=anyZ_two hij (fun k o hk=>by
    simp only [aD] at hnc;have:=hnc o (aA hk);simpa using this) hlen ops.size _ σ.look S (by simp [hi]) (by simp [hj]) a1 a2
  exact YN hc hE ops.size _ σ S m β _ a this (hcl ops rfl) hz (fun _=>h0) hS.drew hF ((Ext.drew m β w).toB b)
theorem Yj {c c2:Code} {cs:List CO} {Q2:Exit->Fr->Store->Prop} {σm:Fr} {Sm:Store} (Z:ZZ) (i j:Nat) (ord1 ord2:List Nat) (h:Code.kind c=2) (hm:P.follows .mixedOrders=true) (hc:qh P N (Code.ops c)=some cs) (hnc:cs.all (fun o => !o.op.isCall)=true) (hij:i≠j)
    (hi:decide (i<(Code.ops c).size)=true) (hj:decide (j<(Code.ops c).size)=true)
    (hB1:lexO Z.es (qJ (jx (Code.ops c) j i)) (jx (Code.ops c) j i) cs ord1 (Array.replicate (Code.ops c).size false)=true) (hB2:lexO Z.es (qJ (jx (Code.ops c) i j)) (jx (Code.ops c) i j) cs ord2 (Array.replicate (Code.ops c).size false)=true)
    (hn1:ord1.length=(Code.ops c).size) (hn2:ord2.length=(Code.ops c).size) (hes:Z.es=[]) (hz:Z.ok S) (h0:Z.z0.Sub S)
    {cs1 cs2:List CO} (hp1:Zq cs ord1=cs1) (hp2:Zq cs ord2=cs2)
    (H1:jz P (some Z) cs1 (fun σ S=>Reach N b σ S σm Sm) σ S) (H2:jz P (some Z) cs2 (fun σ S=>Reach N b σ S σm Sm) σ S) (H:VWp P N b c2 Q2 σm Sm):VWp P N b c (Kq (VWp P N b c2 Q2) Q) σ S:=by
  subst hp1;subst hp2
  cases c with
  | region id ops d =>
    cases d
    ·simp [Code.kind] at h
    ·refine jca hm hc hnc hij (aQ hi) (aQ hj) hB1 hB2 hn1 hn2 (by rw [hes]; exact jaP _ _) hz h0 ?_ ?_
     ·exact Je (fun τ S=>fun ⟨σ',e,hr⟩=>⟨σ',e,jE hr H⟩) (qT _ σ S H1)
     ·exact Je (fun τ S=>fun ⟨σ',e,hr⟩=>⟨σ',e,jE hr H⟩) (qT _ σ S H2)
  | _=>simp [Code.kind] at h
end
/-! ### .. behind a part that stands in the order of the text -/
section
variable {P:Program} {Z:ZZ} {ops:Array Oper} {cs:List CO} {Q:Ff->Store->Prop}
def jaA (es ms:List Nat) (ops:Array Oper) (cs:List CO):Nat->Nat->Array Bool->Bool
  | 0,_,_=>true
  | n+1,k,listed=>(Region.ready .any ops listed).contains k &&
      (match cs[k]? with
       | some oi=>(List.range cs.length).all fun j=>j==k||listed.getD j true||ZO ms k j||(match cs[j]? with
          | some oj=>oi.apart oj&&(isRd es oi||isRd es oj)
          | none=>true)
       | none=>false)&&jaA es ms ops cs n (k+1) (listed.setIfInBounds k true)
def zz:Nat->Nat->Array Bool->Array Bool
  | 0,_,l=>l
  | n+1,k,l=>zz n (k+1) (l.setIfInBounds k true)
theorem anyZ_pre (hlen:cs.length=ops.size) {fuel:Nat} : ∀ (l:List CO) (k:Nat) (listed:Array Bool) (τ:Ff) (S:Store),(∀ j<l.length,l[j]? = cs[k+j]?)->qV ops listed->jaA Z.es (qJ ops) ops cs l.length k listed=true ->
    Kk P Z (fun τ S=>anyZ P Z ops cs Q fuel (zz l.length k listed) τ S) l τ S->anyZ P Z ops cs Q (fuel+l.length) listed τ S
  | [],_,_,_,_,_,_,_,h=>h
  | o::l,k,listed,τ,S,hl,hcl,hB,h=>by
    have h0:cs[k]? = some o:=by simpa using (hl 0 (by simp)).symm
    simp only [aC,jaA,af,h0] at hB;obtain ⟨⟨hr,hf⟩,hB'⟩:=hB;simp only [Kk] at h;rw [qE] at h;obtain ⟨v,S1,hy,hK⟩:=h;have hr':k∈Region.ready .any ops listed:=by simpa using hr
    refine YO h0 hlen (fuel+l.length) listed τ S S1 hcl (fun j oj hj hne hun hno => ?_) hr' hy (anyZ_pre hlen l (k+1) _ _ _ (fun j hj=>by have:=hl (j+1) (by simp; omega); simpa [Nat.add_assoc,Nat.add_comm 1 j] using this) (zQ hcl hr') hB' hK);simp only [aD,List.mem_range] at hf;have h1:=hf j (ae.1 hj).1;have hnm:ZO (qJ ops) k j=false:=by
      cases hm:ZO (qJ ops) k j with
      | false=>rfl
      | true=>obtain ⟨n,hn⟩:=JP hm; rw [hno n] at hn; cases hn
    simp only [hj,bq,beq_iff_eq,hne,false_or,hun,aF,hnm,af] at h1;exact h1
theorem Zg (hlen:cs.length=ops.size) {es:List Nat} : ∀ (n k:Nat) (listed:Array Bool),qV ops listed->jaA es (qJ ops) ops cs n k listed=true->qV ops (zz n k listed)
  | 0,_,_,h,_=>h
  | n+1,k,listed,h,hB=>by
    simp only [jaA,af] at hB;exact Zg hlen n (k+1) _ (zQ h (by simpa using hB.1.1)) hB.2
theorem WZ {listed:Array Bool} {i j:Nat} (h:qV ops listed) (hj:listed.getD j true=false):qV (jx ops j i) listed:=by
  intro k o ho hk
  by_cases e:k=j
  ·subst e; rw [hj] at hk; cases hk
  ·rw [JE ops e] at ho;exact h k o ho hk
theorem anyZ_twoL {i j:Nat} (hij:i≠j) (hlen:cs.length=ops.size) : ∀ (n:Nat) (listed:Array Bool) (τ:Ff) (S:Store),(∀ (k:Nat) o,cs[k]? = some o->k≠i->k≠j->listed.getD k true=false->o.op.isCall=false)->listed.getD i true=false->listed.getD j true=false ->
    anyZ P Z (jx ops j i) cs Q n listed τ S->anyZ P Z (jx ops i j) cs Q n listed τ S->anyZ P Z ops cs Q n listed τ S
  | 0,listed,τ,S,_,hi,hj,h1,h2=>⟨List.eq_nil_iff_forall_not_mem.2 fun k hk=>(by
      by_cases e:k=j
      ·have:=qB (i:=j) (j:=i) hk (.inl (by omega)); rw [h2.1] at this; cases this
      ·have:=qB (i:=i) (j:=j) hk (.inl e); rw [h1.1] at this; cases this),h1.2⟩
  | n+1,listed,τ,S,hdet,hi,hj,h1,h2=>by
    have lt : ∀ {k:Nat},listed.getD k true=false->(listed.setIfInBounds k true).getD k false=true:=by
      intro k hk;have:k<listed.size:=by
        rcases Nat.lt_or_ge k listed.size with h' | h'
        ·exact h'
        ·simp [Array.getElem?_eq_none h'] at hk
      simp [this]
    refine ⟨fun h0=>h1.1 (List.eq_nil_iff_forall_not_mem.2 fun k hk=>by have:=jak hk; rw [h0] at this; cases this),fun k hk => ?_⟩
    by_cases ei:k=i
    ·subst ei;exact Ya (fun τ S=>KE n _ τ S (lt hi)) (h1.2 k (qB hk (.inl hij)))
    by_cases ej:k=j
    ·subst ej;exact Ya (fun τ S=>KE n _ τ S (lt hj)) (h2.2 k (qB hk (.inl ei)))
    have k1:=h1.2 k (qB hk (.inl ej));have k2:=h2.2 k (qB hk (.inl ei));obtain ⟨hun,o',ho',_⟩:=mem_ready.1 hk;have hlt:k<cs.length:=by rw [hlen]; exact (Array.getElem?_eq_some_iff.1 ho').1
    have hok:cs[k]? = some cs[k]:=ac hlt;simp only [atZ,hok] at k1 k2 ⊢;rw [qE] at k1 k2 ⊢;obtain ⟨v,S1,y1,n1⟩:=k1;obtain ⟨v',S1',y2,n2⟩:=k2;obtain ⟨rfl,rfl⟩:=jbr (hdet k _ hok ei ej hun) y1 y2;refine ⟨v,S1,y1,anyZ_twoL hij hlen n _ _ _ (fun k' o hk' h3 h4 h5=>hdet k' o hk' h3 h4 ?_) (by rw [getD_set_ne true ei]; exact hi) (by rw [getD_set_ne true ej]; exact hj) n1 n2⟩
    by_cases e:k=k'
    ·subst e; exact hun
    ·rw [getD_set_ne true e] at h5; exact h5
end
section
variable {P:Program} {N b:Nat} {Q:Exit->Fr->Store->Prop} {σ:Fr} {S:Store}
def callsOk (cs:List CO) (i j n0:Nat):Bool:=(List.range cs.length).all fun k=>decide (k<n0)||k==i||k==j||(match cs[k]? with | some o => !o.op.isCall | none=>true)
theorem vw_drawSplit {c c2:Code} {cs:List CO} {Q2:Exit->Fr->Store->Prop} (Z:ZZ) (n0 i j:Nat) (ord1 ord2:List Nat) (h:Code.kind c=2) (hm:P.follows .mixedOrders=true) (hc:qh P N (Code.ops c)=some cs) (hnc:callsOk cs i j n0=true) (hij:i≠j)
    (hp:jaA Z.es (qJ (Code.ops c)) (Code.ops c) cs n0 0 (Array.replicate (Code.ops c).size false)=true)
    (hi:(zz n0 0 (Array.replicate (Code.ops c).size false)).getD i true=false) (hj:(zz n0 0 (Array.replicate (Code.ops c).size false)).getD j true=false)
    (hu:(List.range n0).all (fun k=>(zz n0 0 (Array.replicate (Code.ops c).size false)).getD k true)=true)
    (hB1:lexO Z.es (qJ (jx (Code.ops c) j i)) (jx (Code.ops c) j i) cs ord1 (zz n0 0 (Array.replicate (Code.ops c).size false))=true) (hB2:lexO Z.es (qJ (jx (Code.ops c) i j)) (jx (Code.ops c) i j) cs ord2 (zz n0 0 (Array.replicate (Code.ops c).size false))=true)
    (hn0:decide (n0<=(Code.ops c).size)=true) (hn1:ord1.length+n0=(Code.ops c).size) (hn2:ord2.length+n0=(Code.ops c).size) (hE:zh (qJ (Code.ops c)) cs Z.es=true) (hz:Z.ok S) (h0:Z.z0.Sub S)
    {cs0 cs1 cs2:List CO} (hp0:cs.take n0=cs0) (hp1:Zq cs ord1=cs1) (hp2:Zq cs ord2=cs2)
    (H:jz P (some Z) cs0 (fun σ S => ∃ σm Sm,VWp P N b c2 Q2 σm Sm/\jz P (some Z) cs1 (fun σ S=>Reach N b σ S σm Sm) σ S/\jz P (some Z) cs2 (fun σ S=>Reach N b σ S σm Sm) σ S) σ S):VWp P N b c (Kq (VWp P N b c2 Q2) Q) σ S:=by
  subst hp0;subst hp1;subst hp2
  cases c with
  | region id ops d =>
    cases d
    ·simp [Code.kind] at h
    ·intro m β w a hS hF;simp only [Code.ops] at *
     obtain ⟨hlen,_⟩:=jaS hc;refine wp_region_any hm ?_;have hcl:qV ops (Array.replicate ops.size false):=by
       intro i o ho hi;have:i<ops.size:=(Array.getElem?_eq_some_iff.1 ho).1;simp [this] at hi
     have hle:n0<=cs.length:=by rw [hlen]; exact aQ hn0
     have hl0:(cs.take n0).length=n0:=by rw [List.length_take,Nat.min_eq_left hle]
     have hcl1:=Zg hlen n0 0 _ hcl hp;have key:Kk P Z (fun τ S=>anyZ P Z ops cs (fun τ S => ∃ σ':Fr,σ'.look=τ/\(Kq (VWp P N b c2 Q2) Q) .normal σ' S) ord1.length (zz n0 0 (Array.replicate ops.size false)) τ S) (cs.take n0) σ.look S:=by
       refine Je (fun τ S => ?_) (qT _ σ S H);rintro ⟨σ1,rfl,σm,Sm,hQ,H1,H2⟩;have a1:=Yb (P:=P) (Z:=Z) (Q:=fun τ S => ∃ σ':Fr,σ'.look=τ/\(Kq (VWp P N b c2 Q2) Q) .normal σ' S) (ops:=jx ops j i) (by rw [qN]; exact hlen) ord1 _ σ1.look S (WZ hcl1 hj) hB1 (Je (fun τ S=>fun ⟨σ',e,hr⟩=>⟨σ',e,jE hr hQ⟩) (qT _ σ1 S H1));have a2:=Yb (P:=P) (Z:=Z) (Q:=fun τ S => ∃ σ':Fr,σ'.look=τ/\(Kq (VWp P N b c2 Q2) Q) .normal σ' S) (ops:=jx ops i j) (by rw [qN]; exact hlen) ord2 _ σ1.look S (WZ hcl1 hi) hB2 (Je (fun τ S=>fun ⟨σ',e,hr⟩=>⟨σ',e,jE hr hQ⟩) (qT _ σ1 S H2));rw [show ord2.length=ord1.length by omega] at a2;refine anyZ_twoL hij hlen ord1.length _ σ1.look S (fun k o hk h3 h4 h5 => ?_) hi hj a1 a2;simp only [callsOk,aD,List.mem_range] at hnc;have hh:=hnc k (ae.1 hk).1
       have h6 : ¬ k<n0:=fun h6=>by
         simp only [aD,List.mem_range] at hu;rw [hu k h6] at h5; cases h5
       simpa [h6,h3,h4,hk] using hh
     have:=anyZ_pre (P:=P) (Z:=Z) hlen (cs.take n0) 0 (Array.replicate ops.size false) σ.look S (fun q hq=>by rw [bd,List.getElem?_take,if_pos (by omega)]) hcl (by rw [hl0]; exact hp) (by rw [hl0]; exact key);rw [hl0,hn1] at this;exact YN hc hE ops.size _ σ S m β _ a this hcl hz (fun _=>h0) hS.drew hF ((Ext.drew m β w).toB b)
  | _=>simp [Code.kind] at h
end
theorem zM {N b:Nat} {σ σ':Fr} {S:Store} (ks:List Nat) (h:σ.only ks=σ'):Reach N b σ S σ' S:=by subst h; exact Reach.only ks
theorem Jf {N:Nat} {σ σ1 σ':Fr} {B:Store} {u u':Upds} {l l':List (Option (Nat × List V))} (ks gs:List Nat) (hσ1:σ.only ks=σ1) (hw:B.Wf) (h1:gs.Nodup) (h2:(JX B.nx gs u&&YF B.nx gs l gs&&idsF (gcP B.nx gs) σ1)=true)
    (hu:gcU B.nx gs u=u') (hl:gcL B.nx gs l gs=l') (hσ:renF (gcTo B.nx gs) σ1=σ'):Reach N B.nx σ (St B u l) σ' (St B u' l') :=
  (zM ks hσ1).trans (Reach.gc gs hw h1 h2 hu hl hσ)
end Go.Vw
