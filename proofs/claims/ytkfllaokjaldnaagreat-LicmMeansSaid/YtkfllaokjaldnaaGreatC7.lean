import Derived.Test.YtkfllaokjaldnaaGreatC6
import Derived.Test.YtkfllaokjaldnaaGreatProg
import Derived.OpenShut
/- Part of the proof. -/
set_option linter.unusedVariables false
set_option linter.unusedSimpArgs false
set_option maxRecDepth 100000
set_option maxHeartbeats 4000000
/-
 More rules for walks.
-/
namespace Go.Vw
open Go.RowKit
theorem jbs {P:Program} {N b:Nat} {Q Q2:Exit->Fr->Store->Prop} {σ σ':Fr} {S S':Store} {c c2:Code} {cs:List CO} (p:Prop) (ks:List Nat) (h:Code.kind c=1) (hc:qj P N (Code.ops c)=some cs)
  (hA:p -> ∃ σ1,runV none cs σ S=some ([],σ1,S')/\σ1.oy ks=σ') (hB : ¬ p -> ∃ σ1,runV none cs σ S=some ([],σ1,S')/\σ1.oy ks=σ') (H:VWp P N b c2 Q2 σ' S'):VWp P N b c (JS (VWp P N b c2 Q2) Q) σ S:=by
 have fin:(∃ σ1,runV none cs σ S=some ([],σ1,S')/\σ1.oy ks=σ')->VWp P N b c (JS (VWp P N b c2 Q2) Q) σ S:=by
  rintro ⟨σ1,h1,h2⟩;exact jX h hc h1 (jam (jcp ks (by rw [h2]; exact H)))
 by_cases hp:p
 .exact fin (hA hp)
 .exact fin (hB hp)
def mapS (ns:List Nat):List V:=ns.map fun n => .tuple [cu n, .bool true]
def addS (ns:List Nat) (n:Nat):List Nat:=if n∈ns then ns else ns++[n]
theorem YN (n:Nat) : ∀ (ns:List Nat) (i:Nat),(n∉ns/\zo (.int .i64 (n:Int)) (mapS ns) i=some none) \/ ∃ j,n∈ns/\ns[j]? = some n/\zo (.int .i64 (n:Int)) (mapS ns) i=some (some (i+j, .bool true))
 | [],i => .inl ⟨by simp,rfl⟩
 | x::ns,i=>by
  by_cases e:n=x
  .subst e;exact .inr ⟨0,by simp,rfl,by simp [mapS,zo,zA,cu]⟩
  .have e':((n:Int)==(x:Int))=false:=by simp; omega
   have h0:zo (.int .i64 (n:Int)) (mapS (x::ns)) i=zo (.int .i64 (n:Int)) (mapS ns) (i+1):=by
    show (match zA (.int .i64 (n:Int)) (cu x) with | some true=>_ | some false=>_ | none=>_)=_;simp only [zA,cu,if_true,e']
    rfl
   rcases YN n ns (i+1) with ⟨h1,h2⟩ | ⟨j,h1,h2,h3⟩
   .exact .inl ⟨by simp [e,h1],by rw [h0,h2]⟩
   .exact .inr ⟨j+1,by simp [h1],by simpa using h2,by rw [h0,h3]; simp; omega⟩
theorem afi {S:Store} {o:Nat} {ns:List Nat} {n:Nat} (h:S.get o=some (0,mapS ns)):qX (.bool false) false S (.map o) (.int .i64 (n:Int))=some (.bool (decide (n∈ns))):=by
 simp only [qX,h];rcases YN n ns 0 with ⟨h1,h2⟩ | ⟨j,h1,h2,h3⟩
 .simp [h2,h1]
 .simp [h3,h1]
theorem jaG {S:Store} {o:Nat} {ns:List Nat} {n:Nat} (h:S.get o=some (0,mapS ns)):qq S (.map o) (.int .i64 (n:Int)) (.bool true)=some (S.upd o (0,mapS (addS ns n))):=by
 simp only [qq,h];rcases YN n ns 0 with ⟨h1,h2⟩ | ⟨j,h1,h2,h3⟩
 .simp only [h2,addS,if_neg h1];simp [mapS,cu]
 .simp only [h3,addS,h1,if_true,a8];have e:(mapS ns).set j (.tuple [.int .i64 (n:Int), .bool true])=mapS ns:=by
   refine List.ext_getElem? fun i => ?_
   by_cases hij:j=i
   .subst hij;have hj:j<ns.length:=(ae.1 h2).1;have hv:ns[j]=n:=(ae.1 h2).2;simp [mapS,hj,hv,cu]
   .rw [aQ hij]
  rw [e]
theorem aoh (f:Nat->Nat) (ns:List Nat):V.renL f (mapS ns)=mapS ns:=by
 unfold mapS;rw [qi,List.map_map];exact aZ fun x _=>by simp [V.ren,V.renL,cu]
theorem ao7 (p:Nat->Bool) (ns:List Nat):V.idsL p (mapS ns)=true:=by
 unfold mapS;rw [qF,List.all_map];simp [V.ids,V.idsL,cu]
attribute [simp] afi jaG aoh ao7
end Go.Vw
/-
 What the functions of layer 7 compute, in plain Lean.
-/
namespace Go.Vw.G
def okIx (l:List Int) (n:Int):Prop:=0<=n/\n<l.length
instance (l:List Int) (n:Int):Decidable (okIx l n):=inferInstanceAs (Decidable (_/\_))
def dom1 (l:List Int) (a:Int):Nat->Int->Bool
 | 0,_=>false
 | n+1,b=>if okIx l b then (if a=b then true else dom1 l a n (l.getD b.toNat 0)) else false
def cy (l:List Int) (a b:Int):Bool:=if okIx l a then dom1 l a 257 b else false
def wild (len:Nat) (n:Int):Bool:=decide (n<0)||decide ((len:Int)<=n)
def find (p:Int->Bool):List Int->Nat->Int
 | [],_ => -1
 | x::xs,k=>if p x then k else find p xs (k+1)
theorem agp (p:Int->Bool) : ∀ (l:List Int) (k:Nat),decide (0<=find p l k)=l.any p
 | [],k=>by simp [find]
 | x::xs,k=>by
   cases h:p x
   .simp [find,h,agp p xs (k+1)]
   .simp [find,h]
def rowOk (len:Nat) (l:List Int):Bool:=decide (l.length<=128) && !(l.any (wild len))
def right (g:List (List Int)):Bool:=decide (1<=g.length)&&decide (g.length<=256)&&g.all (rowOk g.length)
end Go.Vw.G
/-
 Functions in SSA form, told plainly; what they read as.
-/
namespace Ss
structure Sig where
 inn:List Int
 out:List Int
deriving DecidableEq,Inhabited
structure Ins where
 op:Int
 n:Int
 args:List Int
 outs:List Int
deriving DecidableEq,Inhabited
structure Edge where
 to:Int
 args:List Int
deriving DecidableEq,Inhabited
structure Term where
 kind:Int
 arg:Int
 to:List Edge
 args:List Int
deriving DecidableEq,Inhabited
structure Block where
 params:List Int
 code:List Ins
 term:Term
deriving DecidableEq,Inhabited
structure Fn where
 sig:Sig
 types:List Int
 blocks:List Block
deriving DecidableEq,Inhabited
structure Env where
 sigs:List Sig
 imports:Int
 globals:List Int
 muts:List Bool
 mem:Bool
deriving DecidableEq,Inhabited
def I64 (n:Int):Prop := -9223372036854775808<=n/\n<=9223372036854775807
def Ints (l:List Int):Prop:=l.length<=140737488355328 /\ ∀ n∈l,I64 n
def Sig.Fits (s:Sig):Prop:=Ints s.inn/\Ints s.out
def Ins.Fits (x:Ins):Prop:=I64 x.op/\(0<=x.n/\x.n<18446744073709551616)/\Ints x.args/\Ints x.outs
def Edge.Fits (x:Edge):Prop:=I64 x.to/\Ints x.args
def Term.Fits (t:Term):Prop:=I64 t.kind/\I64 t.arg/\(t.to.length<=140737488355328 /\ ∀ x∈t.to,x.Fits)/\Ints t.args
def Block.Fits (b:Block):Prop:=Ints b.params/\(b.code.length<=140737488355328 /\ ∀ x∈b.code,x.Fits)/\b.term.Fits
def Fn.Fits (f:Fn):Prop:=f.sig.Fits/\Ints f.types/\(f.blocks.length<=140737488355328 /\ ∀ b∈f.blocks,b.Fits)
def Env.Fits (e:Env):Prop:=(e.sigs.length<=140737488355328 /\ ∀ s∈e.sigs,s.Fits)/\I64 e.imports/\Ints e.globals/\e.muts.length<=140737488355328
end Ss
namespace Go.Vw
def vu (n:Int):V := .int .u64 n
def jn (s:Ss.Sig):V := .agg [vl cj s.inn,vl cj s.out]
def js (x:Ss.Ins):V := .agg [cj x.op,vu x.n,vl cj x.args,vl cj x.outs]
def ji (x:Ss.Edge):V := .agg [cj x.to,vl cj x.args]
def encTerm (t:Ss.Term):V := .agg [cj t.kind,cj t.arg,vl ji t.to,vl cj t.args]
def je (b:Ss.Block):V := .agg [vl cj b.params,vl js b.code,cj b.term.kind,cj b.term.arg,vl ji b.term.to,vl cj b.term.args]
def jM (f:Ss.Fn):V := .agg [vl cj f.sig.inn,vl cj f.sig.out,vl cj f.types,vl je f.blocks]
def qQ (e:Ss.Env):V := .agg [vl jn e.sigs,cj e.imports,vl cj e.globals,vl V.bool e.muts, .bool e.mem]
theorem Jg (x:Ss.Ins):(js x).closed=true:=rfl
theorem zT (x:Ss.Edge):(ji x).closed=true:=rfl
theorem KE (x:Ss.Block):(je x).closed=true:=rfl
theorem zr (x:Ss.Ins):(js x).cells=[cj x.op,vu x.n,vl cj x.args,vl cj x.outs]:=nr rfl
theorem zB (x:Ss.Edge):(ji x).cells=[cj x.to,vl cj x.args]:=nr rfl
theorem zk (b:Ss.Block):(je b).cells=[vl cj b.params,vl js b.code,cj b.term.kind,cj b.term.arg,vl ji b.term.to,vl cj b.term.args]:=nr rfl
theorem am3 (x:Ss.Sig):(jn x).ncells=2:=nr rfl
theorem aql (x:Ss.Ins):(js x).ncells=4:=nr rfl
theorem akg (x:Ss.Edge):(ji x).ncells=2:=nr rfl
theorem aih (x:Ss.Block):(je x).ncells=6:=nr rfl
theorem anq (s:Ss.Sig):jn s = .agg [vl cj s.inn,vl cj s.out]:=nr rfl
theorem aqb (x:Ss.Ins):js x = .agg [cj x.op,vu x.n,vl cj x.args,vl cj x.outs]:=nr rfl
theorem amq (x:Ss.Edge):ji x = .agg [cj x.to,vl cj x.args]:=nr rfl
theorem amm (t:Ss.Term):encTerm t = .agg [cj t.kind,cj t.arg,vl ji t.to,vl cj t.args]:=nr rfl
theorem ai3 (b:Ss.Block):je b = .agg [vl cj b.params,vl js b.code,cj b.term.kind,cj b.term.arg,vl ji b.term.to,vl cj b.term.args]:=nr rfl
theorem ato (f:Ss.Fn):jM f = .agg [vl cj f.sig.inn,vl cj f.sig.out,vl cj f.types,vl je f.blocks]:=nr rfl
theorem apm (e:Ss.Env):qQ e = .agg [vl jn e.sigs,cj e.imports,vl cj e.globals,vl V.bool e.muts, .bool e.mem]:=nr rfl
theorem axj (n:Int):(vu n).one=true:=nr rfl
theorem asc (t:Nat) (σ:Fr):resV [t] σ=σ.lk t:=nr rfl
theorem ats (t u:Nat) (σ:Fr):resV [t,u] σ = .tuple [σ.lk t,σ.lk u]:=nr rfl
theorem aym (t u v:Nat) (σ:Fr):resV [t,u,v] σ = .tuple [σ.lk t,σ.lk u,σ.lk v]:=nr rfl
theorem ayr (t u v w:Nat) (σ:Fr):resV [t,u,v,w] σ = .tuple [σ.lk t,σ.lk u,σ.lk v,σ.lk w]:=nr rfl
theorem ati (σ:Fr):resV [] σ = .tuple []:=nr rfl
attribute [simp] asc ats aym ayr ati am3 aql akg aih anq aqb amq amm ai3 ato apm axj vu
theorem azf {P:Program} {z:Option ZZ} {σ:Fr} {S:Store} {K:Fr->Store->Prop} {d:Option Nat} {f:FuncId} {args:List Arg} {xs:List V} {r:List CO} {X:V} (h:VPure P f xs X) (ha:args.map (ev σ)=xs) (H:jI P z r K (σ.put d X) S) (hz:noW z d=true:=by rfl):jI P z (⟨d,none, .call f args⟩::r) K σ S:=jb ha h H hz
theorem jao {P:Program} {z:Option ZZ} {σ:Fr} {S:Store} {K:Fr->Store->Prop} {d:Option Nat} {g:FuncId} {caps:List V} {fz:Arg} {args:List Arg} {xs:List V} {r:List CO} {X:V} (h:VPure P g xs X) (hf:ev σ fz = .func g caps) (hc:jT P g=true) (ha:args.map (ev σ)++caps=xs) (H:jI P z r K (σ.put d X) S) (hz:noW z d=true:=by rfl):jI P z (⟨d,none, .callv fz args⟩::r) K σ S:=qU hf hc ha h H hz
theorem jg {k n:Nat} (h:k<n) (hn:n<2^63):IntKind.i64.wrap ((k:Int)+1)=(k:Int)+1:=wrap_i64 (by omega) (by omega)
end Go.Vw
namespace Go.Vw
open Go.Proofs Go.RowKit Go.ChangeShapes Go.WideShapes
theorem Yb {l b:Nat} (hb:1<=b) (h:l*b<=140737488351232):l<=140737488355328:=by
 have:l*1<=l*b:=Nat.mul_le_mul_left _ hb;omega
theorem axz {n:Int} (h:(Lit.int .i64 n).wf=true):Ss.I64 n:=bounds_i64 h
theorem jcN:ReadsC Tryz.prog 3 (fun n:Int=>[cj n]) Ss.I64 :=
 (ReadsC.int Tryz.underlying3).map id (fun _=>rfl) (fun n h=>axz h)
theorem azj:ReadsC Tryz.prog 63 (fun n:Int=>[vu n]) (fun n=>0<=n/\n<18446744073709551616) :=
 (ReadsC.int Tryz.underlying63).map id (fun _=>rfl) (fun n h=>by have h1:=bounds_u64 h; simp only [id]; omega)
theorem aoj:ReadsC Tryz.prog 4 (fun b:Bool=>[.bool b]) (fun _=>True):=ReadsC.bool Tryz.underlying4
theorem WL:ReadsC Tryz.prog 23 (fun l:List Int=>[vl cj l]) Ss.Ints :=
 (ReadsC.slice cj Tryz.underlying23 jcN (aP (by kernel_rfl)) (fun _ => .inr rfl)).map id (fun _=>rfl) (fun l h=>⟨Yb (aP (by kernel_rfl)) h.1.2,h.2⟩)
theorem avq:ReadsC Tryz.prog 24 (fun l:List Bool=>[vl V.bool l]) (fun l=>l.length<=140737488355328) :=
 (ReadsC.slice V.bool Tryz.underlying24 aoj (aP (by kernel_rfl)) (fun _ => .inr rfl)).map id (fun _=>rfl) (fun l h=>Yb (aP (by kernel_rfl)) h.1.2)
theorem aur:ReadsC Tryz.prog 28 (fun s:Ss.Sig=>[vl cj s.inn,vl cj s.out]) Ss.Sig.Fits :=
 (ReadsC.struct Tryz.underlying28 (by kernel_rfl) (ReadsF.cons (by kernel_rfl) WL (ReadsF.cons (by kernel_rfl) WL ReadsF.nil))).map (fun p=>(⟨p.1,p.2.1⟩:Ss.Sig)) (fun _=>rfl) (fun p h=>⟨h.1,h.2.1⟩)
theorem axr:ReadsC Tryz.prog 22 (fun l:List Ss.Sig=>[vl jn l]) (fun l=>l.length<=140737488355328 /\ ∀ s∈l,s.Fits) :=
 (ReadsC.slice jn Tryz.underlying22 aur (aP (by kernel_rfl)) (fun _ => .inl rfl)).map id (fun _=>rfl) (fun l h=>⟨Yb (aP (by kernel_rfl)) h.1.2,h.2⟩)
theorem azl:ReadsC Tryz.prog 65 (fun x:Ss.Ins=>[cj x.op,vu x.n,vl cj x.args,vl cj x.outs]) Ss.Ins.Fits :=
 (ReadsC.struct Tryz.underlying65 (by kernel_rfl) (ReadsF.cons (by kernel_rfl) jcN (ReadsF.cons (by kernel_rfl) azj (ReadsF.cons (by kernel_rfl) WL (ReadsF.cons (by kernel_rfl) WL ReadsF.nil))))).map (fun p=>(⟨p.1,p.2.1,p.2.2.1,p.2.2.2.1⟩:Ss.Ins)) (fun _=>rfl) (fun p h=>⟨h.1,h.2.1,h.2.2.1,h.2.2.2.1⟩)
theorem axe:ReadsC Tryz.prog 57 (fun l:List Ss.Ins=>[vl js l]) (fun l=>l.length<=140737488355328 /\ ∀ s∈l,s.Fits) :=
 (ReadsC.slice js Tryz.underlying57 azl (aP (by kernel_rfl)) (fun _ => .inl rfl)).map id (fun _=>rfl) (fun l h=>⟨Yb (aP (by kernel_rfl)) h.1.2,h.2⟩)
theorem ay5:ReadsC Tryz.prog 67 (fun x:Ss.Edge=>[cj x.to,vl cj x.args]) Ss.Edge.Fits :=
 (ReadsC.struct Tryz.underlying67 (by kernel_rfl) (ReadsF.cons (by kernel_rfl) jcN (ReadsF.cons (by kernel_rfl) WL ReadsF.nil))).map (fun p=>(⟨p.1,p.2.1⟩:Ss.Edge)) (fun _=>rfl) (fun p h=>⟨h.1,h.2.1⟩)
theorem avr:ReadsC Tryz.prog 58 (fun l:List Ss.Edge=>[vl ji l]) (fun l=>l.length<=140737488355328 /\ ∀ s∈l,s.Fits) :=
 (ReadsC.slice ji Tryz.underlying58 ay5 (aP (by kernel_rfl)) (fun _ => .inl rfl)).map id (fun _=>rfl) (fun l h=>⟨Yb (aP (by kernel_rfl)) h.1.2,h.2⟩)
theorem ayh:ReadsC Tryz.prog 60 (fun t:Ss.Term=>[cj t.kind,cj t.arg,vl ji t.to,vl cj t.args]) Ss.Term.Fits :=
 (ReadsC.struct Tryz.underlying60 (by kernel_rfl) (ReadsF.cons (by kernel_rfl) jcN (ReadsF.cons (by kernel_rfl) jcN (ReadsF.cons (by kernel_rfl) avr (ReadsF.cons (by kernel_rfl) WL ReadsF.nil))))).map (fun p=>(⟨p.1,p.2.1,p.2.2.1,p.2.2.2.1⟩:Ss.Term)) (fun _=>rfl) (fun p h=>⟨h.1,h.2.1,h.2.2.1,h.2.2.2.1⟩)
theorem awf:ReadsC Tryz.prog 62 (fun b:Ss.Block=>[vl cj b.params,vl js b.code,cj b.term.kind,cj b.term.arg,vl ji b.term.to,vl cj b.term.args]) Ss.Block.Fits :=
 (ReadsC.struct Tryz.underlying62 (by kernel_rfl) (ReadsF.cons (by kernel_rfl) WL (ReadsF.cons (by kernel_rfl) axe (ReadsF.cons (by kernel_rfl) ayh ReadsF.nil)))).map (fun p=>(⟨p.1,p.2.1,p.2.2.1⟩:Ss.Block)) (fun _=>rfl) (fun p h=>⟨h.1,h.2.1,h.2.2.1⟩)
theorem asp:ReadsC Tryz.prog 29 (fun l:List Ss.Block=>[vl je l]) (fun l=>l.length<=140737488355328 /\ ∀ s∈l,s.Fits) :=
 (ReadsC.slice je Tryz.underlying29 awf (aP (by kernel_rfl)) (fun _ => .inl rfl)).map id (fun _=>rfl) (fun l h=>⟨Yb (aP (by kernel_rfl)) h.1.2,h.2⟩)
theorem rdFn:ReadsC Tryz.prog 31 (fun f:Ss.Fn=>[vl cj f.sig.inn,vl cj f.sig.out,vl cj f.types,vl je f.blocks]) Ss.Fn.Fits :=
 (ReadsC.struct Tryz.underlying31 (by kernel_rfl) (ReadsF.cons (by kernel_rfl) aur (ReadsF.cons (by kernel_rfl) WL (ReadsF.cons (by kernel_rfl) asp ReadsF.nil)))).map (fun p=>(⟨p.1,p.2.1,p.2.2.1⟩:Ss.Fn)) (fun _=>rfl) (fun p h=>⟨h.1,h.2.1,h.2.2.1⟩)
theorem azi:ReadsC Tryz.prog 26 (fun e:Ss.Env=>[vl jn e.sigs,cj e.imports,vl cj e.globals,vl V.bool e.muts, .bool e.mem]) Ss.Env.Fits :=
 (ReadsC.struct Tryz.underlying26 (by kernel_rfl) (ReadsF.cons (by kernel_rfl) axr (ReadsF.cons (by kernel_rfl) jcN (ReadsF.cons (by kernel_rfl) WL (ReadsF.cons (by kernel_rfl) avq (ReadsF.cons (by kernel_rfl) aoj ReadsF.nil)))))).map (fun p=>(⟨p.1,p.2.1,p.2.2.1,p.2.2.2.1,p.2.2.2.2.1⟩:Ss.Env)) (fun _=>rfl) (fun p h=>⟨h.1,h.2.1,h.2.2.1,h.2.2.2.1⟩)
end Go.Vw
namespace Go.Vw
open Go.Proofs Go.RowKit
abbrev b8:=VPure Tryz.prog
abbrev b9:=VCalls Tryz.prog
end Go.Vw
namespace Go.Vw
open Go.Proofs Go.RowKit
attribute [-simp] List.map_set
def qm {α:Type} (p:α->Bool):List α->Nat->Int
 | [],_ => -1
 | x::xs,k=>if p x then (k:Int) else qm p xs (k+1)
theorem zY {α:Type} (p:α->Bool) : ∀ (l:List α) (k:Nat),decide (0<=qm p l k)=l.any p
 | [],k=>by simp [qm]
 | x::xs,k=>by
   cases h:p x
   .simp [qm,h,zY p xs (k+1)]
   .simp [qm,h]
def eqF {α:Type} (p:α->α->Bool):List α->List α->Bool
 | [],[]=>true
 | x::xs,y::ys=>p x y&&eqF p xs ys
 | _,_=>false
theorem eqF_len {α:Type} {p:α->α->Bool} : ∀ {l m:List α}, ¬ l.length=m.length->eqF p l m=false
 | [],[],h=>absurd rfl h
 | [],_::_,_=>rfl
 | _::_,[],_=>rfl
 | x::xs,y::ys,h=>by rw [eqF,eqF_len (l:=xs) (m:=ys) (by simpa using h)]; simp
theorem anh {α:Type} [DecidableEq α] {p:α->α->Bool} (hp : ∀ x y,p x y=decide (x=y)) : ∀ (l m:List α),eqF p l m=decide (l=m)
 | [],[]=>by simp [eqF]
 | [],_::_=>by simp [eqF]
 | _::_,[]=>by simp [eqF]
 | x::xs,y::ys=>by rw [eqF,hp,anh hp xs ys]; simp
theorem ata (l:List (List Int)) (p:List Int->Bool) (fid:FuncId) (caps:List V) (hc:jT Tryz.prog fid=true) (hl:l.length<2^63) (h : ∀ x∈l,b8 fid ([vl cj x]++caps) (.bool (p x))) :
  b8 144 [vl (vl cj) l, .func fid caps] (cj (qm p l 0)):=by
 intro S;refine b7 Tryz.func144 Tryz.ntmps144 fun hwf=>?_
 refine bz ?_
 refine bX [0,1,7,8] (fun c σ S' => ∃ (k:Nat),k<=l.length/\c=l.length-k/\qm p (l.drop k) k=qm p l 0/\σ=[(0,vl (vl cj) l),(1, .func fid caps),(7,cu l.length),(8,cu k)]/\S'=St S [] []) l.length ?_ ?_
 .exact ⟨0,by omega,rfl,rfl,by simp [Fr.oy],rfl⟩
 .rintro c σ T ⟨k,hk,rfl,hd,rfl,rfl⟩
  by_cases hkt:k<l.length
  .have hst:qm p (l.drop k) k=if p l[k] then (k:Int) else qm p (l.drop (k+1)) (k+1):=by rw [am hkt,qm]
   have hw:=jg hkt hl
   refine bD hkt ?_
   refine bN hkt ?_;refine qU rfl hc rfl (h _ (ah hkt)) ?_;refine QW ?_
   cases hp:p l[k] with
   | true =>
    rw [hp] at hst
    refine bD hp ?_
    exact ja hwf (by rw [<-hd,hst]; rfl) rfl
   | false =>
    rw [hp] at hst
    refine bD hp ?_
    show jx _ _ _ _ _ _ _;exact again ⟨ao hkt (aW k),k+1,hkt,rfl,by rw [<-hd,hst]; rfl,by simp [Fr.oy,hw],rfl⟩
  .have e:l.drop k=[]:=by rw [aH]; omega
   rw [e] at hd
   refine bD hkt ?_
   exact ja hwf (by rw [<-hd]; rfl) rfl
theorem ax4 (l:List (List Int)) (p:List Int->Bool) (fid:FuncId) (caps:List V) (hc:jT Tryz.prog fid=true) (hl:l.length<2^63) (h : ∀ x∈l,b8 fid ([vl cj x]++caps) (.bool (p x))) :
  b8 128 [vl (vl cj) l, .func fid caps] (.bool (l.any p)):=by
 intro S;refine b7 Tryz.func128 Tryz.ntmps128 fun hwf=>?_
 rw [<-zY p l 0]
 refine bz ?_
 refine QP ?_;refine QL (ata l p fid caps hc hl h) ?_;refine bV ?_
 exact bS
theorem aqu (l:List (Int)) (p:Int->Bool) (fid:FuncId) (caps:List V) (hc:jT Tryz.prog fid=true) (hl:l.length<2^63) (h : ∀ x∈l,b8 fid ([cj x]++caps) (.bool (p x))) :
  b8 84 [vl (cj) l, .func fid caps] (cj (qm p l 0)):=by
 intro S;refine b7 Tryz.func84 Tryz.ntmps84 fun hwf=>?_
 refine bz ?_
 refine bX [0,1,7,8] (fun c σ S' => ∃ (k:Nat),k<=l.length/\c=l.length-k/\qm p (l.drop k) k=qm p l 0/\σ=[(0,vl (cj) l),(1, .func fid caps),(7,cu l.length),(8,cu k)]/\S'=St S [] []) l.length ?_ ?_
 .exact ⟨0,by omega,rfl,rfl,by simp [Fr.oy],rfl⟩
 .rintro c σ T ⟨k,hk,rfl,hd,rfl,rfl⟩
  by_cases hkt:k<l.length
  .have hst:qm p (l.drop k) k=if p l[k] then (k:Int) else qm p (l.drop (k+1)) (k+1):=by rw [am hkt,qm]
   have hw:=jg hkt hl
   refine bD hkt ?_
   refine bN hkt ?_;refine qU rfl hc rfl (h _ (ah hkt)) ?_;refine QW ?_
   cases hp:p l[k] with
   | true =>
    rw [hp] at hst
    refine bD hp ?_
    exact ja hwf (by rw [<-hd,hst]; rfl) rfl
   | false =>
    rw [hp] at hst
    refine bD hp ?_
    show jx _ _ _ _ _ _ _;exact again ⟨ao hkt (aW k),k+1,hkt,rfl,by rw [<-hd,hst]; rfl,by simp [Fr.oy,hw],rfl⟩
  .have e:l.drop k=[]:=by rw [aH]; omega
   rw [e] at hd
   refine bD hkt ?_
   exact ja hwf (by rw [<-hd]; rfl) rfl
theorem ayc (l:List (Int)) (p:Int->Bool) (fid:FuncId) (caps:List V) (hc:jT Tryz.prog fid=true) (hl:l.length<2^63) (h : ∀ x∈l,b8 fid ([cj x]++caps) (.bool (p x))) :
  b8 32 [vl (cj) l, .func fid caps] (.bool (l.any p)):=by
 intro S;refine b7 Tryz.func32 Tryz.ntmps32 fun hwf=>?_
 rw [<-zY p l 0]
 refine bz ?_
 refine QP ?_;refine QL (aqu l p fid caps hc hl h) ?_;refine bV ?_
 exact bS
theorem ari (l:List (Ss.Block)) (p:Ss.Block->Bool) (fid:FuncId) (caps:List V) (hc:jT Tryz.prog fid=true) (hl:l.length<2^63) (h : ∀ x∈l,b8 fid ([je x]++caps) (.bool (p x))) :
  b8 102 [vl (je) l, .func fid caps] (cj (qm p l 0)):=by
 intro S;refine b7 Tryz.func102 Tryz.ntmps102 fun hwf=>?_
 refine bz ?_
 refine bX [0,1,7,8] (fun c σ S' => ∃ (k:Nat),k<=l.length/\c=l.length-k/\qm p (l.drop k) k=qm p l 0/\σ=[(0,vl (je) l),(1, .func fid caps),(7,cu l.length),(8,cu k)]/\S'=St S [] []) l.length ?_ ?_
 .exact ⟨0,by omega,rfl,rfl,by simp [Fr.oy],rfl⟩
 .rintro c σ T ⟨k,hk,rfl,hd,rfl,rfl⟩
  by_cases hkt:k<l.length
  .have hst:qm p (l.drop k) k=if p l[k] then (k:Int) else qm p (l.drop (k+1)) (k+1):=by rw [am hkt,qm]
   have hw:=jg hkt hl
   refine bD hkt ?_
   refine bN hkt ?_;refine qU rfl hc rfl (h _ (ah hkt)) ?_;refine QW ?_
   cases hp:p l[k] with
   | true =>
    rw [hp] at hst
    refine bD hp ?_
    exact ja hwf (by rw [<-hd,hst]; rfl) rfl
   | false =>
    rw [hp] at hst
    refine bD hp ?_
    show jx _ _ _ _ _ _ _;exact again ⟨ao hkt (aW k),k+1,hkt,rfl,by rw [<-hd,hst]; rfl,by simp [Fr.oy,hw],rfl⟩
  .have e:l.drop k=[]:=by rw [aH]; omega
   rw [e] at hd
   refine bD hkt ?_
   exact ja hwf (by rw [<-hd]; rfl) rfl
theorem ayq (l:List (Ss.Block)) (p:Ss.Block->Bool) (fid:FuncId) (caps:List V) (hc:jT Tryz.prog fid=true) (hl:l.length<2^63) (h : ∀ x∈l,b8 fid ([je x]++caps) (.bool (p x))) :
  b8 67 [vl (je) l, .func fid caps] (.bool (l.any p)):=by
 intro S;refine b7 Tryz.func67 Tryz.ntmps67 fun hwf=>?_
 rw [<-zY p l 0]
 refine bz ?_
 refine QP ?_;refine QL (ari l p fid caps hc hl h) ?_;refine bV ?_
 exact bS
theorem asy (l:List (Ss.Sig)) (p:Ss.Sig->Bool) (fid:FuncId) (caps:List V) (hc:jT Tryz.prog fid=true) (hl:l.length<2^63) (h : ∀ x∈l,b8 fid ([jn x]++caps) (.bool (p x))) :
  b8 127 [vl (jn) l, .func fid caps] (cj (qm p l 0)):=by
 intro S;refine b7 Tryz.func127 Tryz.ntmps127 fun hwf=>?_
 refine bz ?_
 refine bX [0,1,7,8] (fun c σ S' => ∃ (k:Nat),k<=l.length/\c=l.length-k/\qm p (l.drop k) k=qm p l 0/\σ=[(0,vl (jn) l),(1, .func fid caps),(7,cu l.length),(8,cu k)]/\S'=St S [] []) l.length ?_ ?_
 .exact ⟨0,by omega,rfl,rfl,by simp [Fr.oy],rfl⟩
 .rintro c σ T ⟨k,hk,rfl,hd,rfl,rfl⟩
  by_cases hkt:k<l.length
  .have hst:qm p (l.drop k) k=if p l[k] then (k:Int) else qm p (l.drop (k+1)) (k+1):=by rw [am hkt,qm]
   have hw:=jg hkt hl
   refine bD hkt ?_
   refine bN hkt ?_;refine qU rfl hc rfl (h _ (ah hkt)) ?_;refine QW ?_
   cases hp:p l[k] with
   | true =>
    rw [hp] at hst
    refine bD hp ?_
    exact ja hwf (by rw [<-hd,hst]; rfl) rfl
   | false =>
    rw [hp] at hst
    refine bD hp ?_
    show jx _ _ _ _ _ _ _;exact again ⟨ao hkt (aW k),k+1,hkt,rfl,by rw [<-hd,hst]; rfl,by simp [Fr.oy,hw],rfl⟩
  .have e:l.drop k=[]:=by rw [aH]; omega
   rw [e] at hd
   refine bD hkt ?_
   exact ja hwf (by rw [<-hd]; rfl) rfl
theorem axs (l:List (Ss.Sig)) (p:Ss.Sig->Bool) (fid:FuncId) (caps:List V) (hc:jT Tryz.prog fid=true) (hl:l.length<2^63) (h : ∀ x∈l,b8 fid ([jn x]++caps) (.bool (p x))) :
  b8 97 [vl (jn) l, .func fid caps] (.bool (l.any p)):=by
 intro S;refine b7 Tryz.func97 Tryz.ntmps97 fun hwf=>?_
 rw [<-zY p l 0]
 refine bz ?_
 refine QP ?_;refine QL (asy l p fid caps hc hl h) ?_;refine bV ?_
 exact bS
theorem asu (l:List (Ss.Ins)) (p:Ss.Ins->Bool) (fid:FuncId) (caps:List V) (hc:jT Tryz.prog fid=true) (hl:l.length<2^63) (h : ∀ x∈l,b8 fid ([js x]++caps) (.bool (p x))) :
  b8 145 [vl (js) l, .func fid caps] (cj (qm p l 0)):=by
 intro S;refine b7 Tryz.func145 Tryz.ntmps145 fun hwf=>?_
 refine bz ?_
 refine bX [0,1,7,8] (fun c σ S' => ∃ (k:Nat),k<=l.length/\c=l.length-k/\qm p (l.drop k) k=qm p l 0/\σ=[(0,vl (js) l),(1, .func fid caps),(7,cu l.length),(8,cu k)]/\S'=St S [] []) l.length ?_ ?_
 .exact ⟨0,by omega,rfl,rfl,by simp [Fr.oy],rfl⟩
 .rintro c σ T ⟨k,hk,rfl,hd,rfl,rfl⟩
  by_cases hkt:k<l.length
  .have hst:qm p (l.drop k) k=if p l[k] then (k:Int) else qm p (l.drop (k+1)) (k+1):=by rw [am hkt,qm]
   have hw:=jg hkt hl
   refine bD hkt ?_
   refine bN hkt ?_;refine qU rfl hc rfl (h _ (ah hkt)) ?_;refine QW ?_
   cases hp:p l[k] with
   | true =>
    rw [hp] at hst
    refine bD hp ?_
    exact ja hwf (by rw [<-hd,hst]; rfl) rfl
   | false =>
    rw [hp] at hst
    refine bD hp ?_
    show jx _ _ _ _ _ _ _;exact again ⟨ao hkt (aW k),k+1,hkt,rfl,by rw [<-hd,hst]; rfl,by simp [Fr.oy,hw],rfl⟩
  .have e:l.drop k=[]:=by rw [aH]; omega
   rw [e] at hd
   refine bD hkt ?_
   exact ja hwf (by rw [<-hd]; rfl) rfl
theorem axf (l:List (Ss.Ins)) (p:Ss.Ins->Bool) (fid:FuncId) (caps:List V) (hc:jT Tryz.prog fid=true) (hl:l.length<2^63) (h : ∀ x∈l,b8 fid ([js x]++caps) (.bool (p x))) :
  b8 131 [vl (js) l, .func fid caps] (.bool (l.any p)):=by
 intro S;refine b7 Tryz.func131 Tryz.ntmps131 fun hwf=>?_
 rw [<-zY p l 0]
 refine bz ?_
 refine QP ?_;refine QL (asu l p fid caps hc hl h) ?_;refine bV ?_
 exact bS
end Go.Vw
/-
  Regions that draw, with two allocations that stand in no order: a walk for each of the two orders.
-/
namespace Go.Vw
open Go.RowKit
def jA (ops:Array Oper) (j i:Nat):Array Oper:=ops.modify j fun o=>{ o with after:=o.after.push ⟨i, .data⟩ }
theorem qM (ops:Array Oper) (j i:Nat):(jA ops j i).size=ops.size:=by simp [jA]
theorem JH (ops:Array Oper) {j i k:Nat} (h:k≠j):(jA ops j i)[k]? = ops[k]? := by
  simp only [jA,Array.getElem?_modify];rw [if_neg (Ne.symm h)]
theorem jbl (ops:Array Oper) {j i:Nat} {o:Oper} (h:ops[j]? = some o):(jA ops j i)[j]? = some { o with after:=o.after.push ⟨i, .data⟩ }:=by
  simp only [jA,Array.getElem?_modify,if_true,h,bj]
theorem jaA {ops:Array Oper} {i j k:Nat} {listed:Array Bool} (h:k∈Region.ready .any (jA ops j i) listed):k∈Region.ready .any ops listed:=by
  obtain ⟨h1,o,ho,hall⟩:=mem_ready.1 h
  by_cases e:k=j
  .subst e
   cases hk:ops[k]? with
   | none =>
     have:(jA ops k i).size<=k:=by rw [qM]; exact Array.getElem?_eq_none_iff.1 hk
     rw [Array.getElem?_eq_none this] at ho; cases ho
   | some o' =>
     rw [jbl ops hk] at ho
     cases ho
     exact mem_ready.2 ⟨h1,o',hk,fun e he=>hall e (by simp [he])⟩
  .rw [JH ops e] at ho;exact mem_ready.2 ⟨h1,o,ho,hall⟩
theorem qC {ops:Array Oper} {i j k:Nat} {listed:Array Bool} (h:k∈Region.ready .any ops listed) (hk:k≠j\/listed.getD i false=true):k∈Region.ready .any (jA ops j i) listed:=by
  obtain ⟨h1,o,ho,hall⟩:=mem_ready.1 h
  by_cases e:k=j
  .subst e;have hi:=hk.resolve_left (fun h=>h rfl);refine mem_ready.2 ⟨h1,_,jbl ops ho,fun e he hb => ?_⟩;simp only [Array.mem_push] at he;rcases he with he | rfl
   .exact hall e he hb
   .exact hi
  .exact mem_ready.2 ⟨h1,o,by rw [JH ops e]; exact ho,hall⟩
section
variable {P:Program} {Z:ZZ} {ops:Array Oper} {cs:List CO} {Q:Ff->Store->Prop}
theorem als {listed:Array Bool} {i k:Nat} (h:listed.getD i false=true):(listed.setIfInBounds k true).getD i false=true:=by
  by_cases e:k=i
  .subst e;have:k<listed.size:=by
     rcases bt k listed.size with h' | h'
     .exact h'
     .simp [Array.getElem?_eq_none h'] at h
   simp [this]
  .rw [getD_set_ne false e]; exact h
theorem KH {i j:Nat} : ∀ (n:Nat) (listed:Array Bool) (τ:Ff) (S:Store),listed.getD i false=true->anyZ P Z (jA ops j i) cs Q n listed τ S->anyZ P Z ops cs Q n listed τ S
  | 0,listed,τ,S,hi,h=>⟨List.eq_nil_iff_forall_not_mem.2 fun k hk=>(by have:=qC (i:=i) (j:=j) hk (.inr hi); rw [h.1] at this; cases this),h.2⟩
  | n+1,listed,τ,S,hi,h=>by
    refine ⟨fun h0=>h.1 (List.eq_nil_iff_forall_not_mem.2 fun k hk=>by have:=jaA hk; rw [h0] at this; cases this),fun k hk => ?_⟩;exact Yj (fun τ S=>KH n _ τ S (als hi)) (h.2 k (qC hk (.inr hi)))
theorem jbE {o:CO} {v v':V} {τ:Ff} {S S1 S1':Store} (hc:o.op.isCall=false) (h:Wa P Z o v τ S S1) (h':Wa P Z o v' τ S S1'):v=v'/\S1=S1':=by
  have rd : ∀ {Y:Store} {v v':V},Jq P Y τ o.op v->Jq P Y τ o.op v'->v=v':=by
    intro Y v v' h h'
    cases hop:o.op with
    | call f a=>rw [hop] at hc; simp [COp.isCall] at hc
    | callv f a=>rw [hop] at hc; simp [COp.isCall] at hc
    | _ =>
      rw [hop] at h h';simp only [Jq] at h h';obtain ⟨Z1,e1⟩:=h;obtain ⟨Z2,e2⟩:=h';rw [e1] at e2;exact (Prod.mk.inj (Option.some.inj e2)).1
  rcases h with ⟨w1,h⟩ | ⟨w1,rfl,rfl⟩
  .rcases h' with ⟨w2,h'⟩ | ⟨w2,_,_⟩
   .rcases h with ⟨r1,rfl,k1⟩ | ⟨r1,k1,_⟩
    .rcases h' with ⟨r2,rfl,k2⟩ | ⟨r2,k2,_⟩
     .exact ⟨rd k1 k2,rfl⟩
     .rw [r1] at r2; cases r2
    .rcases h' with ⟨r2,rfl,k2⟩ | ⟨r2,k2,_⟩
     .rw [r1] at r2; cases r2
     .have wv : ∀ {v:V} {S1:Store},zt P (trnL Z.es o.dst) τ S o.op v S1->jh (evf τ) S o.op=some (v,S1):=by
        intro v S1 h
        cases hop:o.op with
        | call f a=>rw [hop] at hc; simp [COp.isCall] at hc
        | callv f a=>rw [hop] at hc; simp [COp.isCall] at hc
        | _=>rw [hop] at h; exact h
      have e1:=wv k1;have e2:=wv k2;rw [e1] at e2; cases e2; exact ⟨rfl,rfl⟩
   .rw [w1] at w2; cases w2
  .rcases h' with ⟨w2,h'⟩ | ⟨w2,rfl,rfl⟩
   .rw [w1] at w2; cases w2
   .exact ⟨rfl,rfl⟩
theorem agi {i j:Nat} (hij:i≠j) (hdet : ∀ (k:Nat) o,cs[k]? = some o->o.op.isCall=false) (hlen:cs.length=ops.size) : ∀ (n:Nat) (listed:Array Bool) (τ:Ff) (S:Store),listed.getD i true=false->listed.getD j true=false ->
    anyZ P Z (jA ops j i) cs Q n listed τ S->anyZ P Z (jA ops i j) cs Q n listed τ S->anyZ P Z ops cs Q n listed τ S
  | 0,listed,τ,S,hi,hj,h1,h2=>⟨List.eq_nil_iff_forall_not_mem.2 fun k hk=>(by
      by_cases e:k=j
      .have:=qC (i:=j) (j:=i) hk (.inl (by omega)); rw [h2.1] at this; cases this
      .have:=qC (i:=i) (j:=j) hk (.inl e); rw [h1.1] at this; cases this),h1.2⟩
  | n+1,listed,τ,S,hi,hj,h1,h2=>by
    have lt : ∀ {k:Nat},listed.getD k true=false->(listed.setIfInBounds k true).getD k false=true:=by
      intro k hk;have:k<listed.size:=by
        rcases bt k listed.size with h' | h'
        .exact h'
        .simp [Array.getElem?_eq_none h'] at hk
      simp [this]
    refine ⟨fun h0=>h1.1 (List.eq_nil_iff_forall_not_mem.2 fun k hk=>by have:=jaA hk; rw [h0] at this; cases this),fun k hk => ?_⟩
    by_cases ei:k=i
    .subst ei;exact Yj (fun τ S=>KH n _ τ S (lt hi)) (h1.2 k (qC hk (.inl hij)))
    by_cases ej:k=j
    .subst ej;exact Yj (fun τ S=>KH n _ τ S (lt hj)) (h2.2 k (qC hk (.inl ei)))
    have k1:=h1.2 k (qC hk (.inl ej));have k2:=h2.2 k (qC hk (.inl ei));obtain ⟨_,o',ho',_⟩:=mem_ready.1 hk;have hlt:k<cs.length:=by rw [hlen]; exact (Array.getElem?_eq_some_iff.1 ho').1
    have hok:cs[k]? = some cs[k]:=ac hlt;simp only [atZ,hok] at k1 k2 ⊢;rw [qE] at k1 k2 ⊢;obtain ⟨v,S1,y1,n1⟩:=k1;obtain ⟨v',S1',y2,n2⟩:=k2;obtain ⟨rfl,rfl⟩:=jbE (hdet k _ hok) y1 y2;exact ⟨v,S1,y1,agi hij hdet hlen n _ _ _ (by rw [getD_set_ne true ei]; exact hi) (by rw [getD_set_ne true ej]; exact hj) n1 n2⟩
theorem Jh {Q':Ff->Store->Prop} (hq : ∀ τ S,Q τ S->Q' τ S) : ∀ {l:List CO} {τ:Ff} {S:Store},Kn P Z Q l τ S->Kn P Z Q' l τ S
  | [],τ,S,h=>hq τ S h
  | o::r,τ,S,h=>by
    simp only [Kn] at h ⊢;rw [qE] at h ⊢;obtain ⟨v,S1,h1,h2⟩:=h;exact ⟨v,S1,h1,Jh hq h2⟩
def lexO (es ms:List Nat) (ops:Array Oper) (cs:List CO):List Nat->Array Bool->Bool
  | [],listed=>(Region.ready .any ops listed).isEmpty
  | k::ord,listed=>(Region.ready .any ops listed).contains k &&
      (match cs[k]? with
       | some oi=>(List.range cs.length).all fun j=>j==k||listed.getD j true||jai ms k j||(match cs[j]? with
          | some oj=>oi.apart oj&&(isRd es oi||isRd es oj)
          | none=>true)
       | none=>false)&&lexO es ms ops cs ord (listed.setIfInBounds k true)
def ZG (cs:List CO) (ord:List Nat):List CO:=ord.filterMap fun k=>cs[k]?
theorem Yk (hlen:cs.length=ops.size) : ∀ (ord:List Nat) (listed:Array Bool) (τ:Ff) (S:Store),zb ops listed->lexO Z.es (qV ops) ops cs ord listed=true->Kn P Z Q (ZG cs ord) τ S->anyZ P Z ops cs Q ord.length listed τ S
  | [],_,_,_,_,hB,h=>⟨by simpa [lexO] using hB,h⟩
  | k::ord,listed,τ,S,hcl,hB,h=>by
    simp only [lexO,af] at hB;obtain ⟨⟨hr,hf⟩,hB'⟩:=hB
    cases h0:cs[k]? with
    | none=>rw [h0] at hf; cases hf
    | some o =>
    have hp:ZG cs (k::ord)=o::ZG cs ord:=by simp [ZG,h0]
    rw [hp] at h;simp only [Kn] at h;rw [qE] at h;obtain ⟨v,S1,hy,hK⟩:=h;have hr':k∈Region.ready .any ops listed:=by simpa using hr
    refine Zf h0 hlen ord.length listed τ S S1 hcl (fun j oj hj hne hun hno => ?_) hr' hy (Yk hlen ord _ _ _ (zN hcl hr') hB' hK);simp only [h0,aD,List.mem_range] at hf;have h1:=hf j (ae.1 hj).1;have hnm:jai (qV ops) k j=false:=by
      cases hm:jai (qV ops) k j with
      | false=>rfl
      | true=>obtain ⟨n,hn⟩:=JN hm; rw [hno n] at hn; cases hn
    simp only [hj,bk,beq_iff_eq,hne,false_or,hun,aF,hnm,af] at h1;exact h1
end
section
variable {P:Program} {N b:Nat} {Q:Exit->Fr->Store->Prop} {σ:Fr} {S:Store}
theorem jco {id:Nat} {ops:Array Oper} {cs:List CO} {Z:ZZ} {i j:Nat} {ord1 ord2:List Nat} (hm:P.follows .mixedOrders=true) (hc:qj P N ops=some cs) (hnc:cs.all (fun o => !o.op.isCall)=true) (hij:i≠j) (hi:i<ops.size) (hj:j<ops.size)
    (hB1:lexO Z.es (qV (jA ops j i)) (jA ops j i) cs ord1 (Array.replicate ops.size false)=true) (hB2:lexO Z.es (qV (jA ops i j)) (jA ops i j) cs ord2 (Array.replicate ops.size false)=true)
    (hn1:ord1.length=ops.size) (hn2:ord2.length=ops.size) (hE:zD (qV ops) cs Z.es=true) (hz:Z.ok S) (h0:Z.z0.Sub S)
    (H1:Kn P Z (fun τ S => ∃ σ':Fr,σ'.lk=τ/\Q .normal σ' S) (ZG cs ord1) σ.lk S) (H2:Kn P Z (fun τ S => ∃ σ':Fr,σ'.lk=τ/\Q .normal σ' S) (ZG cs ord2) σ.lk S):VWp P N b (.region id ops true) Q σ S:=by
  intro m β w a hS hF;obtain ⟨hlen,_⟩:=jdk hc;refine wp_region_any hm ?_;have hcl : ∀ ops':Array Oper,ops'.size=ops.size->zb ops' (Array.replicate ops.size false):=by
    intro ops' he i o ho hi;have:i<ops'.size:=(Array.getElem?_eq_some_iff.1 ho).1;rw [he] at this;simp [this] at hi
  have a1:=Yk (P:=P) (Z:=Z) (ops:=jA ops j i) (by rw [qM]; exact hlen) ord1 _ σ.lk S (hcl _ (qM _ _ _)) hB1 H1;have a2:=Yk (P:=P) (Z:=Z) (ops:=jA ops i j) (by rw [qM]; exact hlen) ord2 _ σ.lk S (hcl _ (qM _ _ _)) hB2 H2;rw [hn1] at a1;rw [hn2] at a2;have:=agi hij (fun k o hk=>by
    simp only [aD] at hnc;have:=hnc o (aA hk);simpa using this) hlen ops.size _ σ.lk S (by simp [hi]) (by simp [hj]) a1 a2
  exact Ze hc hE ops.size _ σ S m β _ a this (hcl ops rfl) hz (fun _=>h0) hS.drew hF ((Ext.drew m β w).toB b)
theorem Yr {c c2:Code} {cs:List CO} {Q2:Exit->Fr->Store->Prop} {σm:Fr} {Sm:Store} (Z:ZZ) (i j:Nat) (ord1 ord2:List Nat) (h:Code.kind c=2) (hm:P.follows .mixedOrders=true) (hc:qj P N (Code.ops c)=some cs) (hnc:cs.all (fun o => !o.op.isCall)=true) (hij:i≠j)
    (hi:decide (i<(Code.ops c).size)=true) (hj:decide (j<(Code.ops c).size)=true)
    (hB1:lexO Z.es (qV (jA (Code.ops c) j i)) (jA (Code.ops c) j i) cs ord1 (Array.replicate (Code.ops c).size false)=true) (hB2:lexO Z.es (qV (jA (Code.ops c) i j)) (jA (Code.ops c) i j) cs ord2 (Array.replicate (Code.ops c).size false)=true)
    (hn1:ord1.length=(Code.ops c).size) (hn2:ord2.length=(Code.ops c).size) (hes:Z.es=[]) (hz:Z.ok S) (h0:Z.z0.Sub S)
    {cs1 cs2:List CO} (hp1:ZG cs ord1=cs1) (hp2:ZG cs ord2=cs2)
    (H1:jI P (some Z) cs1 (fun σ S=>Reach N b σ S σm Sm) σ S) (H2:jI P (some Z) cs2 (fun σ S=>Reach N b σ S σm Sm) σ S) (H:VWp P N b c2 Q2 σm Sm):VWp P N b c (JS (VWp P N b c2 Q2) Q) σ S:=by
  subst hp1;subst hp2
  cases c with
  | region id ops d =>
    cases d
    .simp [Code.kind] at h
    .refine jco hm hc hnc hij (aP hi) (aP hj) hB1 hB2 hn1 hn2 (by rw [hes]; exact jbd _ _) hz h0 ?_ ?_
     .exact Jh (fun τ S=>fun ⟨σ',e,hr⟩=>⟨σ',e,jv hr H⟩) (ze _ σ S H1)
     .exact Jh (fun τ S=>fun ⟨σ',e,hr⟩=>⟨σ',e,jv hr H⟩) (ze _ σ S H2)
  | _=>simp [Code.kind] at h
end
/-! ### .. behind a part that stands in the order of the text -/
section
variable {P:Program} {Z:ZZ} {ops:Array Oper} {cs:List CO} {Q:Ff->Store->Prop}
def jaP (es ms:List Nat) (ops:Array Oper) (cs:List CO):Nat->Nat->Array Bool->Bool
  | 0,_,_=>true
  | n+1,k,listed=>(Region.ready .any ops listed).contains k &&
      (match cs[k]? with
       | some oi=>(List.range cs.length).all fun j=>j==k||listed.getD j true||jai ms k j||(match cs[j]? with
          | some oj=>oi.apart oj&&(isRd es oi||isRd es oj)
          | none=>true)
       | none=>false)&&jaP es ms ops cs n (k+1) (listed.setIfInBounds k true)
def zw:Nat->Nat->Array Bool->Array Bool
  | 0,_,l=>l
  | n+1,k,l=>zw n (k+1) (l.setIfInBounds k true)
theorem ae5 (hlen:cs.length=ops.size) {fuel:Nat} : ∀ (l:List CO) (k:Nat) (listed:Array Bool) (τ:Ff) (S:Store),(∀ j<l.length,l[j]? = cs[k+j]?)->zb ops listed->jaP Z.es (qV ops) ops cs l.length k listed=true ->
    Kn P Z (fun τ S=>anyZ P Z ops cs Q fuel (zw l.length k listed) τ S) l τ S->anyZ P Z ops cs Q (fuel+l.length) listed τ S
  | [],_,_,_,_,_,_,_,h=>h
  | o::l,k,listed,τ,S,hl,hcl,hB,h=>by
    have h0:cs[k]? = some o:=by simpa using (hl 0 (by simp)).symm
    simp only [aC,jaP,af,h0] at hB;obtain ⟨⟨hr,hf⟩,hB'⟩:=hB;simp only [Kn] at h;rw [qE] at h;obtain ⟨v,S1,hy,hK⟩:=h;have hr':k∈Region.ready .any ops listed:=by simpa using hr
    refine Zf h0 hlen (fuel+l.length) listed τ S S1 hcl (fun j oj hj hne hun hno => ?_) hr' hy (ae5 hlen l (k+1) _ _ _ (fun j hj=>by have:=hl (j+1) (by simp; omega); simpa [Nat.add_assoc,Nat.add_comm 1 j] using this) (zN hcl hr') hB' hK);simp only [aD,List.mem_range] at hf;have h1:=hf j (ae.1 hj).1;have hnm:jai (qV ops) k j=false:=by
      cases hm:jai (qV ops) k j with
      | false=>rfl
      | true=>obtain ⟨n,hn⟩:=JN hm; rw [hno n] at hn; cases hn
    simp only [hj,bk,beq_iff_eq,hne,false_or,hun,aF,hnm,af] at h1;exact h1
theorem Zx (hlen:cs.length=ops.size) {es:List Nat} : ∀ (n k:Nat) (listed:Array Bool),zb ops listed->jaP es (qV ops) ops cs n k listed=true->zb ops (zw n k listed)
  | 0,_,_,h,_=>h
  | n+1,k,listed,h,hB=>by
    simp only [jaP,af] at hB;exact Zx hlen n (k+1) _ (zN h (by simpa using hB.1.1)) hB.2
theorem Yg {listed:Array Bool} {i j:Nat} (h:zb ops listed) (hj:listed.getD j true=false):zb (jA ops j i) listed:=by
  intro k o ho hk
  by_cases e:k=j
  .subst e; rw [hj] at hk; cases hk
  .rw [JH ops e] at ho;exact h k o ho hk
theorem aeh {i j:Nat} (hij:i≠j) (hlen:cs.length=ops.size) : ∀ (n:Nat) (listed:Array Bool) (τ:Ff) (S:Store),(∀ (k:Nat) o,cs[k]? = some o->k≠i->k≠j->listed.getD k true=false->o.op.isCall=false)->listed.getD i true=false->listed.getD j true=false ->
    anyZ P Z (jA ops j i) cs Q n listed τ S->anyZ P Z (jA ops i j) cs Q n listed τ S->anyZ P Z ops cs Q n listed τ S
  | 0,listed,τ,S,_,hi,hj,h1,h2=>⟨List.eq_nil_iff_forall_not_mem.2 fun k hk=>(by
      by_cases e:k=j
      .have:=qC (i:=j) (j:=i) hk (.inl (by omega)); rw [h2.1] at this; cases this
      .have:=qC (i:=i) (j:=j) hk (.inl e); rw [h1.1] at this; cases this),h1.2⟩
  | n+1,listed,τ,S,hdet,hi,hj,h1,h2=>by
    have lt : ∀ {k:Nat},listed.getD k true=false->(listed.setIfInBounds k true).getD k false=true:=by
      intro k hk;have:k<listed.size:=by
        rcases bt k listed.size with h' | h'
        .exact h'
        .simp [Array.getElem?_eq_none h'] at hk
      simp [this]
    refine ⟨fun h0=>h1.1 (List.eq_nil_iff_forall_not_mem.2 fun k hk=>by have:=jaA hk; rw [h0] at this; cases this),fun k hk => ?_⟩
    by_cases ei:k=i
    .subst ei;exact Yj (fun τ S=>KH n _ τ S (lt hi)) (h1.2 k (qC hk (.inl hij)))
    by_cases ej:k=j
    .subst ej;exact Yj (fun τ S=>KH n _ τ S (lt hj)) (h2.2 k (qC hk (.inl ei)))
    have k1:=h1.2 k (qC hk (.inl ej));have k2:=h2.2 k (qC hk (.inl ei));obtain ⟨hun,o',ho',_⟩:=mem_ready.1 hk;have hlt:k<cs.length:=by rw [hlen]; exact (Array.getElem?_eq_some_iff.1 ho').1
    have hok:cs[k]? = some cs[k]:=ac hlt;simp only [atZ,hok] at k1 k2 ⊢;rw [qE] at k1 k2 ⊢;obtain ⟨v,S1,y1,n1⟩:=k1;obtain ⟨v',S1',y2,n2⟩:=k2;obtain ⟨rfl,rfl⟩:=jbE (hdet k _ hok ei ej hun) y1 y2;refine ⟨v,S1,y1,aeh hij hlen n _ _ _ (fun k' o hk' h3 h4 h5=>hdet k' o hk' h3 h4 ?_) (by rw [getD_set_ne true ei]; exact hi) (by rw [getD_set_ne true ej]; exact hj) n1 n2⟩
    by_cases e:k=k'
    .subst e; exact hun
    .rw [getD_set_ne true e] at h5; exact h5
end
section
variable {P:Program} {N b:Nat} {Q:Exit->Fr->Store->Prop} {σ:Fr} {S:Store}
def callsOk (cs:List CO) (i j n0:Nat):Bool:=(List.range cs.length).all fun k=>decide (k<n0)||k==i||k==j||(match cs[k]? with | some o => !o.op.isCall | none=>true)
theorem afh {c c2:Code} {cs:List CO} {Q2:Exit->Fr->Store->Prop} (Z:ZZ) (n0 i j:Nat) (ord1 ord2:List Nat) (h:Code.kind c=2) (hm:P.follows .mixedOrders=true) (hc:qj P N (Code.ops c)=some cs) (hnc:callsOk cs i j n0=true) (hij:i≠j)
    (hp:jaP Z.es (qV (Code.ops c)) (Code.ops c) cs n0 0 (Array.replicate (Code.ops c).size false)=true)
    (hi:(zw n0 0 (Array.replicate (Code.ops c).size false)).getD i true=false) (hj:(zw n0 0 (Array.replicate (Code.ops c).size false)).getD j true=false)
    (hu:(List.range n0).all (fun k=>(zw n0 0 (Array.replicate (Code.ops c).size false)).getD k true)=true)
    (hB1:lexO Z.es (qV (jA (Code.ops c) j i)) (jA (Code.ops c) j i) cs ord1 (zw n0 0 (Array.replicate (Code.ops c).size false))=true) (hB2:lexO Z.es (qV (jA (Code.ops c) i j)) (jA (Code.ops c) i j) cs ord2 (zw n0 0 (Array.replicate (Code.ops c).size false))=true)
    (hn0:decide (n0<=(Code.ops c).size)=true) (hn1:ord1.length+n0=(Code.ops c).size) (hn2:ord2.length+n0=(Code.ops c).size) (hE:zD (qV (Code.ops c)) cs Z.es=true) (hz:Z.ok S) (h0:Z.z0.Sub S)
    {cs0 cs1 cs2:List CO} (hp0:cs.take n0=cs0) (hp1:ZG cs ord1=cs1) (hp2:ZG cs ord2=cs2)
    (H:jI P (some Z) cs0 (fun σ S => ∃ σm Sm,VWp P N b c2 Q2 σm Sm/\jI P (some Z) cs1 (fun σ S=>Reach N b σ S σm Sm) σ S/\jI P (some Z) cs2 (fun σ S=>Reach N b σ S σm Sm) σ S) σ S):VWp P N b c (JS (VWp P N b c2 Q2) Q) σ S:=by
  subst hp0;subst hp1;subst hp2
  cases c with
  | region id ops d =>
    cases d
    .simp [Code.kind] at h
    .intro m β w a hS hF;simp only [Code.ops] at *
     obtain ⟨hlen,_⟩:=jdk hc;refine wp_region_any hm ?_;have hcl:zb ops (Array.replicate ops.size false):=by
       intro i o ho hi;have:i<ops.size:=(Array.getElem?_eq_some_iff.1 ho).1;simp [this] at hi
     have hle:n0<=cs.length:=by rw [hlen]; exact aP hn0
     have hl0:(cs.take n0).length=n0:=by rw [List.length_take,Nat.min_eq_left hle]
     have hcl1:=Zx hlen n0 0 _ hcl hp;have key:Kn P Z (fun τ S=>anyZ P Z ops cs (fun τ S => ∃ σ':Fr,σ'.lk=τ/\(JS (VWp P N b c2 Q2) Q) .normal σ' S) ord1.length (zw n0 0 (Array.replicate ops.size false)) τ S) (cs.take n0) σ.lk S:=by
       refine Jh (fun τ S => ?_) (ze _ σ S H);rintro ⟨σ1,rfl,σm,Sm,hQ,H1,H2⟩;have a1:=Yk (P:=P) (Z:=Z) (Q:=fun τ S => ∃ σ':Fr,σ'.lk=τ/\(JS (VWp P N b c2 Q2) Q) .normal σ' S) (ops:=jA ops j i) (by rw [qM]; exact hlen) ord1 _ σ1.lk S (Yg hcl1 hj) hB1 (Jh (fun τ S=>fun ⟨σ',e,hr⟩=>⟨σ',e,jv hr hQ⟩) (ze _ σ1 S H1));have a2:=Yk (P:=P) (Z:=Z) (Q:=fun τ S => ∃ σ':Fr,σ'.lk=τ/\(JS (VWp P N b c2 Q2) Q) .normal σ' S) (ops:=jA ops i j) (by rw [qM]; exact hlen) ord2 _ σ1.lk S (Yg hcl1 hi) hB2 (Jh (fun τ S=>fun ⟨σ',e,hr⟩=>⟨σ',e,jv hr hQ⟩) (ze _ σ1 S H2));rw [show ord2.length=ord1.length by omega] at a2;refine aeh hij hlen ord1.length _ σ1.lk S (fun k o hk h3 h4 h5 => ?_) hi hj a1 a2;simp only [callsOk,aD,List.mem_range] at hnc;have hh:=hnc k (ae.1 hk).1
       have h6 : ¬ k<n0:=fun h6=>by
         simp only [aD,List.mem_range] at hu;rw [hu k h6] at h5; cases h5
       simpa [h6,h3,h4,hk] using hh
     have:=ae5 (P:=P) (Z:=Z) hlen (cs.take n0) 0 (Array.replicate ops.size false) σ.lk S (fun q hq=>by rw [a8,List.getElem?_take,if_pos (by omega)]) hcl (by rw [hl0]; exact hp) (by rw [hl0]; exact key);rw [hl0,hn1] at this;exact Ze hc hE ops.size _ σ S m β _ a this hcl hz (fun _=>h0) hS.drew hF ((Ext.drew m β w).toB b)
  | _=>simp [Code.kind] at h
end
theorem zI {N b:Nat} {σ σ':Fr} {S:Store} (ks:List Nat) (h:σ.oy ks=σ'):Reach N b σ S σ' S:=by subst h; exact Reach.oy ks
theorem Jj {N:Nat} {σ σ1 σ':Fr} {B:Store} {u u':Upds} {l l':List (Option (Nat × List V))} (ks gs:List Nat) (hσ1:σ.oy ks=σ1) (hw:B.Wf) (h1:gs.Nodup) (h2:(Km B.nx gs u&&YU B.nx gs l gs&&idsF (gcP B.nx gs) σ1)=true)
    (hu:gcU B.nx gs u=u') (hl:gcL B.nx gs l gs=l') (hσ:renF (gcTo B.nx gs) σ1=σ'):Reach N B.nx σ (St B u l) σ' (St B u' l') :=
  (zI ks hσ1).trans (Reach.gc gs hw h1 h2 hu hl hσ)
end Go.Vw
/-
 Functions whose results lie in cells; objects of one's own that become immutable.
-/
namespace Go.Vw
open Go.RowKit
section
variable {P:Program} {N:Nat} {S:Store} {m:Imm} {β:Objs} {w:World} {σ:Fr} {a:Act}
theorem asr {t:TypeId} {q:Nat} {sz:Option Nat} {x:V} (hsz:Program.szOf P t=some sz) (hS:Holds S m β w) (hF:FrameRep N m β σ a) (he:Js sz S (σ.lk q)=some x) :
  ∃ ad u,a.tmps.getD q undef = .pointer (some ad)/\(loadVar t ad).run P w = .ok u w/\Rep m β x u:=by
 have hr:=hF.rep q;generalize σ.lk q=p at he hr
 cases p with
 | ref x' =>
  simp only [Js] at he;split at he
  .rename_i hok
   cases he
   obtain ⟨u,b,off,arr,T,fz,e,hm,hu,hc⟩:=hr.inv_ref;refine ⟨_,u,e,qo hsz (hS.imm _ _ hm) u ?_ hc, .imm hu⟩;refine ⟨fun n hn => ?_,fun hn => ?_⟩
   .subst hn
    cases x<;>simp [okSz] at hok
    cases hu with | agg xs vs hl _ _=>exact ⟨vs,rfl,by omega⟩
   .subst hn;simp only [okSz] at hok;have:=(Rep.imm (β:=β) hu).oneCell hok
    cases u<;>first | rfl | simp [Value.oneCell'] at this
  .cases he
 | ptr o' off =>
  simp only [Js] at he
  cases hc:S.get o' with
  | none=>simp [hc] at he
  | some c =>
   simp only [hc] at he;obtain ⟨b,base,s,n,hob,e⟩:=hr.inv_ptr (hS.alive hc);obtain ⟨_,arr,T,h1,h2,h3,h4⟩:=hS.cells_at hc hob
   cases sz with
   | none =>
    simp only [WQ] at he;obtain ⟨v,hv,hrv,hone⟩:=h4 off x he;have ec:v.cells = #[v]:=by cases v<;>first | rfl | simp [Value.oneCell'] at hone
    refine ⟨_,v,e,qo hsz h1 v ⟨(by intro n hn; cases hn),fun _=>ec⟩ fun j c' hj => ?_,hrv⟩;rw [ec] at hj
    cases j with
    | zero=>simp at hj; subst hj; simpa using hv
    | succ j=>simp at hj
   | some k =>
    simp only [WQ] at he;split at he
    .rename_i hle
     cases he
     obtain ⟨vs,hl,hcs,hrl,hone⟩:=zO h4 off k hle;refine ⟨_, .agg vs.toArray,e,qo hsz h1 _ ⟨(by intro n hn; cases hn; exact ⟨vs,rfl,hl⟩),(by intro hn; cases hn)⟩ fun j c' hj => ?_, .agg _ vs hrl.1 hrl.2 hone⟩;exact hcs j c' (by simpa [Value.cells] using hj)
    .cases he
 | _=>simp [Js] at he
def resC1 (P:Program):ResultVar->Option (Nat × Option (Option Nat))
 | .tmp t=>some (t,none)
 | .cell q t=>(Program.szOf P t).map fun sz=>(q,some sz)
def resC (P:Program) (fn:Func):Option (List (Nat × Option (Option Nat))):=fn.results.toList.mapM (resC1 P)
def resL1 (S:Store) (σ:Fr):Nat × Option (Option Nat)->Option V
 | (t,none)=>some (σ.lk t)
 | (t,some sz)=>Js sz S (σ.lk t)
def resL (S:Store) (σ:Fr):List (Nat × Option (Option Nat))->Option (List V)
 | []=>some []
 | r::rs=>match resL1 S σ r,resL S σ rs with
  | some x,some xs=>some (x::xs)
  | _,_=>none
def tupV:List V->V
 | [x]=>x
 | xs => .tuple xs
def bodyC (rs:List (Nat × Option (Option Nat))) (R:V->Store->Prop):Exit->Fr->Store->Prop
 | .normal,σ,S => ∃ xs,resL S σ rs=some xs/\R (tupV xs) S
 | .ret,σ,S => ∃ xs,resL S σ rs=some xs/\R (tupV xs) S
 | _,_,_=>False
theorem Zn {fn:Func} {rs:List (Nat × Option (Option Nat))} (h:resC P fn=some rs) (hS:Holds S m β w) (hF:FrameRep N m β σ a) {xs:List V} (hx:resL S σ rs=some xs) : ∃ v,(results fn a.tmps).run P w = .ok v w/\Rep m β (tupV xs) v:=by
 have gen : ∀ (l:List ResultVar) (rs:List (Nat × Option (Option Nat))) (xs:List V),l.mapM (resC1 P)=some rs->resL S σ rs=some xs ->
   ∃ vs:List Value,(l.mapM fun r=>(match r with
    | .tmp t=>pure (a.tmps.getD t undef)
    | .cell q t=>do loadVar t (<-asAddr (a.tmps.getD q undef)):Sem Value)).run P w = .ok vs w/\RepL m β xs vs:=by
  intro l
  induction l with
  | nil=>intro rs xs h hx; simp at h; subst h; simp only [resL,ay] at hx; subst hx; exact ⟨[],rfl,RepL.nil _ _⟩
  | cons r l ih =>
   intro rs xs h hx;simp only [List.mapM_cons,Option.bind_eq_bind,aN] at h;obtain ⟨b,hb,r',hr',h⟩:=h;simp at h; subst h;simp only [resL] at hx;split at hx
   .rename_i x xs' h1 h2
    cases hx
    obtain ⟨vs,k1,k2⟩:=ih r' xs' hr' h2
    cases r with
    | tmp t =>
     simp only [resC1,ay] at hb;subst hb;simp only [resL1,ay] at h1;subst h1;refine ⟨a.tmps.getD t undef::vs, ?_, .cons (hF.rep t) k2⟩;rw [List.mapM_cons,Sem.run_bind,Sem.run_pure,Result.andThen_ok,Sem.run_bind,k1]
     rfl
    | cell q t =>
     simp only [resC1] at hb;obtain ⟨sz,hsz,e⟩:=av.1 hb;subst e;simp only [resL1] at h1;obtain ⟨ad,u,e1,e2,e3⟩:=asr hsz hS hF h1;refine ⟨u::vs, ?_, .cons e3 k2⟩;have e4:((do loadVar t (<-asAddr (a.tmps.getD q undef))):Sem Value).run P w = .ok u w:=by
      rw [e1,show asAddr (.pointer (some ad))=pure ad from rfl,pure_bind,e2]
     rw [List.mapM_cons,Sem.run_bind,e4,Result.andThen_ok,Sem.run_bind,k1]
     rfl
   .cases hx
 obtain ⟨vs,h1,hl,h2⟩:=gen fn.results.toList rs xs h hx;have hrun:(results fn a.tmps).run P w = .ok (if h:vs.toArray.size=1 then vs.toArray[0] else .tuple vs.toArray) w:=by
  unfold results;rw [Sem.run_bind,Array.mapM_eq_mapM_toList,Sem.run_map]
  erw [h1]
  rfl
 refine ⟨_,hrun, ?_⟩
 match xs,vs,hl,h2 with
 | [x],[v],_,h2=>exact h2 0 x v rfl rfl
 | [],[],_,_=>exact zy m β
 | x::y::xs,u::v::vs,hl,h2 =>
  rw [dif_neg (by simp)];exact .tuple _ _ hl h2
theorem aha {f:FuncId} {fn:Func} {c:Code} {rs:List (Nat × Option (Option Nat))} {args:List V} {R:V->Store->Prop} (hf:P.funcs[f]? = some fn) (hb:fn.body=some c) (ht:resC P fn=some rs) (hn:args.length<=fn.ntmps)
  (h:VWp P fn.ntmps S.nx c (bodyC rs R) (Kj 0 args) S):VCalls P f args S R:=by
 intro m β w vs hS hr;refine calls_of_wp hf hb ?_;have hF:FrameRep fn.ntmps m β (Kj 0 args) { tmps:=vs.toArray++Array.replicate (fn.ntmps-vs.toArray.size) undef,defers:=[] }:=by
  have hl:=hr.1;refine ⟨by simp; omega,rfl,fun t => ?_⟩;rw [Wt];simp only [Nat.zero_le,if_true,Nat.sub_zero]
  cases hx:args[t]? with
  | none=>exact .junk _
  | some x =>
   have hlt:t<vs.length:=by rw [<-hl]; exact (ae.1 hx).1
   have:(vs.toArray++Array.replicate (fn.ntmps-vs.toArray.size) undef).getD t undef=vs[t]:=by
    simp [aY,Array.getElem?_append,hlt]
   simp only [this,aR];exact hr.2 t x _ hx (ac hlt)
 refine wp_mono (h m β w _ hS hF) ?_;rintro e a' w' ⟨σ',S',m',β',q,r1,r2,r3⟩;have back:ExtB S.nx m β w m' β' w'->Ext m β w m' β' w':=fun h=>⟨h.imm,fun o ho=>h.step o (by
  rcases bt o S.nx with hl | hl
  .exact hl
  .exact absurd ((hS.fresh o).2 hl) ho) ho,h.size,h.keep,h.os,h.tape,h.output⟩
 cases e with
 | normal =>
  obtain ⟨xs,q1,q2⟩:=q;obtain ⟨v,hv,hrv⟩:=Zn (P:=P) ht r1 r2 q1;exact ⟨r2.defers,v,hv,v,_,S',m',β',rfl,q2,hrv,r1,back r3⟩
 | ret =>
  obtain ⟨xs,q1,q2⟩:=q;obtain ⟨v,hv,hrv⟩:=Zn (P:=P) ht r1 r2 q1;exact ⟨r2.defers,v,hv,v,_,S',m',β',rfl,q2,hrv,r1,back r3⟩
 | _=>exact q.elim
theorem qB {f:FuncId} {fn:Func} {c:Code} {rs:List (Nat × Option (Option Nat))} {args:List V} {R:V->Store->Prop} (hf:P.funcs[f]? = some fn) (hb:fn.body=some c) (ht:resC P fn=some rs) (hn:args.length<=fn.ntmps)
  (h:S.Wf->VWp P fn.ntmps S.nx c (bodyC rs (Jb S.nx R)) (Kj 0 args) (St S [] [])):VCalls P f args S R:=by
 refine Jm fun hwf=>zq (aha hf hb ht hn ?_)
 have:=h hwf;rw [qv hwf] at this;exact this
theorem Ye {rs:List (Nat × Option (Option Nat))} {R:V->Store->Prop} {xs:List V} (h:resL S σ rs=some xs) (hR:R (tupV xs) S) : ∃ xs,resL S σ rs=some xs/\R (tupV xs) S:=⟨xs,h,hR⟩
end
theorem as9 (S:Store) (σ:Fr):resL S σ []=some []:=nr rfl
def consO:Option V->Option (List V)->Option (List V)
 | some x,some xs=>some (x::xs)
 | _,_=>none
theorem ap5 (S:Store) (σ:Fr) (r) (rs):resL S σ (r::rs)=consO (resL1 S σ r) (resL S σ rs):=nr rfl
theorem aj9 (x:V) (xs:List V):consO (some x) (some xs)=some (x::xs):=nr rfl
theorem awu (S:Store) (σ:Fr) (t:Nat):resL1 S σ (t,none)=some (σ.lk t):=nr rfl
theorem awq (S:Store) (σ:Fr) (t:Nat) (sz:Option Nat):resL1 S σ (t,some sz)=Js sz S (σ.lk t):=nr rfl
theorem agd (x:V):tupV [x]=x:=nr rfl
theorem axd (x y:V) (r:List V):tupV (x::y::r) = .tuple (x::y::r):=nr rfl
attribute [simp] as9 ap5 aj9 awu awq agd axd
theorem Ghost.refS {S:Store} {o s:Nat} {cs:List V} (hc:S.get o=some (s,cs)) (h1:cs.all V.cG=true) (hne:cs≠[]):Ghost (.ptr o 0) S (.ref (.agg cs)) (S.del o):=by
 intro m β w v hS hr;obtain ⟨b,base,s',n,hob,rfl⟩:=hr.inv_ptr (hS.alive hc);obtain ⟨_,arr,T,e1,e2,e3,e4⟩:=hS.cells_at hc hob;obtain ⟨k1,k2⟩:=hS.freeze hc hob e1;obtain ⟨vs,hl,hcs,hrl,hone⟩:=zO e4 0 cs.length (by simp);simp only [List.drop_zero,List.take_length] at hrl;have hall : ∀ x∈cs,x.cG=true:=by simpa using h1
 refine ⟨_,_,k1,k2, .imm (.ref (.agg cs) (.agg vs.toArray) b (base+0) arr T (0,0) (by simp [Imm.set]) (.agg cs vs hrl.1 (fun i x u hx hu=>((hrl.2 i x u hx hu).cG (hall x (aA hx))).mono k2.imm) hone) fun j c hj => ?_)⟩;exact hcs j c (by simpa [Value.cells] using hj)
theorem azm {B:Store} {u:Upds} {l:List (Option (Nat × List V))} {k s:Nat} {cs:List V} (hk:k<l.length) (hc:(l[k]?).join=some (s,cs)) (hcl:cs.all V.cG=true) (hne:cs≠[]) :
  Ghost (.ptr (lid B.nx k) 0) (St B u l) (.ref (.agg cs)) (St B u (l.set k none)):=by
 rw [<-ab1 hk];exact Ghost.refS (by rw [jB]; exact hc) hcl hne
theorem QH {P:Program} {N b:Nat} {Q:Exit->Fr->Store->Prop} {σ σ':Fr} {B:Store} {u:Upds} {l l':List (Option (Nat × List V))} {c:Code} {s:Nat} {cs:List V} (t k:Nat) (H:VWp P N b c Q σ' (St B u l')) (hx:σ.lk t=.ptr (lid B.nx k) 0:=by exact rfl) (hk:k<l.length:=by simp) (hc:(l[k]?).join=some (s,cs):=by exact rfl) (hcl:cs.all V.cG=true:=by exact rfl) (hne:cs≠[]:=by simp) (hs:σ.set t (.ref (.agg cs))=σ':=by conv=>lhs; simp [Fr.set]) (hl:l.set k none=l':=by conv=>lhs; simp only [aq,au]):VWp P N b c Q σ (St B u l):=jy t hx (azm hk hc hcl hne) hs (by rw [hl]; exact H)
end Go.Vw
namespace Ss
def isKind (t:Int):Bool:=decide (t=127)||decide (t=126)
def kinds (most:Nat) (l:List Int):Bool:=decide (l.length<=most)&&l.all isKind
def Sig.right (s:Sig):Bool:=kinds 8 s.inn&&kinds 8 s.out
def Env.right (e:Env):Bool:=decide (0<=e.imports)&&decide (e.imports<=e.sigs.length)&&decide (e.sigs.length<=64)&&decide (e.muts.length=e.globals.length)&&kinds 32 e.globals&&e.sigs.all Sig.right
end Ss
namespace Go.Vw
open Go.Proofs Go.RowKit
attribute [-simp] List.map_set
theorem ar6 (t:Int):b8 101 [cj t] (.bool (Ss.isKind t)):=by
 intro S;refine b7 Tryz.func101 Tryz.ntmps101 fun hwf=>?_
 by_cases h:t=127
 .refine bD h ?_
  exact ja hwf (by simp [Ss.isKind,h]) rfl
 .refine bD h ?_
  exact ja hwf (by simp [Ss.isKind,h]) rfl
theorem aq8 (t:Int):b8 100 ([cj t]++[]) (.bool (!Ss.isKind t)):=by
 intro S;refine b7 Tryz.func100 Tryz.ntmps100 fun hwf=>?_
 refine bz ?_
 refine QP ?_;refine QL (ar6 t) ?_;refine bV ?_
 exact bS
theorem jcY (most:Nat) (l:List Int) (hl:l.length<2^63):b8 65 [cu most,vl cj l] (.bool (Ss.kinds most l)):=by
 intro S;have e:(!l.any fun t => !Ss.isKind t)=l.all Ss.isKind:=by
  rw [List.not_any_eq_all_not]; congr 1; funext t; simp
 by_cases h:l.length<=most
 .have h':(l.length:Int)<=(most:Int):=by omega
  have hX:Ss.kinds most l = !l.any fun t => !Ss.isKind t:=by rw [e]; simp [Ss.kinds,h]
  rw [hX];refine b7 Tryz.func65 Tryz.ntmps65 fun hwf=>?_
  refine bF h h' ?_
  refine bQ h h' ?_;refine QL (ayc l (fun t => !Ss.isKind t) _ [] rfl hl (fun t _=>aq8 t)) ?_;refine bV ?_
  exact ja hwf (by simp) rfl
 .have h' : ¬ (l.length:Int)<=(most:Int):=by omega
  have hX:Ss.kinds most l=false:=by simp [Ss.kinds,h]
  rw [hX];refine b7 Tryz.func65 Tryz.ntmps65 fun hwf=>?_
  refine bF h h' ?_
  exact bS
theorem jbJ (s:Ss.Sig) (hs:s.Fits):b8 66 [jn s] (.bool s.right):=by
 intro S;obtain ⟨⟨h1,_⟩,⟨h2,_⟩⟩:=hs;obtain ⟨a,b⟩:=s;simp only at h1 h2;have hX:Ss.Sig.right ⟨a,b⟩=(Ss.kinds 8 a&&Ss.kinds 8 b):=rfl;rw [hX];have c1:b8 65 [.int .i64 8,vl cj a] (.bool (Ss.kinds 8 a)):=jcY 8 a (by omega);have c2:b8 65 [.int .i64 8,vl cj b] (.bool (Ss.kinds 8 b)):=jcY 8 b (by omega);generalize Ss.kinds 8 a=x at *
 generalize Ss.kinds 8 b=y at *
 refine b7 Tryz.func66 Tryz.ntmps66 fun hwf=>?_
 refine bz ?_
 refine QP ?_;refine QL (c1) ?_
 by_cases hx:x=true
 .refine bJ hx ?_;refine QL (c2) ?_;refine bV ?_
  exact ja hwf (by simp [hx]) rfl
 .have hx':x=false:=by simpa using hx
  refine bJ hx' ?_;refine bW ?_
  exact ja hwf (by simp [hx']) rfl
theorem aiq (s:Ss.Sig) (hs:s.Fits):b8 98 ([jn s]++[]) (.bool (!s.right)):=by
 intro S;have c1:=jbJ s hs;obtain ⟨a,b⟩:=s;have c1':b8 66 [.agg [vl cj a,vl cj b]] (.bool (Ss.Sig.right ⟨a,b⟩)):=c1;refine b7 Tryz.func98 Tryz.ntmps98 fun hwf=>?_
 refine bz ?_
 refine QP ?_;refine QL (c1') ?_;refine bV ?_
 exact bS
theorem akc (e:Ss.Env) (he:e.Fits):b8 63 [qQ e] (.bool e.right):=by
 intro S;obtain ⟨⟨h1,h2⟩,_,⟨h4,_⟩,h5⟩:=he;obtain ⟨sg,im,gl,mu,me⟩:=e;simp only at h1 h2 h4 h5;have ea:(!sg.any fun s => !s.right)=sg.all Ss.Sig.right:=by
  rw [List.not_any_eq_all_not]; congr 1; funext t; simp
 have hX:Ss.Env.right ⟨sg,im,gl,mu,me⟩=(decide (0<=im)&&decide (im<=sg.length)&&decide (sg.length<=64)&&decide (mu.length=gl.length)&&Ss.kinds 32 gl && !sg.any fun s => !s.right):=by rw [ea]; rfl
 rw [hX];have c1:b8 65 [.int .i64 32,vl cj gl] (.bool (Ss.kinds 32 gl)):=jcY 32 gl (by omega);have c2:=axs sg (fun s => !s.right) 98 [] rfl (by omega) (fun s hs=>aiq s (h2 s hs));generalize Ss.kinds 32 gl=x at *
 generalize (sg.any fun s => !s.right)=y at *
 refine b7 Tryz.func63 Tryz.ntmps63 fun hwf=>?_
 by_cases k1:im<0
 .refine bD k1 ?_
  exact ja hwf (by simp; omega) rfl
 by_cases k2:(sg.length:Int)<im
 .refine bF k1 k2 ?_
  exact ja hwf (by simp; omega) rfl
 by_cases k3:(64:Int)<(sg.length:Int)
 .refine bG k1 k2 k3 ?_
  exact ja hwf (by simp; omega) rfl
 by_cases k4:mu.length=gl.length
 case neg =>
  have k4' : ¬ (mu.length:Int)=(gl.length:Int):=by omega
  refine bO k1 k2 k3 k4 k4' ?_
  exact ja hwf (by simp [k4]) rfl
 have k4':(mu.length:Int)=(gl.length:Int):=by omega
 have hp:(decide (0<=im)&&decide (im<=sg.length)&&decide (sg.length<=64)&&decide (mu.length=gl.length))=true:=by simp [k4]; omega
 rw [hp]
 refine bO k1 k2 k3 k4 k4' ?_
 refine QP ?_;refine QL (c1) ?_
 by_cases hx:x=true
 .refine bJ hx ?_;refine QL (c2) ?_;refine bV ?_
  exact ja hwf (by simp [hx]) rfl
 .have hx':x=false:=by simpa using hx
  refine bJ hx' ?_;refine bW ?_
  exact ja hwf (by simp [hx']) rfl
theorem arc (b:Ss.Block):b8 68 ([je b]++[]) (.bool (decide (256<b.params.length))):=by
 intro S;obtain ⟨ps,c,t⟩:=b;refine b7 Tryz.func68 Tryz.ntmps68 fun hwf=>?_
 refine bz ?_
 exact ja hwf (by simp; omega) rfl
end Go.Vw
namespace Ss
structure Grp where
 first:Int
 many:Int
 kind:Int
 ty:Int
deriving DecidableEq,Inhabited
def groups:List Grp:=[⟨69,1,0,127⟩,⟨70,10,1,127⟩,⟨80,1,0,126⟩,⟨81,10,1,126⟩,⟨103,3,2,127⟩,⟨106,15,3,127⟩,⟨121,3,2,126⟩,⟨124,15,3,126⟩,⟨167,1,4,126⟩,⟨172,2,5,127⟩,⟨192,2,6,127⟩,⟨194,3,6,126⟩]
def Grp.has (op:Int) (g:Grp):Bool:=decide (g.first<=op)&&decide (op-g.first<g.many)
def findIn (op:Int):List Grp->Option Grp
 | []=>none
 | g::gs=>if g.has op then some g else findIn op gs
def find (op:Int):Option Grp:=findIn op groups
theorem abz {op:Int} {g:Grp} : ∀ {gs:List Grp},findIn op gs=some g->g∈gs/\g.has op=true
 | [],h=>by simp [findIn] at h
 | x::xs,h=>by
  simp only [findIn] at h;split at h
  .rename_i hx; cases h; exact ⟨by simp,hx⟩
  .obtain ⟨h1,h2⟩:=abz h; exact ⟨by simp [h1],h2⟩
def division (k:Int):Bool:=decide (3<=k)&&decide (k<=6)
def total (op:Int):Bool:=match find op with
 | some g => !(decide (g.kind=3)&&division (op-g.first))
 | none=>false
def pure (op:Int):Bool:=decide (op=256)||decide (op=27)||total op
def Grp.ins (g:Grp):List Int:=if g.kind=1\/g.kind=3 then [g.ty,g.ty] else [g.ty]
def Grp.out (g:Grp):Int:=if g.kind=0\/g.kind=1\/g.kind=4 then 127 else if g.kind=5 then 126 else g.ty
def cB (op:Int):List Int × Int × Bool:=match find op with
 | some g=>(g.ins,g.out,true)
 | none=>([],0,false)
end Ss
namespace Go.Vw
open Go.Proofs Go.RowKit
attribute [-simp] List.map_set
def Zv (g:Ss.Grp):V := .agg [cj g.first,cj g.many,cj g.kind,cj g.ty]
theorem aqk (g:Ss.Grp):Zv g = .agg [cj g.first,cj g.many,cj g.kind,cj g.ty]:=nr rfl
theorem apd (g:Ss.Grp):(Zv g).ncells=4:=nr rfl
theorem jdg (g:Ss.Grp):(Zv g).closed=true:=rfl
attribute [simp] aqk apd
theorem aq6:b8 140 [] (vl Zv Ss.groups):=by
 intro S;refine b7 Tryz.func140 Tryz.ntmps140 fun hwf=>?_
 have hr:rep0 [V.int .i64 0, .int .i64 0, .int .i64 0, .int .i64 0] 12=[.int .i64 0, .int .i64 0, .int .i64 0, .int .i64 0, .int .i64 0, .int .i64 0, .int .i64 0, .int .i64 0, .int .i64 0, .int .i64 0, .int .i64 0, .int .i64 0, .int .i64 0, .int .i64 0, .int .i64 0, .int .i64 0, .int .i64 0, .int .i64 0, .int .i64 0, .int .i64 0, .int .i64 0, .int .i64 0, .int .i64 0, .int .i64 0, .int .i64 0, .int .i64 0, .int .i64 0, .int .i64 0, .int .i64 0, .int .i64 0, .int .i64 0, .int .i64 0, .int .i64 0, .int .i64 0, .int .i64 0, .int .i64 0, .int .i64 0, .int .i64 0, .int .i64 0, .int .i64 0, .int .i64 0, .int .i64 0, .int .i64 0, .int .i64 0, .int .i64 0, .int .i64 0, .int .i64 0, .int .i64 0]:=rfl
 refine bD hr ?_
 exact jf (l:=[none]) hwf (Ghost.toB (aej (k:=0) (enc:=Zv) (s:=4) (fun _=>rfl) jdg Ss.groups (by simp) (by rfl)) _) rfl
def findV (op:Int):Option Ss.Grp->V
 | some g => .tuple [Zv g,cj (op-g.first), .bool true]
 | none => .tuple [Zv ⟨0,0,0,0⟩,cj 0, .bool false]
theorem an7 (op:Int) (ho:Ss.I64 op):b8 117 [cj op] (findV op (Ss.find op)):=by
 intro S;have hgs : ∀ g∈Ss.groups,0<=g.first/\g.first<=1000/\0<=g.many/\g.many<=1000:=by decide
 have hlen:Ss.groups.length=12:=rfl;have cg:=aq6;unfold Ss.find;generalize Ss.groups=gs at *
 obtain ⟨ho1,ho2⟩:=ho;refine qB (c:=jc Tryz.f117) Tryz.func117 rfl (by conv=>lhs; reduce) (by simp [Tryz.ntmps117]) ?_;rw [Tryz.ntmps117];intro hwf
 refine bz ?_
 refine QP ?_;refine QL (cg) ?_;refine bV ?_
 refine bX [0,2,7,8,9] (fun c σ S' => ∃ (k:Nat),k<=gs.length/\c=gs.length-k/\Ss.findIn op (gs.drop k)=Ss.findIn op gs/\σ=[(0,cj op),(2, .ptr (lid S.nx 0) 0),(7,vl Zv gs),(8,cu gs.length),(9,cu k)]/\S'=St S [] [some (4,[.int .i64 0, .int .i64 0, .int .i64 0, .int .i64 0])]) gs.length ?_ ?_
 .exact ⟨0,by omega,rfl,rfl,by simp [Fr.oy],rfl⟩
 .rintro c σ T ⟨k,hk,rfl,hd,rfl,rfl⟩
  by_cases hkt:k<gs.length
  .have hw:=jg hkt (by omega);have hst:Ss.findIn op (gs.drop k)=if gs[k].has op then some gs[k] else Ss.findIn op (gs.drop (k+1)):=by rw [am hkt,Ss.findIn]
   have hgk:=hgs _ (ah hkt);obtain ⟨⟨g1,g2,g3,g4⟩,hx⟩ : ∃ g,gs[k]=g:=⟨_,rfl⟩
   rw [hx] at hst hgk;simp only at hgk
   by_cases h1:g1<=op
   .have hws:IntKind.i64.wrap (op-g1)=op-g1:=wrap_i64 (by omega) (by omega)
    by_cases h2:op-g1<g2
    .have hst':Ss.findIn op gs=some ⟨g1,g2,g3,g4⟩:=by rw [<-hd,hst]; simp [Ss.Grp.has,h1,h2]
     rw [hst']
     refine bO hkt hx h1 h2 hws ?_
     refine bZ (St S [] [none,some (4,[.int .i64 g1, .int .i64 g2, .int .i64 g3, .int .i64 g4])]) (St S [] [none,some (4,[.int .i64 g1, .int .i64 g2, .int .i64 g3, .int .i64 g4])]) [] ?_ (r:=by conv=>lhs; simp [QV,hws]);refine QI ?_;refine bJ hws ?_;refine bW ?_
     exact Ye (by simp; rfl) (ja hwf (by simp [findV]) rfl)
    .rw [show Ss.Grp.has op ⟨g1,g2,g3,g4⟩=false by simp [Ss.Grp.has,h1,h2]] at hst
     refine bO hkt hx h1 h2 hws ?_
     refine QA [0] (h:=⟨?_,k+1,hkt,rfl,by rw [<-hd,hst]; rfl,by simp [hw],rfl⟩);omega
   .rw [show Ss.Grp.has op ⟨g1,g2,g3,g4⟩=false by simp [Ss.Grp.has,h1]] at hst
    refine bG hkt hx h1 ?_
    refine QA [0] (h:=⟨?_,k+1,hkt,rfl,by rw [<-hd,hst]; rfl,by simp [hw],rfl⟩);omega
  .have e:gs.drop k=[]:=by rw [aH]; omega
   rw [e] at hd;have hd':Ss.findIn op gs=none:=by rw [<-hd]; rfl
   rw [hd']
   refine bD hkt ?_
   exact Ye (by simp; rfl) (ja hwf (by simp [findV]) rfl)
end Go.Vw
namespace Ss
def rin (op a b:Int):Bool:=decide (a<=op)&&decide (op<=b)
def rof (op:Int):Int :=
 if rin op 69 79\/rin op 103 120\/op=172\/op=173\/op=192\/op=193 then 127
 else if rin op 80 90\/rin op 121 138\/op=167\/rin op 194 196 then 126 else 0
def runary (op:Int):Bool:=decide (op=69)||(decide (op=80)||(rin op 103 105||(rin op 121 123||decide (167<=op))))
def rsigT (op:Int):Int:=if op=172\/op=173 then 126 else if rin op 69 90\/op=167 then 127 else rof op
def rsig (op:Int):List Int × Int × Bool :=
 if rof op=0 then ([],0,false) else (if runary op then [rof op] else [rof op,rof op],rsigT op,true)
theorem akw : ∀ n:Nat,n<256->rsig (n:Int)=cB (n:Int):=by decide +kernel
theorem abe (op:Int):rsig op=cB op:=by
 by_cases h:0<=op/\op<256
 .obtain ⟨n,rfl⟩:=Int.eq_ofNat_of_zero_le h.1;exact akw n (by have:=h.2; omega)
 .have h1:rof op=0:=by
   unfold rof;rw [if_neg (by simp only [rin,af,aj]; omega),if_neg (by simp only [rin,af,aj]; omega)]
  have h2:find op=none:=by
   cases hf:find op with
   | none=>rfl
   | some g =>
    exfalso
    obtain ⟨hm,hh⟩:=abz hf;have ha : ∀ g∈groups,0<=g.first/\g.first+g.many<=256:=by decide +kernel
    have:=ha g hm;simp only [Grp.has,af,aj] at hh;omega
  simp [rsig,h1,cB,h2]
end Ss
namespace Go.Vw
open Go.Proofs Go.RowKit
attribute [-simp] List.map_set
theorem in_v (op a b:Int):b8 126 [cj op,cj a,cj b] (.bool (Ss.rin op a b)):=by
 intro S
 by_cases h:a<=op
 .have hX:Ss.rin op a b=decide (op<=b):=by simp [Ss.rin,h]
  rw [hX];refine b7 Tryz.func126 Tryz.ntmps126 fun hwf=>?_
  refine bD h ?_
  exact ja hwf (by simp) rfl
 .have hX:Ss.rin op a b=false:=by simp [Ss.rin,h]
  rw [hX];refine b7 Tryz.func126 Tryz.ntmps126 fun hwf=>?_
  refine bD h ?_
  exact ja hwf (by simp) rfl
theorem jbp (t n:Int):b8 91 [cj t,vu n] (.bool (decide (t=126)||(decide (t=127)&&decide (n<4294967296)))):=by
 intro S;refine b7 Tryz.func91 Tryz.ntmps91 fun hwf=>?_
 by_cases h:t=126
 .refine bD h ?_
  exact ja hwf (by simp [h]) rfl
 by_cases h2:t=127
 .refine bF h h2 ?_
  exact ja hwf (by simp [h,h2]) rfl
 .refine bF h h2 ?_
  exact ja hwf (by simp [h,h2]) rfl
theorem Of_v (op:Int):b8 125 [cj op] (cj (Ss.rof op)):=by
 intro S;have c1:b8 126 [cj op, .int .i64 69, .int .i64 79] (.bool (Ss.rin op 69 79)):=in_v op 69 79;have c2:b8 126 [cj op, .int .i64 103, .int .i64 120] (.bool (Ss.rin op 103 120)):=in_v op 103 120;have c3:b8 126 [cj op, .int .i64 80, .int .i64 90] (.bool (Ss.rin op 80 90)):=in_v op 80 90;have c4:b8 126 [cj op, .int .i64 121, .int .i64 138] (.bool (Ss.rin op 121 138)):=in_v op 121 138;have c5:b8 126 [cj op, .int .i64 194, .int .i64 196] (.bool (Ss.rin op 194 196)):=in_v op 194 196;have hX:Ss.rof op=if Ss.rin op 69 79\/Ss.rin op 103 120\/op=172\/op=173\/op=192\/op=193 then 127
  else if Ss.rin op 80 90\/Ss.rin op 121 138\/op=167\/Ss.rin op 194 196 then 126 else 0:=rfl
 rw [hX];generalize Ss.rin op 69 79=x1 at *
 generalize Ss.rin op 103 120=x2 at *
 generalize Ss.rin op 80 90=x3 at *
 generalize Ss.rin op 121 138=x4 at *
 generalize Ss.rin op 194 196=x5 at *
 clear hX;refine b7 Tryz.func125 Tryz.ntmps125 fun hwf=>?_
 refine bz ?_
 refine QP ?_;refine QL (c1) ?_
 by_cases h1:x1=true
 .refine bJ h1 ?_;refine bW ?_
  exact ja hwf (by simp [h1]) rfl
 have g1:x1=false:=by simpa using h1
 refine bJ g1 ?_;refine QL (c2) ?_
 by_cases h2:x2=true
 .refine bJ h2 ?_;refine bW ?_
  exact ja hwf (by simp [h2]) rfl
 have g2:x2=false:=by simpa using h2
 by_cases k1:op=172
 .refine bK g2 k1 ?_;refine bW ?_
  exact ja hwf (by simp [k1]) rfl
 by_cases k2:op=173
 .refine bM g2 k1 k2 ?_;refine bW ?_
  exact ja hwf (by simp [k2]) rfl
 by_cases k3:op=192
 .refine QM (by conv=>lhs;simp[QV,g2,k1,k2,k3]) ?_;refine bW ?_
  exact ja hwf (by simp [k3]) rfl
 by_cases k4:op=193
 .refine QM (by conv=>lhs;simp[QV,g2,k1,k2,k3,k4]) ?_;refine bW ?_
  exact ja hwf (by simp [k4]) rfl
 rw [if_neg (by simp [g1,g2,k1,k2,k3,k4])];refine QM (by conv=>lhs;simp[QV,g2,k1,k2,k3,k4]) ?_;refine bW ?_
 refine QP ?_;refine QL (c3) ?_
 by_cases h3:x3=true
 .refine bJ h3 ?_;refine bW ?_
  exact ja hwf (by simp [h3]) rfl
 have g3:x3=false:=by simpa using h3
 refine bJ g3 ?_;refine QL (c4) ?_
 by_cases h4:x4=true
 .refine bJ h4 ?_;refine bW ?_
  exact ja hwf (by simp [h4]) rfl
 have g4:x4=false:=by simpa using h4
 by_cases k5:op=167
 .refine bK g4 k5 ?_;refine bW ?_
  exact ja hwf (by simp [k5]) rfl
 refine bK g4 k5 ?_;refine QL (c5) ?_
 by_cases h5:x5=true
 .refine bJ h5 ?_;refine bW ?_
  exact ja hwf (by simp [h5]) rfl
 have g5:x5=false:=by simpa using h5
 refine bJ g5 ?_;refine bW ?_
 exact ja hwf (by simp [g3,g4,k5,g5]) rfl
theorem aw6 (op:Int):b8 141 [cj op] (.bool (Ss.runary op)):=by
 intro S;have c1:b8 126 [cj op, .int .i64 103, .int .i64 105] (.bool (Ss.rin op 103 105)):=in_v op 103 105;have c2:b8 126 [cj op, .int .i64 121, .int .i64 123] (.bool (Ss.rin op 121 123)):=in_v op 121 123;have hX:Ss.runary op=(decide (op=69)||(decide (op=80)||(Ss.rin op 103 105||(Ss.rin op 121 123||decide (167<=op))))):=rfl;rw [hX];generalize Ss.rin op 103 105=x1 at *
 generalize Ss.rin op 121 123=x2 at *
 refine b7 Tryz.func141 Tryz.ntmps141 fun hwf=>?_
 by_cases k1:op=69
 .refine bD k1 ?_
  exact ja hwf (by simp [k1]) rfl
 by_cases k2:op=80
 .refine bF k1 k2 ?_
  exact ja hwf (by simp [k2]) rfl
 refine bz ?_
 refine bQ k1 k2 ?_;refine QL (c1) ?_
 by_cases h1:x1=true
 .refine bJ h1 ?_;refine bW ?_
  exact ja hwf (by simp [h1]) rfl
 have g1:x1=false:=by simpa using h1
 refine bJ g1 ?_;refine QL (c2) ?_
 by_cases h2:x2=true
 .refine bJ h2 ?_;refine bW ?_
  exact ja hwf (by simp [h2]) rfl
 have g2:x2=false:=by simpa using h2
 refine bJ g2 ?_;refine bW ?_
 exact ja hwf (by simp [k1,k2,g1,g2]) rfl
theorem KI (op:Int):b8 119 [cj op] (.tuple [vl cj (Ss.cB op).1,cj (Ss.cB op).2.1, .bool (Ss.cB op).2.2]):=by
 intro S;rw [<-Ss.abe op];have c1:=Of_v op;have c2:=aw6 op;have c3:b8 126 [cj op, .int .i64 69, .int .i64 90] (.bool (Ss.rin op 69 90)):=in_v op 69 90;have hX:Ss.rsig op=if Ss.rof op=0 then ([],0,false) else (if Ss.runary op then [Ss.rof op] else [Ss.rof op,Ss.rof op],if op=172\/op=173 then 126 else if Ss.rin op 69 90\/op=167 then 127 else Ss.rof op,true):=rfl
 rw [hX];generalize Ss.rof op=t at *
 generalize Ss.runary op=un at *
 generalize Ss.rin op 69 90=x at *
 clear hX;refine b7 Tryz.func119 Tryz.ntmps119 fun hwf=>?_
 refine bz ?_
 refine QP ?_;refine QL (c1) ?_
 by_cases ht:t=0
 .refine QW ?_
  refine bD ht ?_
  rw [if_pos ht];exact jf (l:=[]) hwf (Ghost.toB (Ghost.tp [] [_,_] (Ghost.nl _)) _) rfl
 rw [if_neg ht];refine QW ?_
 refine bD ht ?_
 refine QP ?_;refine QL (c2) ?_;obtain ⟨r,hr⟩ : ∃ r,(if op=172\/op=173 then 126 else if x\/op=167 then 127 else t)=r:=⟨_,rfl⟩
 simp only [hr]
 by_cases hu:un=true
 .rw [if_pos hu];refine bJ hu ?_;refine QN ?_
  refine bD hu ?_
  refine acz 6 1 rfl (by simp) rfl (by conv=>lhs; simp [au,aq]) ?_;refine QP ?_;refine QL (c3) ?_
  by_cases hx:x=true
  .skip
   refine bJ hx ?_;refine QN ?_
   by_cases k1:op=172
   .obtain rfl:r=126:=by rw [<-hr]; simp [k1]
    refine bF hx k1 ?_
    exact jf hwf ((Ghost.tp [] [_,_] (frz1 (k:=0) (by simp) (by rfl) (by rfl) (by rfl))).toB _) rfl
   by_cases k2:op=173
   .obtain rfl:r=126:=by rw [<-hr]; simp [k2]
    refine bG hx k1 k2 ?_
    exact jf hwf ((Ghost.tp [] [_,_] (frz1 (k:=0) (by simp) (by rfl) (by rfl) (by rfl))).toB _) rfl
   obtain rfl:r=127:=by rw [<-hr]; simp [k1,k2,hx]
   refine bG hx k1 k2 ?_
   exact jf hwf ((Ghost.tp [] [_,_] (frz1 (k:=0) (by simp) (by rfl) (by rfl) (by rfl))).toB _) rfl
  have hx':x=false:=by simpa using hx
  by_cases hq:op=167
  .skip
   refine bK hx' hq ?_;refine QN ?_;have k1 : ¬ op=172:=by omega
   have k2 : ¬ op=173:=by omega
   obtain rfl:r=127:=by rw [<-hr]; simp [k1,k2,hq]
   refine bH hx' hq k1 k2 ?_
   exact jf hwf ((Ghost.tp [] [_,_] (frz1 (k:=0) (by simp) (by rfl) (by rfl) (by rfl))).toB _) rfl
  refine bK hx' hq ?_;refine QN ?_
  by_cases k1:op=172
  .obtain rfl:r=126:=by rw [<-hr]; simp [k1]
   refine bG hx' hq k1 ?_
   exact jf hwf ((Ghost.tp [] [_,_] (frz1 (k:=0) (by simp) (by rfl) (by rfl) (by rfl))).toB _) rfl
  by_cases k2:op=173
  .obtain rfl:r=126:=by rw [<-hr]; simp [k2]
   refine bH hx' hq k1 k2 ?_
   exact jf hwf ((Ghost.tp [] [_,_] (frz1 (k:=0) (by simp) (by rfl) (by rfl) (by rfl))).toB _) rfl
  obtain rfl:r=t:=by rw [<-hr]; simp [k1,k2,hx',hq]
  refine bH hx' hq k1 k2 ?_
  exact jf hwf ((Ghost.tp [] [_,_] (frz1 (k:=0) (by simp) (by rfl) (by rfl) (by rfl))).toB _) rfl
 .replace hu:un=false:=by simpa using hu
  rw [if_neg (by simp [hu])];refine bJ hu ?_;refine QN ?_
  refine bD hu ?_
  refine QP ?_;refine QL (c3) ?_
  by_cases hx:x=true
  .skip
   refine bJ hx ?_;refine QN ?_
   by_cases k1:op=172
   .obtain rfl:r=126:=by rw [<-hr]; simp [k1]
    refine bF hx k1 ?_
    exact jf hwf ((Ghost.tp [] [_,_] (frz1 (k:=0) (by simp) (by rfl) (by rfl) (by rfl))).toB _) rfl
   by_cases k2:op=173
   .obtain rfl:r=126:=by rw [<-hr]; simp [k2]
    refine bG hx k1 k2 ?_
    exact jf hwf ((Ghost.tp [] [_,_] (frz1 (k:=0) (by simp) (by rfl) (by rfl) (by rfl))).toB _) rfl
   obtain rfl:r=127:=by rw [<-hr]; simp [k1,k2,hx]
   refine bG hx k1 k2 ?_
   exact jf hwf ((Ghost.tp [] [_,_] (frz1 (k:=0) (by simp) (by rfl) (by rfl) (by rfl))).toB _) rfl
  have hx':x=false:=by simpa using hx
  by_cases hq:op=167
  .skip
   refine bK hx' hq ?_;refine QN ?_;have k1 : ¬ op=172:=by omega
   have k2 : ¬ op=173:=by omega
   obtain rfl:r=127:=by rw [<-hr]; simp [k1,k2,hq]
   refine bH hx' hq k1 k2 ?_
   exact jf hwf ((Ghost.tp [] [_,_] (frz1 (k:=0) (by simp) (by rfl) (by rfl) (by rfl))).toB _) rfl
  refine bK hx' hq ?_;refine QN ?_
  by_cases k1:op=172
  .obtain rfl:r=126:=by rw [<-hr]; simp [k1]
   refine bG hx' hq k1 ?_
   exact jf hwf ((Ghost.tp [] [_,_] (frz1 (k:=0) (by simp) (by rfl) (by rfl) (by rfl))).toB _) rfl
  by_cases k2:op=173
  .obtain rfl:r=126:=by rw [<-hr]; simp [k2]
   refine bH hx' hq k1 k2 ?_
   exact jf hwf ((Ghost.tp [] [_,_] (frz1 (k:=0) (by simp) (by rfl) (by rfl) (by rfl))).toB _) rfl
  obtain rfl:r=t:=by rw [<-hr]; simp [k1,k2,hx',hq]
  refine bH hx' hq k1 k2 ?_
  exact jf hwf ((Ghost.tp [] [_,_] (frz1 (k:=0) (by simp) (by rfl) (by rfl) (by rfl))).toB _) rfl
end Go.Vw
