import Derived.Test.YtkfllaokjaldnaaGreatC10
import Derived.Test.YtkfllaokjaldnaaGreatC11
import Derived.Test.YtkfllaokjaldnaaGreatProg
import Derived.OpenShut
/-
  Part of the proof (texts SRd, GDom, GDom2, GNat, GOrd, GRepeat).
-/
set_option linter.unusedVariables false
set_option linter.unusedSimpArgs false
namespace Go.Vw
open Go.Proofs Go.RowKit Go.ChangeShapes Go.WideShapes
set_option maxRecDepth 100000
theorem jbm {l b:Nat} (hb:1≤b) (h:l*b≤140737488351232):l≤140737488355328:=by
 have:l*1≤l*b:=Nat.mul_le_mul_left _ hb;omega
theorem i64_of {n:Int} (h:(Lit.int .i64 n).wf=true):Ss.I64 n:=bounds_i64 h
theorem rdInt:ReadsC Tryz.prog 3 (fun n:Int=>[vint n]) Ss.I64 :=
 (ReadsC.int Tryz.underlying3).map id (fun _=>rfl) (fun n h=>i64_of h)
theorem rdU64:ReadsC Tryz.prog 63 (fun n:Int=>[vu n]) (fun n=>0≤n∧n<18446744073709551616) :=
 (ReadsC.int Tryz.underlying63).map id (fun _=>rfl) (fun n h=>by have h1:=bounds_u64 h; simp only [id]; omega)
theorem rdBool:ReadsC Tryz.prog 4 (fun b:Bool=>[.bool b]) (fun _=>True):=ReadsC.bool Tryz.underlying4
theorem WA:ReadsC Tryz.prog 23 (fun l:List Int=>[vl vint l]) Ss.Ints :=
 (ReadsC.slice vint Tryz.underlying23 rdInt (of_decide_eq_true (by kernel_rfl)) (fun _ => .inr rfl)).map id (fun _=>rfl) (fun l h=>⟨jbm (of_decide_eq_true (by kernel_rfl)) h.1.2,h.2⟩)
theorem rdBools:ReadsC Tryz.prog 24 (fun l:List Bool=>[vl V.bool l]) (fun l=>l.length≤140737488355328) :=
 (ReadsC.slice V.bool Tryz.underlying24 rdBool (of_decide_eq_true (by kernel_rfl)) (fun _ => .inr rfl)).map id (fun _=>rfl) (fun l h=>jbm (of_decide_eq_true (by kernel_rfl)) h.1.2)
theorem rdSig:ReadsC Tryz.prog 28 (fun s:Ss.Sig=>[vl vint s.inn,vl vint s.out]) Ss.Sig.Fits :=
 (ReadsC.struct Tryz.underlying28 (by kernel_rfl) (ReadsF.cons (by kernel_rfl) WA (ReadsF.cons (by kernel_rfl) WA ReadsF.nil))).map (fun p=>(⟨p.1,p.2.1⟩:Ss.Sig)) (fun _=>rfl) (fun p h=>⟨h.1,h.2.1⟩)
theorem rdSigs:ReadsC Tryz.prog 22 (fun l:List Ss.Sig=>[vl jS l]) (fun l=>l.length≤140737488355328 ∧ ∀ s∈l,s.Fits) :=
 (ReadsC.slice jS Tryz.underlying22 rdSig (of_decide_eq_true (by kernel_rfl)) (fun _ => .inl rfl)).map id (fun _=>rfl) (fun l h=>⟨jbm (of_decide_eq_true (by kernel_rfl)) h.1.2,h.2⟩)
theorem rdIns:ReadsC Tryz.prog 65 (fun x:Ss.Ins=>[vint x.op,vu x.n,vl vint x.args,vl vint x.outs]) Ss.Ins.Fits :=
 (ReadsC.struct Tryz.underlying65 (by kernel_rfl) (ReadsF.cons (by kernel_rfl) rdInt (ReadsF.cons (by kernel_rfl) rdU64 (ReadsF.cons (by kernel_rfl) WA (ReadsF.cons (by kernel_rfl) WA ReadsF.nil))))).map (fun p=>(⟨p.1,p.2.1,p.2.2.1,p.2.2.2.1⟩:Ss.Ins)) (fun _=>rfl) (fun p h=>⟨h.1,h.2.1,h.2.2.1,h.2.2.2.1⟩)
theorem rdInss:ReadsC Tryz.prog 57 (fun l:List Ss.Ins=>[vl jq l]) (fun l=>l.length≤140737488355328 ∧ ∀ s∈l,s.Fits) :=
 (ReadsC.slice jq Tryz.underlying57 rdIns (of_decide_eq_true (by kernel_rfl)) (fun _ => .inl rfl)).map id (fun _=>rfl) (fun l h=>⟨jbm (of_decide_eq_true (by kernel_rfl)) h.1.2,h.2⟩)
theorem rdEdge:ReadsC Tryz.prog 67 (fun x:Ss.Edge=>[vint x.to,vl vint x.args]) Ss.Edge.Fits :=
 (ReadsC.struct Tryz.underlying67 (by kernel_rfl) (ReadsF.cons (by kernel_rfl) rdInt (ReadsF.cons (by kernel_rfl) WA ReadsF.nil))).map (fun p=>(⟨p.1,p.2.1⟩:Ss.Edge)) (fun _=>rfl) (fun p h=>⟨h.1,h.2.1⟩)
theorem rdEdges:ReadsC Tryz.prog 58 (fun l:List Ss.Edge=>[vl jk l]) (fun l=>l.length≤140737488355328 ∧ ∀ s∈l,s.Fits) :=
 (ReadsC.slice jk Tryz.underlying58 rdEdge (of_decide_eq_true (by kernel_rfl)) (fun _ => .inl rfl)).map id (fun _=>rfl) (fun l h=>⟨jbm (of_decide_eq_true (by kernel_rfl)) h.1.2,h.2⟩)
theorem rdTerm:ReadsC Tryz.prog 60 (fun t:Ss.Term=>[vint t.kind,vint t.arg,vl jk t.to,vl vint t.args]) Ss.Term.Fits :=
 (ReadsC.struct Tryz.underlying60 (by kernel_rfl) (ReadsF.cons (by kernel_rfl) rdInt (ReadsF.cons (by kernel_rfl) rdInt (ReadsF.cons (by kernel_rfl) rdEdges (ReadsF.cons (by kernel_rfl) WA ReadsF.nil))))).map (fun p=>(⟨p.1,p.2.1,p.2.2.1,p.2.2.2.1⟩:Ss.Term)) (fun _=>rfl) (fun p h=>⟨h.1,h.2.1,h.2.2.1,h.2.2.2.1⟩)
theorem rdBlock:ReadsC Tryz.prog 62 (fun b:Ss.Block=>[vl vint b.params,vl jq b.code,vint b.term.kind,vint b.term.arg,vl jk b.term.to,vl vint b.term.args]) Ss.Block.Fits :=
 (ReadsC.struct Tryz.underlying62 (by kernel_rfl) (ReadsF.cons (by kernel_rfl) WA (ReadsF.cons (by kernel_rfl) rdInss (ReadsF.cons (by kernel_rfl) rdTerm ReadsF.nil)))).map (fun p=>(⟨p.1,p.2.1,p.2.2.1⟩:Ss.Block)) (fun _=>rfl) (fun p h=>⟨h.1,h.2.1,h.2.2.1⟩)
theorem rdBlocks:ReadsC Tryz.prog 29 (fun l:List Ss.Block=>[vl jd l]) (fun l=>l.length≤140737488355328 ∧ ∀ s∈l,s.Fits) :=
 (ReadsC.slice jd Tryz.underlying29 rdBlock (of_decide_eq_true (by kernel_rfl)) (fun _ => .inl rfl)).map id (fun _=>rfl) (fun l h=>⟨jbm (of_decide_eq_true (by kernel_rfl)) h.1.2,h.2⟩)
theorem rdFn:ReadsC Tryz.prog 31 (fun f:Ss.Fn=>[vl vint f.sig.inn,vl vint f.sig.out,vl vint f.types,vl jd f.blocks]) Ss.Fn.Fits :=
 (ReadsC.struct Tryz.underlying31 (by kernel_rfl) (ReadsF.cons (by kernel_rfl) rdSig (ReadsF.cons (by kernel_rfl) WA (ReadsF.cons (by kernel_rfl) rdBlocks ReadsF.nil)))).map (fun p=>(⟨p.1,p.2.1,p.2.2.1⟩:Ss.Fn)) (fun _=>rfl) (fun p h=>⟨h.1,h.2.1,h.2.2.1⟩)
theorem rdEnv:ReadsC Tryz.prog 26 (fun e:Ss.Env=>[vl jS e.sigs,vint e.imports,vl vint e.globals,vl V.bool e.muts, .bool e.mem]) Ss.Env.Fits :=
 (ReadsC.struct Tryz.underlying26 (by kernel_rfl) (ReadsF.cons (by kernel_rfl) rdSigs (ReadsF.cons (by kernel_rfl) rdInt (ReadsF.cons (by kernel_rfl) WA (ReadsF.cons (by kernel_rfl) rdBools (ReadsF.cons (by kernel_rfl) rdBool ReadsF.nil)))))).map (fun p=>(⟨p.1,p.2.1,p.2.2.1,p.2.2.2.1,p.2.2.2.2.1⟩:Ss.Env)) (fun _=>rfl) (fun p h=>⟨h.1,h.2.1,h.2.2.1,h.2.2.2.1⟩)
end Go.Vw

namespace Go.Vw
open Go.Proofs Go.RowKit
set_option maxRecDepth 10000
set_option maxHeartbeats 4000000
theorem RDominates_v (l:List Int) (a b:Int) (hl:l.length<2^63):VPure Tryz.prog 121 [vl vint l,vint a,vint b] (.bool (G.dominates l a b)):=by
 intro S;refine qV rfl ?_;refine qM (c:=jg Tryz.f121) Tryz.func121 rfl rfl (by simp [Tryz.ntmps121]) ?_;rw [Tryz.ntmps121]
 repeat refine QS ?_
 refine QY ?_
 by_cases ha:G.okIx l a
 ·by_cases hb:G.okIx l b
  ·obtain ⟨ha1,ha2⟩:=ha;obtain ⟨hb1,hb2⟩:=hb;have e1 : ¬ a<0:=by omega
   have e2 : ¬ (l.length:Int)≤a:=by omega
   have e3 : ¬ b<0:=by omega
   have e4 : ¬ (l.length:Int)≤b:=by omega
   repeat refine QS ?_
   refine QY ?_ (r:=by conv=>lhs;simp[-List.map_set,QV,jG,e1,e2,e3,e4])
   repeat refine QS ?_
   refine jJ rfl rfl rfl ?_
   repeat refine QS ?_
   refine jE rfl ?_
   repeat refine QS ?_
   refine QY ?_
   repeat refine QS ?_
   refine jN 0 rfl rfl ?_
   repeat refine QS ?_
   refine je [0,1,2,7] rfl (fun n σ S' => ∃ (k:Nat) (c:Int),k≤257∧n=257-k∧G.okIx l c∧G.dom1 l a (257-k) c=G.dom1 l a 257 b∧σ=[(0,vl vint l),(1,vint a),(2,vint c),(7,vnat k)]∧S'=S) 257 ?_ ?_
   ·exact ⟨0,b,by omega,rfl,⟨hb1,hb2⟩,rfl,by simp [Fr.only,Fr.look,vnat,vint],rfl⟩
   ·rintro n σ S' ⟨k,c,hk,rfl,hc,hd,rfl,rfl⟩;have hfin:G.dominates l a b=G.dom1 l a 257 b:=by simp [G.dominates,G.okIx,ha1,ha2]
    obtain ⟨hc1,hc2⟩:=hc;have hcn:c.toNat<l.length:=by omega
    repeat refine QS ?_
    refine QY ?_
    repeat refine QS ?_
    refine Ya rfl rfl rfl (k≤256) (by first | (simp; done) | (simp; omega)) ?_ ?_
    ·intro hk6;have hst:G.dom1 l a (257-k) c=if a=c then true else G.dom1 l a (256-k) (l[c.toNat]):=by
      rw [show 257-k=(256-k)+1 from by omega,G.dom1,if_pos ⟨hc1,hc2⟩];simp [hcn]
     repeat refine QS ?_
     refine jE rfl ?_
     repeat refine QS ?_
     refine jN 1 rfl rfl ?_
     repeat refine QS ?_
     refine QY ?_
     repeat refine QS ?_
     refine Ya rfl rfl rfl (a=c) (by first | (simp; done) | (simp; omega)) ?_ ?_
     ·intro hac
      repeat refine QS ?_
      refine QY ?_
      repeat refine QS ?_
      refine jH rfl ?_;rw [hfin, ←hd,hst,if_pos hac];exact Gives.same (Agree.refl S')
     ·intro hac;rw [if_neg hac] at hst
      repeat refine QS ?_
      refine jE rfl ?_
      repeat refine QS ?_
      refine QY ?_ (r:=by conv=>lhs;simp[-List.map_set,QV,ZR,hc1,hcn]);have fls : ¬ G.okIx l l[c.toNat]→G.dom1 l a (256-k) l[c.toNat]=false:=by
       intro h
       cases 256-k<;>simp [G.dom1,h]
      by_cases hx:l[c.toNat]<0
      ·repeat refine QS ?_
       refine QY ?_ (r:=by conv=>lhs;simp[-List.map_set,QV,jG,hx])
       repeat refine QS ?_
       refine jF rfl rfl rfl ?_
       repeat refine QS ?_
       refine QY ?_
       repeat refine QS ?_
       refine jH rfl ?_;rw [hfin, ←hd,hst,fls (by simp [G.okIx]; omega)];exact Gives.same (Agree.refl S')
      ·by_cases hy:(l.length:Int)≤l[c.toNat]
       ·repeat refine QS ?_
        refine QY ?_ (r:=by conv=>lhs;simp[-List.map_set,QV,jG,hx,hy])
        repeat refine QS ?_
        refine jF rfl rfl rfl ?_
        repeat refine QS ?_
        refine QY ?_
        repeat refine QS ?_
        refine jH rfl ?_;rw [hfin, ←hd,hst,fls (by simp [G.okIx]; omega)];exact Gives.same (Agree.refl S')
       ·repeat refine QS ?_
        refine QY ?_ (r:=by conv=>lhs;simp[-List.map_set,QV,jG,hx,hy])
        repeat refine QS ?_
        refine jJ rfl rfl rfl ?_
        repeat refine QS ?_
        refine jE rfl ?_;have hw:IntKind.i64.wrap ((k:Int)+1)=(k:Int)+1:=wrap_i64 (by omega) (by omega)
        repeat refine QS ?_
        refine QY ?_ (r:=by conv=>lhs;simp[-List.map_set,QV,hw]);exact again ⟨Nat.sub_lt_sub_left (by omega) (Nat.lt_succ_self k),k+1,l[c.toNat],by omega,rfl,⟨by omega,by omega⟩,by rw [←hd,hst]; congr 1; omega,by simp [Fr.only,Fr.look,vnat,vint],rfl⟩
    ·intro hk6
     repeat refine QS ?_
     refine jV 0 rfl rfl ?_
     repeat refine QS ?_
     refine QY ?_
     repeat refine QS ?_
     refine jH rfl ?_;rw [hfin, ←hd,show 257-k=0 from by omega];exact Gives.same (Agree.refl S')
  ·have hfin:G.dominates l a b=false:=by simp [G.dominates,G.dom1,hb]
   obtain ⟨ha1,ha2⟩:=ha;have e1 : ¬ a<0:=by omega
   have e2 : ¬ (l.length:Int)≤a:=by omega
   rw [hfin]
   by_cases e3:b<0
   ·repeat refine QS ?_
    refine QY ?_ (r:=by conv=>lhs;simp[-List.map_set,QV,jG,e1,e2,e3])
    repeat refine QS ?_
    refine jF rfl rfl rfl ?_
    repeat refine QS ?_
    refine QY ?_
    repeat refine QS ?_
    refine jH rfl ?_;exact Gives.same (Agree.refl S)
   ·have e4:(l.length:Int)≤b:=by simp [G.okIx] at hb; omega
    repeat refine QS ?_
    refine QY ?_ (r:=by conv=>lhs;simp[-List.map_set,QV,jG,e1,e2,e3,e4])
    repeat refine QS ?_
    refine jF rfl rfl rfl ?_
    repeat refine QS ?_
    refine QY ?_
    repeat refine QS ?_
    refine jH rfl ?_;exact Gives.same (Agree.refl S)
 ·have hfin:G.dominates l a b=false:=by simp [G.dominates,ha]
  rw [hfin]
  by_cases e1:a<0
  ·repeat refine QS ?_
   refine QY ?_ (r:=by conv=>lhs;simp[-List.map_set,QV,jG,e1])
   repeat refine QS ?_
   refine jF rfl rfl rfl ?_
   repeat refine QS ?_
   refine QY ?_
   repeat refine QS ?_
   refine jH rfl ?_;exact Gives.same (Agree.refl S)
  ·have e2:(l.length:Int)≤a:=by simp [G.okIx] at ha; omega
   repeat refine QS ?_
   refine QY ?_ (r:=by conv=>lhs;simp[-List.map_set,QV,jG,e1,e2])
   repeat refine QS ?_
   refine jF rfl rfl rfl ?_
   repeat refine QS ?_
   refine QY ?_
   repeat refine QS ?_
   refine jH rfl ?_;exact Gives.same (Agree.refl S)
end Go.Vw

namespace Go.Vw
open Go.Proofs Go.RowKit
set_option maxRecDepth 10000
set_option maxHeartbeats 4000000
theorem there_v (l:List Int) (n:Int):VPure Tryz.prog 114 [vint n, .ref (vl vint l)] (.bool (decide (G.okIx l n))):=by
 intro S;refine qV rfl ?_;refine qM (c:=jg Tryz.f114) Tryz.func114 rfl rfl (by simp [Tryz.ntmps114]) ?_;rw [Tryz.ntmps114]
 repeat refine QS ?_
 refine QY ?_
 by_cases h0:0≤n
 ·repeat refine QS ?_
  refine QY ?_ (r:=by conv=>lhs;simp[-List.map_set,QV,jG,h0])
  repeat refine QS ?_
  refine jH rfl ?_;have:decide (G.okIx l n)=decide (n<(l.length:Int)):=by simp [G.okIx,h0]
  rw [this];exact Gives.same (Agree.refl S)
 ·repeat refine QS ?_
  refine QY ?_ (r:=by conv=>lhs;simp[-List.map_set,QV,jG,h0])
  repeat refine QS ?_
  refine jH rfl ?_;have:decide (G.okIx l n)=false:=by simp [G.okIx,h0]
  rw [this];exact Gives.same (Agree.refl S)
theorem jaC (l:List Int) (a b:Int) (hl:l.length<2^63):VPure Tryz.prog 79 [vl vint l,vint a,vint b] (.bool (G.dominates l a b)):=by
 intro S;refine qV rfl ?_;refine qM (c:=jg Tryz.f79) Tryz.func79 rfl rfl (by simp [Tryz.ntmps79]) ?_;rw [Tryz.ntmps79]
 repeat refine QS ?_
 refine QY ?_;refine jv 3 rfl (Ghost.box (get_add _ _) (jbq _ _)) (by conv=>lhs; simp [Fr.set]) ?_;have hag:Agree S ((S.add (1,[vl vint l])).del S.nx):=((Agree.refl S).add _).del (Nat.le_refl _);generalize (S.add (1,[vl vint l])).del S.nx=S1 at hag ⊢
 repeat refine QS ?_
 refine QY ?_
 repeat refine QS ?_
 refine QP ?_;refine zi rfl rfl rfl (there_v l a) ?_;refine QW ?_
 by_cases ha:G.okIx l a
 ·have hfin:G.dominates l a b=G.dom1 l a 257 b:=by simp [G.dominates,ha]
  rw [hfin];refine jJ rfl rfl (by simp [ev,Fr.look,ha]) ?_
  repeat refine QS ?_
  refine jE rfl ?_
  repeat refine QS ?_
  refine QY ?_
  repeat refine QS ?_
  refine jN 0 rfl rfl ?_
  repeat refine QS ?_
  refine je [0,1,2,3,7,8] rfl (fun n σ S' => ∃ (k:Nat) (c:Int),k≤257∧n=257-k∧G.dom1 l a (257-k) c=G.dom1 l a 257 b∧σ=[(0,vl vint l),(1,vint a),(2,vint c),(3, .ref (vl vint l)),(7, .func 114 [.ref (vl vint l)]),(8,vnat k)]∧S'=S1) 257 ?_ ?_
  ·exact ⟨0,b,by omega,rfl,rfl,by simp [Fr.only,Fr.look,vnat,vint],rfl⟩
  ·rintro n σ S' ⟨k,c,hk,rfl,hd,rfl,rfl⟩
   by_cases hk6:k≤256
   ·have hst:G.dom1 l a (257-k) c=if G.okIx l c then (if a=c then true else G.dom1 l a (256-k) (l.getD c.toNat 0)) else false:=by
     rw [show 257-k=(256-k)+1 from by omega,G.dom1]
    have h7:(k:Int)≤256:=by omega
    repeat refine QS ?_
    refine QP ?_ (r:=by conv=>lhs;simp[-List.map_set,QV,h7]);refine zi rfl rfl rfl (there_v l c) ?_;refine QW ?_
    by_cases hc:G.okIx l c
    ·refine jF rfl rfl (by simp [ev,Fr.look,hc]) ?_;rw [if_pos hc] at hst;obtain ⟨hc1,hc2⟩:=hc;have hcn:c.toNat<l.length:=by omega
     repeat refine QS ?_
     refine jE rfl ?_
     repeat refine QS ?_
     refine jN 1 rfl rfl ?_
     repeat refine QS ?_
     refine QY ?_
     repeat refine QS ?_
     refine Ya rfl rfl rfl (a=c) (by first | (simp; done) | (simp; omega)) ?_ ?_
     ·intro hac
      repeat refine QS ?_
      refine QY ?_
      repeat refine QS ?_
      refine jH rfl ?_;rw [←hd,hst,if_pos hac];exact Gives.same hag
     ·intro hac;rw [if_neg hac] at hst;have hw:IntKind.i64.wrap ((k:Int)+1)=(k:Int)+1:=wrap_i64 (by omega) (by omega)
      repeat refine QS ?_
      refine jE rfl ?_
      repeat refine QS ?_
      refine QY ?_ (r:=by conv=>lhs;simp[-List.map_set,QV,ZR,hc1,hcn])
      repeat refine QS ?_
      refine QY ?_ (r:=by conv=>lhs;simp[-List.map_set,QV,hw]);exact again ⟨Nat.sub_lt_sub_left (by omega) (Nat.lt_succ_self k),k+1,l[c.toNat],by omega,rfl,by rw [←hd,hst,show 257-(k+1)=256-k from by omega]; simp [hcn],by simp [Fr.only,Fr.look,vnat,vint],rfl⟩
    ·refine jJ rfl rfl (by simp [ev,Fr.look,hc]) ?_
     repeat refine QS ?_
     refine jV 0 rfl rfl ?_
     repeat refine QS ?_
     refine QY ?_
     repeat refine QS ?_
     refine jH rfl ?_;rw [←hd,hst,if_neg hc];exact Gives.same hag
   ·have h7 : ¬ (k:Int)≤256:=by omega
    repeat refine QS ?_
    refine QY ?_ (r:=by conv=>lhs;simp[-List.map_set,QV,h7])
    repeat refine QS ?_
    refine jJ rfl rfl rfl ?_
    repeat refine QS ?_
    refine jV 0 rfl rfl ?_
    repeat refine QS ?_
    refine QY ?_
    repeat refine QS ?_
    refine jH rfl ?_;rw [←hd,show 257-k=0 from by omega];exact Gives.same hag
 ·have hfin:G.dominates l a b=false:=by simp [G.dominates,ha]
  rw [hfin];refine jF rfl rfl (by simp [ev,Fr.look,ha]) ?_
  repeat refine QS ?_
  refine QY ?_
  repeat refine QS ?_
  refine jH rfl ?_;exact Gives.same hag
end Go.Vw

/-
 Graphs that may be: lists of lists of numbers of nodes.
-/
namespace Go.Vw.G
open Go.Vw
structure Ok (g:List (List Nat)):Prop where
 pos:1≤g.length
 max:g.length≤256
 row : ∀ l∈g,l.length≤128
 elt : ∀ l∈g, ∀ n∈l,n<g.length
def nats (g:List (List Int)):List (List Nat):=g.map (·.map Int.toNat)
theorem nats_length (g:List (List Int)):(nats g).length=g.length:=by simp [nats]
theorem rowOk_iff {n:Nat} {l:List Int}:rowOk n l=true↔l.length≤128 ∧ ∀ x∈l,0≤x∧x<n:=by
 simp only [rowOk,Bool.and_eq_true,decide_eq_true_eq,Bool.not_eq_true',List.any_eq_false,wild,Bool.or_eq_true,not_or,decide_eq_true_eq];constructor
 ·rintro ⟨h1,h2⟩; exact ⟨h1,fun x hx=>by have:=h2 x hx; omega⟩
 ·rintro ⟨h1,h2⟩; exact ⟨h1,fun x hx=>by have:=h2 x hx; omega⟩
theorem right_ok {g:List (List Int)} (h:right g=true):Ok (nats g):=by
 simp only [right,Bool.and_eq_true,decide_eq_true_eq,List.all_eq_true,rowOk_iff] at h;obtain ⟨⟨h1,h2⟩,h3⟩:=h;refine ⟨by rw [nats_length]; exact h1,by rw [nats_length]; exact h2, ?_, ?_⟩
 ·intro l hl;obtain ⟨r,hr,rfl⟩:=List.mem_map.1 hl;rw [List.length_map]; exact (h3 r hr).1
 ·intro l hl n hn;obtain ⟨r,hr,rfl⟩:=List.mem_map.1 hl;obtain ⟨x,hx,rfl⟩:=List.mem_map.1 hn;have:=(h3 r hr).2 x hx;rw [nats_length]; omega
theorem right_enc {g:List (List Int)} (h:right g=true):vl (vl vint) g=vl (vl vnat) (nats g):=by
 simp only [right,Bool.and_eq_true,decide_eq_true_eq,List.all_eq_true,rowOk_iff] at h;obtain ⟨_,h3⟩:=h;unfold vl nats;simp only [V.list.injEq,List.map_map];refine List.map_congr_left fun r hr => ?_
 simp only [Function.comp,List.map_map,V.list.injEq];refine List.map_congr_left fun x hx => ?_
 have:=(h3 r hr).2 x hx;simp only [Function.comp,vint,vnat,V.int.injEq,true_and];omega
abbrev WS:=List Bool × List Nat
def walk (g:List (List Nat)):Nat→Nat→WS→Option WS
 | 0,_,_=>none
 | f+1,n,s=>((g.getD n []).foldlM (fun (s:WS) k=>if s.1.getD k false then some s else walk g f k s) ((s.1.set n true,s.2):WS)).map fun (s:WS)=>((s.1,s.2++[n]):WS)
def kids (g:List (List Nat)) (f:Nat) (l:List Nat) (s:WS):Option WS:=l.foldlM (fun (s:WS) k=>if s.1.getD k false then some s else walk g f k s) s
theorem walk_succ (g:List (List Nat)) (f n:Nat) (s:WS):walk g (f+1) n s=(kids g f (g.getD n []) (s.1.set n true,s.2)).map fun s=>(s.1,s.2++[n]):=rfl
theorem kids_nil (g:List (List Nat)) (f:Nat) (s:WS):kids g f [] s=some s:=rfl
theorem kids_cons (g:List (List Nat)) (f k:Nat) (l:List Nat) (s:WS):kids g f (k::l) s=if s.1.getD k false then kids g f l s else (walk g f k s).bind (kids g f l):=by
 simp only [kids,List.foldlM_cons]
 cases s.1.getD k false
 ·simp; rfl
 ·simp
theorem kids_len {g:List (List Nat)} {f:Nat} (ih : ∀ n s s',walk g f n s=some s'→s.2.length≤s'.2.length∧s'.1.length=s.1.length) : ∀ (l:List Nat) (s s':WS),kids g f l s=some s'→s.2.length≤s'.2.length∧s'.1.length=s.1.length
 | [],s,s',h=>by cases h; exact ⟨Nat.le_refl _,rfl⟩
 | k::l,s,s',h=>by
  rw [kids_cons] at h;split at h
  ·exact kids_len ih l s s' h
  ·obtain ⟨t,h1,h2⟩:=Option.bind_eq_some_iff.1 h;have a:=ih _ _ _ h1;have b:=kids_len ih l t s' h2;omega
theorem walk_len (g:List (List Nat)) : ∀ (f n:Nat) (s s':WS),walk g f n s=some s'→s.2.length≤s'.2.length∧s'.1.length=s.1.length
 | 0,n,s,s',h=>by cases h
 | f+1,n,s,s',h=>by
  rw [walk_succ] at h;obtain ⟨t,h1,rfl⟩:=Option.map_eq_some_iff.1 h;have:=kids_len (walk_len g f) _ _ _ h1;simp at this ⊢;omega
end Go.Vw.G

/-
 The walk in depth ends, with a stack or without.
-/
namespace Go.Vw.G
open Go.Vw
theorem WG {g:List (List Nat)} {f:Nat} (ih : ∀ n s t,walk g f n s=some t→walk g (f+1) n s=some t) : ∀ (l:List Nat) (s t:WS),kids g f l s=some t→kids g (f+1) l s=some t
 | [],s,t,h=>h
 | k::l,s,t,h=>by
  rw [kids_cons] at h ⊢;split
  ·rename_i hm; rw [if_pos hm] at h; exact WG ih l s t h
  ·rename_i hm;rw [if_neg hm] at h;obtain ⟨u,h1,h2⟩:=Option.bind_eq_some_iff.1 h;rw [ih _ _ _ h1];exact WG ih l u t h2
theorem walk_mono {g:List (List Nat)} : ∀ (f n:Nat) (s t:WS),walk g f n s=some t→walk g (f+1) n s=some t
 | 0,n,s,t,h=>by cases h
 | f+1,n,s,t,h=>by
  rw [walk_succ] at h ⊢;obtain ⟨u,h1,rfl⟩:=Option.map_eq_some_iff.1 h;rw [WG (walk_mono f) _ _ _ h1]
  rfl
theorem kids_mono' {g:List (List Nat)} {f:Nat} {l:List Nat} {s t:WS} (h:kids g f l s=some t):kids g (f+1) l s=some t:=WG (walk_mono f) l s t h
def unmet (m:List Bool):Nat:=m.count false
theorem unmet_set {m:List Bool} {n:Nat} (h:n<m.length) (hf:m[n]=false):unmet (m.set n true)+1=unmet m:=by
 unfold unmet
 induction m generalizing n with
 | nil=>simp at h
 | cons b m ih =>
  cases n with
  | zero=>simp at hf; subst hf; simp
  | succ n =>
   simp at h hf;have:=ih h hf;simp only [List.set_cons_succ,List.count_cons];omega
theorem jac {g:List (List Nat)} {f:Nat} (ih : ∀ n (s:WS),n<g.length→s.1.length=g.length→s.1.getD n false=false→unmet s.1≤f → ∃ t,walk g f n s=some t∧t.2.length+unmet t.1=s.2.length+unmet s.1∧t.1.length=g.length∧unmet t.1≤unmet s.1) :
  ∀ (l:List Nat) (s:WS),(∀ k∈l,k<g.length)→s.1.length=g.length→unmet s.1≤f → ∃ t,kids g f l s=some t∧t.2.length+unmet t.1=s.2.length+unmet s.1∧t.1.length=g.length∧unmet t.1≤unmet s.1
 | [],s,_,hs,_=>⟨s,rfl,rfl,hs,Nat.le_refl _⟩
 | k::l,s,hl,hs,hu=>by
  rw [kids_cons]
  cases hm:s.1.getD k false with
  | true=>simpa using jac ih l s (fun k hk=>hl k (List.mem_cons_of_mem _ hk)) hs hu
  | false =>
   obtain ⟨t,h1,h2,h3,h4⟩:=ih k s (hl k List.mem_cons_self) hs hm hu;obtain ⟨u,k1,k2,k3,k4⟩:=jac ih l t (fun k hk=>hl k (List.mem_cons_of_mem _ hk)) h3 (by omega);exact ⟨u,by simp [h1,k1],by omega,k3,by omega⟩
theorem Zq {g:List (List Nat)} (hg:Ok g) : ∀ (f n:Nat) (s:WS),n<g.length→s.1.length=g.length→s.1.getD n false=false→unmet s.1≤f → ∃ t,walk g f n s=some t∧t.2.length+unmet t.1=s.2.length+unmet s.1∧t.1.length=g.length∧unmet t.1≤unmet s.1
 | 0,n,s,hn,hs,hm,hu=>by
  exfalso
  have hn':n<s.1.length:=by omega
  have:s.1[n]=false:=by simpa [hn'] using hm
  have:=unmet_set hn' this;omega
 | f+1,n,s,hn,hs,hm,hu=>by
  have hn':n<s.1.length:=by omega
  have hf:s.1[n]=false:=by simpa [hn'] using hm
  have hc:=unmet_set hn' hf;rw [walk_succ];obtain ⟨t,h1,h2,h3,h4⟩:=jac (Zq hg f) (g.getD n []) (s.1.set n true,s.2) (by
   have:g.getD n []=g[n]:=by simp [hn]
   rw [this]; exact hg.elt _ (List.getElem_mem hn)) (by simpa using hs) (by simp only; omega)
  simp only at h2 h4;exact ⟨(t.1,t.2++[n]),by rw [h1]; rfl,by simp; omega,h3,by simp; omega⟩
theorem unmet_rep (n:Nat):unmet (List.replicate n false)=n:=by simp [unmet,List.count_replicate]
theorem order_ends {g:List (List Nat)} (hg:Ok g) : ∃ t,walk g g.length 0 (List.replicate g.length false,[])=some t∧t.2.length≤g.length∧t.1.length=g.length:=by
 obtain ⟨t,h1,h2,h3,_⟩:=Zq hg g.length 0 (List.replicate g.length false,[]) hg.pos (by simp) (by
  have:=hg.pos;simp [List.getElem?_replicate,Nat.lt_of_lt_of_le Nat.zero_lt_one this]) (by simp [unmet_rep])
 simp only [unmet_rep,List.length_nil] at h2;exact ⟨t,h1,by omega,h3⟩
def Ki (g:List (List Nat)) (f:Nat) (next:List Nat):List Nat→WS→Option WS
 | [],s=>some s
 | n::r,s=>(kids g f ((g.getD n []).drop (next.getD n 0)) s).bind fun t=>Ki g f next r (t.1,t.2++[n])
theorem Yh {g:List (List Nat)} {f:Nat} {next:List Nat} {n k:Nat} : ∀ (r:List Nat) (s:WS),n∉r→Ki g f (next.set n k) r s=Ki g f next r s
 | [],s,_=>rfl
 | m::r,s,h=>by
  simp only [List.mem_cons,not_or] at h;simp only [Ki];have e:(next.set n k).getD m 0=next.getD m 0:=by
   simp [List.getD_eq_getElem?_getD,List.getElem?_set_ne h.1]
  rw [e]
  congr 1
  funext t
  exact Yh r _ h.2
structure At (g:List (List Nat)) (f:Nat) (fin:WS) (met:List Bool) (next stack out:List Nat):Prop where
 lm:met.length=g.length
 ln:next.length=g.length
 nd:stack.Nodup
 lt : ∀ n∈stack,n<g.length
 on : ∀ n∈stack,met.getD n false=true
 le : ∀ n,next.getD n 0≤(g.getD n []).length
 zero : ∀ n,met.getD n false=false→next.getD n 0=0
 go:Ki g f next stack.reverse (met,out)=some fin
theorem At.start {g:List (List Nat)} (hg:Ok g) {f:Nat} {fin:WS} (h:walk g (f+1) 0 (List.replicate g.length false,[])=some fin) :
  At g f fin ((List.replicate g.length false).set 0 true) (List.replicate g.length 0) [0] []:=by
 have hp:=hg.pos;refine ⟨by simp,by simp,by simp,by simp; omega,by
  intro n hn;simp at hn; subst hn;have:0<(List.replicate g.length false).length:=by rw [List.length_replicate]; omega
  simp only [List.getD_eq_getElem?_getD,List.getElem?_set_self this,Option.getD_some],fun n => ?_,fun n _ => ?_, ?_⟩
 ·simp [List.getElem?_replicate]; split<;>simp
 ·simp [List.getElem?_replicate]; split<;>simp
 ·rw [walk_succ] at h;obtain ⟨t,h1,h2⟩:=Option.map_eq_some_iff.1 h;have e:(List.replicate g.length 0).getD 0 0=0:=by simp [List.getElem?_replicate]; split<;>simp
  simp only [List.reverse_cons,List.reverse_nil,List.nil_append,Ki,e,List.drop_zero];rw [h1];simp [←h2]
section
variable {g:List (List Nat)} {f:Nat} {fin:WS} {met:List Bool} {next stack out:List Nat} {n:Nat}
theorem getD_set_self' {α:Type} {l:List α} {i:Nat} {a d:α} (h:i<l.length):(l.set i a).getD i d=a:=by simp [h]
theorem getD_set_other {α:Type} {l:List α} {i j:Nat} {a d:α} (h:i≠j):(l.set i a).getD j d=l.getD j d:=by
 simp [List.getElem?_set_ne h]
theorem At.seen (h:At g f fin met next (stack++[n]) out) (hk:next.getD n 0<(g.getD n []).length) (hm:met.getD ((g.getD n [])[next.getD n 0]) false=true):At g f fin met (next.set n (next.getD n 0+1)) (stack++[n]) out:=by
 have hn:n<g.length:=h.lt n (by simp);have hnn:n<next.length:=by rw [h.ln]; exact hn
 have hnot:n∉stack.reverse:=by
  have:=h.nd;rw [List.nodup_append] at this;intro hc;exact this.2.2 n (by simpa using hc) n (by simp) rfl
 refine ⟨h.lm,by simpa using h.ln,h.nd,h.lt,h.on,fun m => ?_,fun m hmm => ?_, ?_⟩
 ·by_cases e:n=m
  ·subst e; rw [getD_set_self' hnn]; omega
  ·rw [getD_set_other e]; exact h.le m
 ·by_cases e:n=m
  ·subst e; have:=h.on n (by simp); rw [hmm] at this; cases this
  ·rw [getD_set_other e]; exact h.zero m hmm
 ·have hgo:=h.go;rw [List.reverse_append] at hgo ⊢;simp only [List.reverse_cons,List.reverse_nil,List.nil_append,List.singleton_append,Ki] at hgo ⊢;rw [getD_set_self' hnn];rw [List.drop_eq_getElem_cons hk,kids_cons,if_pos (by exact hm)] at hgo;rw [←hgo]
  congr 1
  funext t
  exact Yh _ _ hnot
theorem At.push (h:At g f fin met next (stack++[n]) out) (hg:Ok g) (hk:next.getD n 0<(g.getD n []).length) {c:Nat} (hc:(g.getD n [])[next.getD n 0]=c) (hm:met.getD c false=false):At g f fin (met.set c true) (next.set n (next.getD n 0+1)) (stack++[n]++[c]) out:=by
 have hn:n<g.length:=h.lt n (by simp);have hnn:n<next.length:=by rw [h.ln]; exact hn
 have hcl:c<g.length:=by
  have e:g.getD n []=g[n]:=by simp [hn]
  rw [←hc];have:=hg.elt (g.getD n []) (by rw [e]; exact List.getElem_mem hn) _ (List.getElem_mem hk);exact this
 have hcm:c<met.length:=by rw [h.lm]; exact hcl
 have hcn:c∉stack++[n]:=fun hin=>by have:=h.on c hin; rw [hm] at this; cases this
 have hne:n≠c:=fun e=>hcn (by rw [←e]; simp)
 have hnot:n∉stack.reverse:=by
  have:=h.nd;rw [List.nodup_append] at this;intro hc;exact this.2.2 n (by simpa using hc) n (by simp) rfl
 refine ⟨by simpa using h.lm,by simpa using h.ln, ?_, ?_, ?_,fun m => ?_,fun m hmm => ?_, ?_⟩
 ·rw [List.nodup_append];exact ⟨h.nd,by simp,fun a ha b hb=>by simp at hb; subst hb; intro e; subst e; exact hcn ha⟩
 ·intro m hmm;rcases List.mem_append.1 hmm with hm1 | hm1
  ·exact h.lt m hm1
  ·simp at hm1; subst hm1; exact hcl
 ·intro m hmm
  by_cases e:c=m
  ·subst e; exact getD_set_self' hcm
  ·rw [getD_set_other e];rcases List.mem_append.1 hmm with hm1 | hm1
   ·exact h.on m hm1
   ·simp at hm1; exact absurd hm1.symm e
 ·by_cases e:n=m
  ·subst e; rw [getD_set_self' hnn]; omega
  ·rw [getD_set_other e]; exact h.le m
 ·have hmc:m≠c:=by
   intro e; subst e;rw [getD_set_self' hcm] at hmm; cases hmm
  rw [getD_set_other (Ne.symm hmc)] at hmm
  by_cases e:n=m
  ·subst e; have:=h.on n (by simp); rw [hmm] at this; cases this
  ·rw [getD_set_other e]; exact h.zero m hmm
 ·have hgo:=h.go;rw [List.reverse_append] at hgo ⊢;rw [List.reverse_append];simp only [List.reverse_cons,List.reverse_nil,List.nil_append,List.singleton_append,Ki,List.cons_append] at hgo ⊢;rw [getD_set_self' hnn,getD_set_other hne,h.zero c hm,List.drop_zero];rw [List.drop_eq_getElem_cons hk,kids_cons,hc,if_neg (by simpa using hm)] at hgo;obtain ⟨t,h1,h2⟩:=Option.bind_eq_some_iff.1 hgo;obtain ⟨u,h3,h4⟩:=Option.bind_eq_some_iff.1 h1
  cases f with
  | zero=>cases h3
  | succ f =>
   rw [walk_succ] at h3;obtain ⟨v,h5,h6⟩:=Option.map_eq_some_iff.1 h3;simp only at h5;rw [kids_mono' h5];subst h6;simp only [Option.bind_some];rw [h4];simp only [Option.bind_some];rw [Yh _ _ hnot];exact h2
theorem At.pop (h:At g f fin met next (stack++[n]) out) (hk : ¬ next.getD n 0<(g.getD n []).length):At g f fin met next stack (out++[n]):=by
 refine ⟨h.lm,h.ln,(List.nodup_append.1 h.nd).1,fun m hm=>h.lt m (by simp [hm]),fun m hm=>h.on m (by simp [hm]),h.le,h.zero, ?_⟩;have hgo:=h.go;rw [List.reverse_append] at hgo;simp only [List.reverse_cons,List.reverse_nil,List.nil_append,List.singleton_append,Ki] at hgo;rw [List.drop_eq_nil_of_le (by omega),kids_nil] at hgo;exact hgo
theorem At.done (h:At g f fin met next [] out):fin=(met,out):=by
 have:=h.go;simp only [List.reverse_nil,Ki,Option.some.injEq] at this;exact this.symm
theorem At.seen' (h:At g f fin met next (stack++[n]) out) {row:List Nat} {k c:Nat} (hrow:g[n]? = some row) (hk:next[n]? = some k) (hc:row[k]? = some c) (hm:met[c]? = some true):At g f fin met (next.set n (k+1)) (stack++[n]) out:=by
 have ek:next.getD n 0=k:=by simp [List.getD_eq_getElem?_getD,hk]
 have er:g.getD n []=row:=by simp [List.getD_eq_getElem?_getD,hrow]
 have hlt:=(List.getElem?_eq_some_iff.1 hc)
 have:=h.seen;subst ek; subst er;exact this hlt.1 (by rw [hlt.2]; simp [hm])
theorem At.push' (h:At g f fin met next (stack++[n]) out) (hg:Ok g) {row:List Nat} {k c:Nat} (hrow:g[n]? = some row) (hk:next[n]? = some k) (hc:row[k]? = some c) (hm:met[c]? = some false):At g f fin (met.set c true) (next.set n (k+1)) (stack++[n]++[c]) out:=by
 have ek:next.getD n 0=k:=by simp [List.getD_eq_getElem?_getD,hk]
 have er:g.getD n []=row:=by simp [List.getD_eq_getElem?_getD,hrow]
 have hlt:=(List.getElem?_eq_some_iff.1 hc)
 subst ek; subst er;exact h.push hg hlt.1 hlt.2 (by simp [hm])
theorem At.pop' (h:At g f fin met next (stack++[n]) out) {row:List Nat} {k:Nat} (hrow:g[n]? = some row) (hk:next[n]? = some k) (hge : ¬ k<row.length):At g f fin met next stack (out++[n]):=by
 have ek:next.getD n 0=k:=by simp [List.getD_eq_getElem?_getD,hk]
 have er:g.getD n []=row:=by simp [List.getD_eq_getElem?_getD,hrow]
 exact h.pop (by rw [ek,er]; exact hge)
theorem jaY : ∀ (r:List Nat) (s t:WS),Ki g f next r s=some t→s.2.length+r.length≤t.2.length
 | [],s,t,h=>by cases h; simp
 | m::r,s,t,h=>by
  simp only [Ki] at h;obtain ⟨u,h1,h2⟩:=Option.bind_eq_some_iff.1 h;have a:=(kids_len (walk_len g f) _ _ _ h1).1;have b:=jaY r _ _ h2;simp at b ⊢;omega
theorem At.out_le (h:At g f fin met next stack out):out.length+stack.length≤fin.2.length:=by
 have:=jaY _ _ _ h.go;simpa using this
end
def Jg (g:List (List Nat)) (m:List Bool):List Bool:=((walk g g.length 0 (m,[])).getD (m,[])).1
def without (g:List (List Nat)):Option Nat→List Bool
 | none=>Jg g (List.replicate g.length false)
 | some a=>if a=0 then List.replicate g.length false else (Jg g ((List.replicate g.length false).set a true)).set a false
theorem metFrom_ends {g:List (List Nat)} (hg:Ok g) {m:List Bool} (hm:m.length=g.length) (h0:m.getD 0 false=false) : ∃ t,walk g g.length 0 (m,[])=some t∧Jg g m=t.1∧t.2.length≤g.length∧t.1.length=g.length:=by
 have hu:unmet m≤g.length:=by rw [←hm]; exact List.count_le_length
 obtain ⟨t,h1,h2,h3,_⟩:=Zq hg g.length 0 (m,[]) hg.pos hm h0 hu;exact ⟨t,h1,by simp [Jg,h1],by simp at h2; omega,h3⟩
theorem JM {g:List (List Nat)} (hg:Ok g) {m:List Bool} (hm:m.length=g.length) (h0:m.getD 0 false=false):(Jg g m).length=g.length:=by
 obtain ⟨t,h1,h2,h3,h4⟩:=metFrom_ends hg hm h0;rw [h2]; exact h4
theorem rep_getD (n k:Nat):(List.replicate n false).getD k false=false:=by
 simp [List.getElem?_replicate]; split<;>rfl
theorem without_length {g:List (List Nat)} (hg:Ok g) (a:Option Nat):(without g a).length=g.length:=by
 cases a with
 | none=>exact JM hg (by simp) (rep_getD _ _)
 | some a =>
  simp only [without];split
  ·simp
  ·rename_i h;rw [List.length_set];exact JM hg (by simp) (by rw [getD_set_other h]; exact rep_getD _ _)
def order (g:List (List Nat)):List Nat:=((walk g g.length 0 (List.replicate g.length false,[])).getD ([],[])).2.reverse
def tableRow (g:List (List Nat)) (a:Nat):List Bool :=
 if (without g none).getD a false then (List.range g.length).map fun b=>(without g none).getD b false && !((without g (some a)).getD b false) else List.replicate g.length false
def table (g:List (List Nat)):List (List Bool):=(List.range g.length).map (tableRow g)
def tabAt (t:List (List Bool)) (a b:Nat):Bool:=(t.getD a []).getD b false
def cntTo (t:List (List Bool)) (a:Nat):Nat→Nat
 | 0=>0
 | c+1=>if tabAt t c a then cntTo t a c+1 else cntTo t a c
def bestTo (t:List (List Bool)) (n b:Nat):Nat→Int × Nat
 | 0=>(-1,0)
 | a+1=>if a≠b∧tabAt t a b=true∧(bestTo t n b a).2<cntTo t a n then ((a:Int),cntTo t a n) else bestTo t n b a
def rNear (g:List (List Nat)):List Int:=(List.range g.length).map fun b=>(bestTo (table g) g.length b g.length).1
theorem cntTo_le (t:List (List Bool)) (a:Nat) : ∀ c,cntTo t a c≤c
 | 0=>Nat.le_refl _
 | c+1=>by have:=cntTo_le t a c; simp only [cntTo]; split<;>omega
theorem tableRow_length (g:List (List Nat)) (a:Nat):(tableRow g a).length=g.length:=by simp only [tableRow]; split<;>simp
end Go.Vw.G

namespace Go.Vw
open Go.Proofs Go.RowKit
set_option maxRecDepth 10000
set_option maxHeartbeats 4000000
theorem u64_bits:IntKind.u64.bits=64:=nr rfl
theorem mask_small {n:Nat} (h:n<4294967296):n % 18446744073709551616 &&& 4294967295=n:=by
 have e:n % 18446744073709551616=n:=by omega
 rw [e];have:=Nat.and_two_pow_sub_one_eq_mod n 32;rw [show (4294967295:Nat)=2^32-1 from rfl,this];exact Nat.mod_eq_of_lt h
theorem u64_wrap {n:Nat} (h:n<4294967296):IntKind.u64.wrap (n:Int)=n:=by
 have e:IntKind.u64.wrap (n:Int)=(n:Int) % 18446744073709551616:=rfl;rw [e]; omega
theorem shr_small {n:Nat} (h:n<4294967296):Int.fdiv (n:Int) 4294967296=0:=by
 rw [Int.fdiv_eq_ediv_of_nonneg _ (by omega)]; omega
theorem Mul64_v (n:Nat) (h:n<4294967296):VPure Tryz.prog 148 [.int .u64 1, .int .u64 (n:Int)] (.tuple [.int .u64 0, .int .u64 (n:Int)]):=by
 intro S;refine jb (c:=jg Tryz.f148) Tryz.func148 rfl rfl (by simp [Tryz.ntmps148]) ?_;rw [Tryz.ntmps148];intro hwf;have h1:=mask_small h;have h2:=u64_wrap h;have h3:=shr_small h;have h4:IntKind.u64.wrap 0=0:=by decide
 have h5:IntKind.u64.wrap 1=1:=by decide
 have h6:Int.fdiv 1 4294967296=0:=by decide
 have h7:Int.fdiv 0 4294967296=0:=by decide
 repeat first|refine QG ?_|refine QY ?_ (r:=by conv=>lhs;simp[-List.map_set,QV,u64_bits,h1,h2,h3,h4,h5,h6,h7])
 exact ja (l:=[]) hwf (by simp [resV,Fr.look]) rfl
theorem Mul_v (n:Nat) (h:n<4294967296):VPure Tryz.prog 138 [.int .u64 1, .int .u64 (n:Int)] (.tuple [.int .u64 0, .int .u64 (n:Int)]):=by
 intro S;refine jb (c:=jg Tryz.f138) Tryz.func138 rfl rfl (by simp [Tryz.ntmps138]) ?_;rw [Tryz.ntmps138];intro hwf
 repeat first|refine QG ?_|refine QY ?_
 repeat refine QS ?_
 refine QP ?_;refine jp rfl (Mul64_v n h) ?_;refine QW ?_
 repeat first|refine QG ?_|refine QY ?_
 exact ja (l:=[]) hwf (by simp [resV,Fr.look]) rfl
def zQ (v:Int) (n m:Nat):List V:=List.replicate m (.int .i64 v)++List.replicate (n-m) (.int .i64 0)
theorem rcells_len {v:Int} {n m:Nat} (h:m≤n):(zQ v n m).length=n:=by simp [zQ]; omega
theorem rcells_step {v:Int} {n m:Nat} (h:m≤n):jB (zQ v n m) m ((((zQ v n m).drop 0).take (m*1)).take (min m (n-m)*1))=zQ v n (m+min m (n-m)):=by
 have e1:(((zQ v n m).drop 0).take (m*1)).take (min m (n-m)*1)=List.replicate (min m (n-m)) (V.int .i64 v):=by
  rw [List.drop_zero,Nat.mul_one,Nat.mul_one,zQ,List.take_left' (by simp)];rw [List.take_replicate]; congr 1; omega
 rw [e1,jB,List.length_replicate,zQ,List.take_left' (by simp)];rw [List.drop_append,List.drop_eq_nil_of_le (by simp),List.length_replicate];simp only [List.nil_append,List.drop_replicate,zQ];rw [List.replicate_append_replicate]
 congr 2; omega
theorem Repeat_v (S:Store) (o:Nat) (v:Int) (n:Nat) (hn:1≤n) (hn2:n≤65536) (ho:S.get o=some (1,[.int .i64 v])) :
  VCalls Tryz.prog 111 [.slice o 0 1,vnat n] S (fun r S'=>r = .slice S.nx 0 n∧S'=S.add (1,List.replicate n (.int .i64 v))):=by
 refine jb (c:=jg Tryz.f111) Tryz.func111 rfl rfl (by simp [Tryz.ntmps111]) ?_;rw [Tryz.ntmps111];intro hwf;have hon:o<S.nx:=by
  rcases Nat.lt_or_ge o S.nx with h | h
  ·exact h
  ·rw [hwf.gone o h] at ho; cases ho
 have hold:=fun u l => @jx S u l o hon
 have h2:=u64_wrap (n:=n) (by omega);have h5:IntKind.u64.wrap 1=1:=by decide
 have h6 : ¬ (9223372036854775807:Int)<(n:Int):=by omega
 have hw:IntKind.i64.wrap (n:Int)=n:=wrap_i64 (by omega) (by omega);have hb8:n*8≤140737488355328:=by omega
 have hb0:n≤140737488355328:=by omega
 have hmin:min 1 n=1:=by omega
 repeat first|refine QG ?_|refine QY ?_ (r:=by conv=>lhs;simp[-List.map_set,QV,hold,ho,h2,h5])
 repeat refine QS ?_
 refine QP ?_ (r:=by conv=>lhs;simp[-List.map_set,QV,hold,ho,h2,h5]);refine jp rfl (Mul_v n (by omega)) ?_;refine QW ?_
 repeat first|refine QG ?_|refine QY ?_ (r:=by conv=>lhs;simp[-List.map_set,QV,h6,hw,hb8,hb0,hold,ho,hmin,ZS,qr])
 repeat refine QS ?_
 refine je [7,8] rfl (fun c σ S' => ∃ m:Nat,1≤m∧m≤n∧c=n-m∧σ=[(7, .slice (lid S.nx 0) 0 n),(8,vnat m)]∧S'=St S [] [some (1,zQ v n m)]) (n-1) ?_ ?_
 ·refine ⟨1,by omega,hn,rfl,by simp [Fr.only,Fr.look,vnat], ?_⟩;have e:n=(n-1)+1:=by omega
  rw [zQ];simp [List.drop_replicate]
 ·rintro c σ T ⟨m,hm1,hm2,rfl,rfl,rfl⟩;have hlen:=rcells_len (v:=v) hm2
  by_cases hlt:m<n
  ·have hml:m≤n:=by omega
   have hcp:ZS 1 (St S [] [some (1,zQ v n m)]) (.slice (lid S.nx 0) m (n-m)) (.slice (lid S.nx 0) 0 m)=some (.int .i64 (min m (n-m):Nat),St S [] [some (1,zQ v n (m+min m (n-m)))]):=by
    have e1:qr 1 (St S [] [some (1,zQ v n m)]) (.slice (lid S.nx 0) 0 m)=some (((zQ v n m).drop 0).take (m*1),m):=by
     simp only [qr,jT,List.getElem?_cons_zero,Option.join_some];rw [if_pos (by omega)]
    simp only [ZS,e1,jT,List.getElem?_cons_zero,Option.join_some];rw [if_pos (by omega),rcells_step hm2,JT (by simp)]
    rfl
   have hw2:IntKind.i64.wrap ((m:Int)+(min m (n-m):Nat))=((m+min m (n-m):Nat):Int):=by
    rw [wrap_i64 (by omega) (by omega)]; omega
   repeat first|refine QG ?_|refine QY ?_ (r:=by conv=>lhs;simp[-List.map_set,QV,hlt])
   repeat refine QS ?_
   refine jP (St S [] [none]) (St S [] [some (1,zQ v n m)]) [] rfl (by kernel_rfl) (by conv=>lhs; reduce) (by conv=>lhs; reduce) (by kernel_rfl) (by kernel_rfl) (jm (by simp [subU,shpU,subL,shpL])) (by conv=>lhs; simp [-List.map_set,QV,hml]) ?_;refine jf rfl (by conv=>lhs;simp[-List.map_set,QV,hcp]) (jm (by simp [subU,shpU,subL,shpL])) ?_;refine QW ?_;show jz _ _ _ _ _ _ _;exact again ⟨(by omega:n-(m+min m (n-m))<n-m),m+min m (n-m),by omega,by omega,rfl,by rw [hw2]; simp [Fr.only,Fr.look,vnat],rfl⟩
  ·have hmn:m=n:=by omega
   subst hmn
   repeat first|refine QG ?_|refine QY ?_ (r:=by conv=>lhs;simp[-List.map_set,QV,hlt])
   refine ⟨.slice S.nx 0 m,_, ?_,rfl,rfl⟩;have e:St S [] [some (1,zQ v m m)]=S.add (1,List.replicate m (.int .i64 v)):=by
    have := @jaB S [] [] (1,List.replicate m (.int .i64 v));rw [qQ hwf] at this;rw [this]; simp [zQ]
   rw [←e];have:lid S.nx 0=S.nx:=rfl;rw [←this];exact GhostB.refl _ _ _
end Go.Vw
