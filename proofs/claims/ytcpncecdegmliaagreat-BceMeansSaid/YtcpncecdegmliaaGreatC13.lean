import Derived.Test.YtcpncecdegmliaaGreatC12
import Derived.Test.YtcpncecdegmliaaGreatProg
import Derived.OpenShut
/- Part of the proof. -/
set_option linter.unusedVariables false
set_option linter.unusedSimpArgs false
set_option maxRecDepth 100000
set_option maxHeartbeats 4000000
namespace Go.Vw
open Go.Proofs Go.RowKit Go.ChangeShapes Go.WideShapes
theorem Wv {l b:Nat} (hb:1≤b) (h:l*b≤140737488351232):l≤140737488355328:=by
 have:l*1≤l*b:=Nat.mul_le_mul_left _ hb;omega
theorem i64_of {n:Int} (h:(Lit.int .i64 n).wf=true):Ss.I64 n:=bounds_i64 h
theorem jbU:ReadsC Tryz.prog 3 (fun n:Int=>[vint n]) Ss.I64 :=
 (ReadsC.int Tryz.underlying3).map id (fun _=>rfl) (fun n h=>i64_of h)
theorem rdU64:ReadsC Tryz.prog 63 (fun n:Int=>[vu n]) (fun n=>0≤n∧n<18446744073709551616) :=
 (ReadsC.int Tryz.underlying63).map id (fun _=>rfl) (fun n h=>by have h1:=bounds_u64 h; simp only [id]; omega)
theorem rdBool:ReadsC Tryz.prog 4 (fun b:Bool=>[.bool b]) (fun _=>True):=ReadsC.bool Tryz.underlying4
theorem Wh:ReadsC Tryz.prog 23 (fun l:List Int=>[vl vint l]) Ss.Ints :=
 (ReadsC.slice vint Tryz.underlying23 jbU (of_decide_eq_true (by kernel_rfl)) (fun _ => .inr rfl)).map id (fun _=>rfl) (fun l h=>⟨Wv (of_decide_eq_true (by kernel_rfl)) h.1.2,h.2⟩)
theorem rdBools:ReadsC Tryz.prog 24 (fun l:List Bool=>[vl V.bool l]) (fun l=>l.length≤140737488355328) :=
 (ReadsC.slice V.bool Tryz.underlying24 rdBool (of_decide_eq_true (by kernel_rfl)) (fun _ => .inr rfl)).map id (fun _=>rfl) (fun l h=>Wv (of_decide_eq_true (by kernel_rfl)) h.1.2)
theorem rdSig:ReadsC Tryz.prog 28 (fun s:Ss.Sig=>[vl vint s.inn,vl vint s.out]) Ss.Sig.Fits :=
 (ReadsC.struct Tryz.underlying28 (by kernel_rfl) (ReadsF.cons (by kernel_rfl) Wh (ReadsF.cons (by kernel_rfl) Wh ReadsF.nil))).map (fun p=>(⟨p.1,p.2.1⟩:Ss.Sig)) (fun _=>rfl) (fun p h=>⟨h.1,h.2.1⟩)
theorem rdSigs:ReadsC Tryz.prog 22 (fun l:List Ss.Sig=>[vl jl l]) (fun l=>l.length≤140737488355328 ∧ ∀ s∈l,s.Fits) :=
 (ReadsC.slice jl Tryz.underlying22 rdSig (of_decide_eq_true (by kernel_rfl)) (fun _ => .inl rfl)).map id (fun _=>rfl) (fun l h=>⟨Wv (of_decide_eq_true (by kernel_rfl)) h.1.2,h.2⟩)
theorem rdIns:ReadsC Tryz.prog 65 (fun x:Ss.Ins=>[vint x.op,vu x.n,vl vint x.args,vl vint x.outs]) Ss.Ins.Fits :=
 (ReadsC.struct Tryz.underlying65 (by kernel_rfl) (ReadsF.cons (by kernel_rfl) jbU (ReadsF.cons (by kernel_rfl) rdU64 (ReadsF.cons (by kernel_rfl) Wh (ReadsF.cons (by kernel_rfl) Wh ReadsF.nil))))).map (fun p=>(⟨p.1,p.2.1,p.2.2.1,p.2.2.2.1⟩:Ss.Ins)) (fun _=>rfl) (fun p h=>⟨h.1,h.2.1,h.2.2.1,h.2.2.2.1⟩)
theorem rdInss:ReadsC Tryz.prog 57 (fun l:List Ss.Ins=>[vl jp l]) (fun l=>l.length≤140737488355328 ∧ ∀ s∈l,s.Fits) :=
 (ReadsC.slice jp Tryz.underlying57 rdIns (of_decide_eq_true (by kernel_rfl)) (fun _ => .inl rfl)).map id (fun _=>rfl) (fun l h=>⟨Wv (of_decide_eq_true (by kernel_rfl)) h.1.2,h.2⟩)
theorem rdEdge:ReadsC Tryz.prog 67 (fun x:Ss.Edge=>[vint x.to,vl vint x.args]) Ss.Edge.Fits :=
 (ReadsC.struct Tryz.underlying67 (by kernel_rfl) (ReadsF.cons (by kernel_rfl) jbU (ReadsF.cons (by kernel_rfl) Wh ReadsF.nil))).map (fun p=>(⟨p.1,p.2.1⟩:Ss.Edge)) (fun _=>rfl) (fun p h=>⟨h.1,h.2.1⟩)
theorem rdEdges:ReadsC Tryz.prog 58 (fun l:List Ss.Edge=>[vl ji l]) (fun l=>l.length≤140737488355328 ∧ ∀ s∈l,s.Fits) :=
 (ReadsC.slice ji Tryz.underlying58 rdEdge (of_decide_eq_true (by kernel_rfl)) (fun _ => .inl rfl)).map id (fun _=>rfl) (fun l h=>⟨Wv (of_decide_eq_true (by kernel_rfl)) h.1.2,h.2⟩)
theorem rdTerm:ReadsC Tryz.prog 60 (fun t:Ss.Term=>[vint t.kind,vint t.arg,vl ji t.to,vl vint t.args]) Ss.Term.Fits :=
 (ReadsC.struct Tryz.underlying60 (by kernel_rfl) (ReadsF.cons (by kernel_rfl) jbU (ReadsF.cons (by kernel_rfl) jbU (ReadsF.cons (by kernel_rfl) rdEdges (ReadsF.cons (by kernel_rfl) Wh ReadsF.nil))))).map (fun p=>(⟨p.1,p.2.1,p.2.2.1,p.2.2.2.1⟩:Ss.Term)) (fun _=>rfl) (fun p h=>⟨h.1,h.2.1,h.2.2.1,h.2.2.2.1⟩)
theorem rdBlock:ReadsC Tryz.prog 62 (fun b:Ss.Block=>[vl vint b.params,vl jp b.code,vint b.term.kind,vint b.term.arg,vl ji b.term.to,vl vint b.term.args]) Ss.Block.Fits :=
 (ReadsC.struct Tryz.underlying62 (by kernel_rfl) (ReadsF.cons (by kernel_rfl) Wh (ReadsF.cons (by kernel_rfl) rdInss (ReadsF.cons (by kernel_rfl) rdTerm ReadsF.nil)))).map (fun p=>(⟨p.1,p.2.1,p.2.2.1⟩:Ss.Block)) (fun _=>rfl) (fun p h=>⟨h.1,h.2.1,h.2.2.1⟩)
theorem rdBlocks:ReadsC Tryz.prog 29 (fun l:List Ss.Block=>[vl je l]) (fun l=>l.length≤140737488355328 ∧ ∀ s∈l,s.Fits) :=
 (ReadsC.slice je Tryz.underlying29 rdBlock (of_decide_eq_true (by kernel_rfl)) (fun _ => .inl rfl)).map id (fun _=>rfl) (fun l h=>⟨Wv (of_decide_eq_true (by kernel_rfl)) h.1.2,h.2⟩)
theorem rdFn:ReadsC Tryz.prog 31 (fun f:Ss.Fn=>[vl vint f.sig.inn,vl vint f.sig.out,vl vint f.types,vl je f.blocks]) Ss.Fn.Fits :=
 (ReadsC.struct Tryz.underlying31 (by kernel_rfl) (ReadsF.cons (by kernel_rfl) rdSig (ReadsF.cons (by kernel_rfl) Wh (ReadsF.cons (by kernel_rfl) rdBlocks ReadsF.nil)))).map (fun p=>(⟨p.1,p.2.1,p.2.2.1⟩:Ss.Fn)) (fun _=>rfl) (fun p h=>⟨h.1,h.2.1,h.2.2.1⟩)
theorem rdEnv:ReadsC Tryz.prog 26 (fun e:Ss.Env=>[vl jl e.sigs,vint e.imports,vl vint e.globals,vl V.bool e.muts, .bool e.mem]) Ss.Env.Fits :=
 (ReadsC.struct Tryz.underlying26 (by kernel_rfl) (ReadsF.cons (by kernel_rfl) rdSigs (ReadsF.cons (by kernel_rfl) jbU (ReadsF.cons (by kernel_rfl) Wh (ReadsF.cons (by kernel_rfl) rdBools (ReadsF.cons (by kernel_rfl) rdBool ReadsF.nil)))))).map (fun p=>(⟨p.1,p.2.1,p.2.2.1,p.2.2.2.1,p.2.2.2.2.1⟩:Ss.Env)) (fun _=>rfl) (fun p h=>⟨h.1,h.2.1,h.2.2.1,h.2.2.2.1⟩)
end Go.Vw
namespace Go.Vw
open Go.Proofs Go.RowKit
attribute [-simp] List.map_set
def qX {α:Type} (p:α→Bool):List α→Nat→Int
 | [],_ => -1
 | x::xs,k=>if p x then (k:Int) else qX p xs (k+1)
theorem Jx {α:Type} (p:α→Bool) : ∀ (l:List α) (k:Nat),decide (0≤qX p l k)=l.any p
 | [],k=>by simp [qX]
 | x::xs,k=>by
   cases h:p x
   ·simp [qX,h,Jx p xs (k+1)]
   ·simp [qX,h]
def eqF {α:Type} (p:α→α→Bool):List α→List α→Bool
 | [],[]=>true
 | x::xs,y::ys=>p x y&&eqF p xs ys
 | _,_=>false
theorem eqF_len {α:Type} {p:α→α→Bool} : ∀ {l m:List α}, ¬ l.length=m.length→eqF p l m=false
 | [],[],h=>absurd rfl h
 | [],_::_,_=>rfl
 | _::_,[],_=>rfl
 | x::xs,y::ys,h=>by rw [eqF,eqF_len (l:=xs) (m:=ys) (by simpa using h)]; simp
theorem eqF_eq {α:Type} [DecidableEq α] {p:α→α→Bool} (hp : ∀ x y,p x y=decide (x=y)) : ∀ (l m:List α),eqF p l m=decide (l=m)
 | [],[]=>by simp [eqF]
 | [],_::_=>by simp [eqF]
 | _::_,[]=>by simp [eqF]
 | x::xs,y::ys=>by rw [eqF,hp,eqF_eq hp xs ys]; simp
theorem IndexL_v (l:List (List Int)) (p:List Int→Bool) (fid:FuncId) (caps:List V) (hc:jQ Tryz.prog fid=true) (hl:l.length<2^63) (h : ∀ x∈l,VPure Tryz.prog fid ([vl vint x]++caps) (.bool (p x))) :
  VPure Tryz.prog 122 [vl (vl vint) l, .func fid caps] (vint (qX p l 0)):=by
 intro S;refine QB (c:=jc Tryz.f122) Tryz.func122 Tryz.ntmps122 fun hwf=>?_
 repeat first|refine QG ?_|refine QY ?_
 refine QT ?_;refine jd [0,1,7,8] rfl (fun c σ S' => ∃ (k:Nat),k≤l.length∧c=l.length-k∧qX p (l.drop k) k=qX p l 0∧σ=[(0,vl (vl vint) l),(1, .func fid caps),(7,vnat l.length),(8,vnat k)]∧S'=St S [] []) l.length ?_ ?_
 ·exact ⟨0,by omega,rfl,rfl,by simp [Fr.only],rfl⟩
 ·rintro c σ T ⟨k,hk,rfl,hd,rfl,rfl⟩
  by_cases hkt:k<l.length
  ·have hst:qX p (l.drop k) k=if p l[k] then (k:Int) else qX p (l.drop (k+1)) (k+1):=by rw [List.drop_eq_getElem_cons hkt,qX]
   have hw:=jh hkt hl
   repeat first|refine QG ?_|refine QY ?_ (r:=by conv=>lhs;simp[QV,hkt])
   refine QT ?_;refine QP ?_ (r:=by conv=>lhs;simp[QV,hkt]);refine qQ rfl hc rfl (h _ (List.getElem_mem hkt)) ?_;refine QW ?_
   cases hp:p l[k] with
   | true =>
    rw [hp] at hst
    repeat first|refine QG ?_|refine QY ?_ (r:=by conv=>lhs;simp[QV,hp])
    exact ja hwf (by rw [←hd,hst]; rfl) rfl
   | false =>
    rw [hp] at hst
    repeat first|refine QG ?_|refine QY ?_ (r:=by conv=>lhs;simp[QV,hp])
    show jy _ _ _ _ _ _ _;exact again ⟨Nat.sub_lt_sub_left hkt (Nat.lt_succ_self k),k+1,hkt,rfl,by rw [←hd,hst]; rfl,by simp [Fr.only,hw],rfl⟩
  ·have e:l.drop k=[]:=by rw [List.drop_eq_nil_iff]; omega
   rw [e] at hd
   repeat first|refine QG ?_|refine QY ?_ (r:=by conv=>lhs;simp[QV,hkt])
   exact ja hwf (by rw [←hd]; rfl) rfl
theorem AnyL_v (l:List (List Int)) (p:List Int→Bool) (fid:FuncId) (caps:List V) (hc:jQ Tryz.prog fid=true) (hl:l.length<2^63) (h : ∀ x∈l,VPure Tryz.prog fid ([vl vint x]++caps) (.bool (p x))) :
  VPure Tryz.prog 104 [vl (vl vint) l, .func fid caps] (.bool (l.any p)):=by
 intro S;refine QB (c:=jc Tryz.f104) Tryz.func104 Tryz.ntmps104 fun hwf=>?_
 rw [←Jx p l 0]
 repeat first|refine QG ?_|refine QY ?_
 refine QT ?_;refine QP ?_;refine jb rfl (IndexL_v l p fid caps hc hl h) ?_;refine QW ?_
 repeat first|refine QG ?_|refine QY ?_
 exact ja hwf rfl rfl
theorem IndexI_v (l:List (Int)) (p:Int→Bool) (fid:FuncId) (caps:List V) (hc:jQ Tryz.prog fid=true) (hl:l.length<2^63) (h : ∀ x∈l,VPure Tryz.prog fid ([vint x]++caps) (.bool (p x))) :
  VPure Tryz.prog 106 [vl (vint) l, .func fid caps] (vint (qX p l 0)):=by
 intro S;refine QB (c:=jc Tryz.f106) Tryz.func106 Tryz.ntmps106 fun hwf=>?_
 repeat first|refine QG ?_|refine QY ?_
 refine QT ?_;refine jd [0,1,7,8] rfl (fun c σ S' => ∃ (k:Nat),k≤l.length∧c=l.length-k∧qX p (l.drop k) k=qX p l 0∧σ=[(0,vl (vint) l),(1, .func fid caps),(7,vnat l.length),(8,vnat k)]∧S'=St S [] []) l.length ?_ ?_
 ·exact ⟨0,by omega,rfl,rfl,by simp [Fr.only],rfl⟩
 ·rintro c σ T ⟨k,hk,rfl,hd,rfl,rfl⟩
  by_cases hkt:k<l.length
  ·have hst:qX p (l.drop k) k=if p l[k] then (k:Int) else qX p (l.drop (k+1)) (k+1):=by rw [List.drop_eq_getElem_cons hkt,qX]
   have hw:=jh hkt hl
   repeat first|refine QG ?_|refine QY ?_ (r:=by conv=>lhs;simp[QV,hkt])
   refine QT ?_;refine QP ?_ (r:=by conv=>lhs;simp[QV,hkt]);refine qQ rfl hc rfl (h _ (List.getElem_mem hkt)) ?_;refine QW ?_
   cases hp:p l[k] with
   | true =>
    rw [hp] at hst
    repeat first|refine QG ?_|refine QY ?_ (r:=by conv=>lhs;simp[QV,hp])
    exact ja hwf (by rw [←hd,hst]; rfl) rfl
   | false =>
    rw [hp] at hst
    repeat first|refine QG ?_|refine QY ?_ (r:=by conv=>lhs;simp[QV,hp])
    show jy _ _ _ _ _ _ _;exact again ⟨Nat.sub_lt_sub_left hkt (Nat.lt_succ_self k),k+1,hkt,rfl,by rw [←hd,hst]; rfl,by simp [Fr.only,hw],rfl⟩
  ·have e:l.drop k=[]:=by rw [List.drop_eq_nil_iff]; omega
   rw [e] at hd
   repeat first|refine QG ?_|refine QY ?_ (r:=by conv=>lhs;simp[QV,hkt])
   exact ja hwf (by rw [←hd]; rfl) rfl
theorem AnyI_v (l:List (Int)) (p:Int→Bool) (fid:FuncId) (caps:List V) (hc:jQ Tryz.prog fid=true) (hl:l.length<2^63) (h : ∀ x∈l,VPure Tryz.prog fid ([vint x]++caps) (.bool (p x))) :
  VPure Tryz.prog 85 [vl (vint) l, .func fid caps] (.bool (l.any p)):=by
 intro S;refine QB (c:=jc Tryz.f85) Tryz.func85 Tryz.ntmps85 fun hwf=>?_
 rw [←Jx p l 0]
 repeat first|refine QG ?_|refine QY ?_
 refine QT ?_;refine QP ?_;refine jb rfl (IndexI_v l p fid caps hc hl h) ?_;refine QW ?_
 repeat first|refine QG ?_|refine QY ?_
 exact ja hwf rfl rfl
theorem IndexB_v (l:List (Ss.Block)) (p:Ss.Block→Bool) (fid:FuncId) (caps:List V) (hc:jQ Tryz.prog fid=true) (hl:l.length<2^63) (h : ∀ x∈l,VPure Tryz.prog fid ([je x]++caps) (.bool (p x))) :
  VPure Tryz.prog 88 [vl (je) l, .func fid caps] (vint (qX p l 0)):=by
 intro S;refine QB (c:=jc Tryz.f88) Tryz.func88 Tryz.ntmps88 fun hwf=>?_
 repeat first|refine QG ?_|refine QY ?_
 refine QT ?_;refine jd [0,1,7,8] rfl (fun c σ S' => ∃ (k:Nat),k≤l.length∧c=l.length-k∧qX p (l.drop k) k=qX p l 0∧σ=[(0,vl (je) l),(1, .func fid caps),(7,vnat l.length),(8,vnat k)]∧S'=St S [] []) l.length ?_ ?_
 ·exact ⟨0,by omega,rfl,rfl,by simp [Fr.only],rfl⟩
 ·rintro c σ T ⟨k,hk,rfl,hd,rfl,rfl⟩
  by_cases hkt:k<l.length
  ·have hst:qX p (l.drop k) k=if p l[k] then (k:Int) else qX p (l.drop (k+1)) (k+1):=by rw [List.drop_eq_getElem_cons hkt,qX]
   have hw:=jh hkt hl
   repeat first|refine QG ?_|refine QY ?_ (r:=by conv=>lhs;simp[QV,hkt])
   refine QT ?_;refine QP ?_ (r:=by conv=>lhs;simp[QV,hkt]);refine qQ rfl hc rfl (h _ (List.getElem_mem hkt)) ?_;refine QW ?_
   cases hp:p l[k] with
   | true =>
    rw [hp] at hst
    repeat first|refine QG ?_|refine QY ?_ (r:=by conv=>lhs;simp[QV,hp])
    exact ja hwf (by rw [←hd,hst]; rfl) rfl
   | false =>
    rw [hp] at hst
    repeat first|refine QG ?_|refine QY ?_ (r:=by conv=>lhs;simp[QV,hp])
    show jy _ _ _ _ _ _ _;exact again ⟨Nat.sub_lt_sub_left hkt (Nat.lt_succ_self k),k+1,hkt,rfl,by rw [←hd,hst]; rfl,by simp [Fr.only,hw],rfl⟩
  ·have e:l.drop k=[]:=by rw [List.drop_eq_nil_iff]; omega
   rw [e] at hd
   repeat first|refine QG ?_|refine QY ?_ (r:=by conv=>lhs;simp[QV,hkt])
   exact ja hwf (by rw [←hd]; rfl) rfl
theorem AnyB_v (l:List (Ss.Block)) (p:Ss.Block→Bool) (fid:FuncId) (caps:List V) (hc:jQ Tryz.prog fid=true) (hl:l.length<2^63) (h : ∀ x∈l,VPure Tryz.prog fid ([je x]++caps) (.bool (p x))) :
  VPure Tryz.prog 54 [vl (je) l, .func fid caps] (.bool (l.any p)):=by
 intro S;refine QB (c:=jc Tryz.f54) Tryz.func54 Tryz.ntmps54 fun hwf=>?_
 rw [←Jx p l 0]
 repeat first|refine QG ?_|refine QY ?_
 refine QT ?_;refine QP ?_;refine jb rfl (IndexB_v l p fid caps hc hl h) ?_;refine QW ?_
 repeat first|refine QG ?_|refine QY ?_
 exact ja hwf rfl rfl
theorem IndexS_v (l:List (Ss.Sig)) (p:Ss.Sig→Bool) (fid:FuncId) (caps:List V) (hc:jQ Tryz.prog fid=true) (hl:l.length<2^63) (h : ∀ x∈l,VPure Tryz.prog fid ([jl x]++caps) (.bool (p x))) :
  VPure Tryz.prog 103 [vl (jl) l, .func fid caps] (vint (qX p l 0)):=by
 intro S;refine QB (c:=jc Tryz.f103) Tryz.func103 Tryz.ntmps103 fun hwf=>?_
 repeat first|refine QG ?_|refine QY ?_
 refine QT ?_;refine jd [0,1,7,8] rfl (fun c σ S' => ∃ (k:Nat),k≤l.length∧c=l.length-k∧qX p (l.drop k) k=qX p l 0∧σ=[(0,vl (jl) l),(1, .func fid caps),(7,vnat l.length),(8,vnat k)]∧S'=St S [] []) l.length ?_ ?_
 ·exact ⟨0,by omega,rfl,rfl,by simp [Fr.only],rfl⟩
 ·rintro c σ T ⟨k,hk,rfl,hd,rfl,rfl⟩
  by_cases hkt:k<l.length
  ·have hst:qX p (l.drop k) k=if p l[k] then (k:Int) else qX p (l.drop (k+1)) (k+1):=by rw [List.drop_eq_getElem_cons hkt,qX]
   have hw:=jh hkt hl
   repeat first|refine QG ?_|refine QY ?_ (r:=by conv=>lhs;simp[QV,hkt])
   refine QT ?_;refine QP ?_ (r:=by conv=>lhs;simp[QV,hkt]);refine qQ rfl hc rfl (h _ (List.getElem_mem hkt)) ?_;refine QW ?_
   cases hp:p l[k] with
   | true =>
    rw [hp] at hst
    repeat first|refine QG ?_|refine QY ?_ (r:=by conv=>lhs;simp[QV,hp])
    exact ja hwf (by rw [←hd,hst]; rfl) rfl
   | false =>
    rw [hp] at hst
    repeat first|refine QG ?_|refine QY ?_ (r:=by conv=>lhs;simp[QV,hp])
    show jy _ _ _ _ _ _ _;exact again ⟨Nat.sub_lt_sub_left hkt (Nat.lt_succ_self k),k+1,hkt,rfl,by rw [←hd,hst]; rfl,by simp [Fr.only,hw],rfl⟩
  ·have e:l.drop k=[]:=by rw [List.drop_eq_nil_iff]; omega
   rw [e] at hd
   repeat first|refine QG ?_|refine QY ?_ (r:=by conv=>lhs;simp[QV,hkt])
   exact ja hwf (by rw [←hd]; rfl) rfl
theorem AnyS_v (l:List (Ss.Sig)) (p:Ss.Sig→Bool) (fid:FuncId) (caps:List V) (hc:jQ Tryz.prog fid=true) (hl:l.length<2^63) (h : ∀ x∈l,VPure Tryz.prog fid ([jl x]++caps) (.bool (p x))) :
  VPure Tryz.prog 82 [vl (jl) l, .func fid caps] (.bool (l.any p)):=by
 intro S;refine QB (c:=jc Tryz.f82) Tryz.func82 Tryz.ntmps82 fun hwf=>?_
 rw [←Jx p l 0]
 repeat first|refine QG ?_|refine QY ?_
 refine QT ?_;refine QP ?_;refine jb rfl (IndexS_v l p fid caps hc hl h) ?_;refine QW ?_
 repeat first|refine QG ?_|refine QY ?_
 exact ja hwf rfl rfl
theorem IndexN_v (l:List (Ss.Ins)) (p:Ss.Ins→Bool) (fid:FuncId) (caps:List V) (hc:jQ Tryz.prog fid=true) (hl:l.length<2^63) (h : ∀ x∈l,VPure Tryz.prog fid ([jp x]++caps) (.bool (p x))) :
  VPure Tryz.prog 69 [vl (jp) l, .func fid caps] (vint (qX p l 0)):=by
 intro S;refine QB (c:=jc Tryz.f69) Tryz.func69 Tryz.ntmps69 fun hwf=>?_
 repeat first|refine QG ?_|refine QY ?_
 refine QT ?_;refine jd [0,1,7,8] rfl (fun c σ S' => ∃ (k:Nat),k≤l.length∧c=l.length-k∧qX p (l.drop k) k=qX p l 0∧σ=[(0,vl (jp) l),(1, .func fid caps),(7,vnat l.length),(8,vnat k)]∧S'=St S [] []) l.length ?_ ?_
 ·exact ⟨0,by omega,rfl,rfl,by simp [Fr.only],rfl⟩
 ·rintro c σ T ⟨k,hk,rfl,hd,rfl,rfl⟩
  by_cases hkt:k<l.length
  ·have hst:qX p (l.drop k) k=if p l[k] then (k:Int) else qX p (l.drop (k+1)) (k+1):=by rw [List.drop_eq_getElem_cons hkt,qX]
   have hw:=jh hkt hl
   repeat first|refine QG ?_|refine QY ?_ (r:=by conv=>lhs;simp[QV,hkt])
   refine QT ?_;refine QP ?_ (r:=by conv=>lhs;simp[QV,hkt]);refine qQ rfl hc rfl (h _ (List.getElem_mem hkt)) ?_;refine QW ?_
   cases hp:p l[k] with
   | true =>
    rw [hp] at hst
    repeat first|refine QG ?_|refine QY ?_ (r:=by conv=>lhs;simp[QV,hp])
    exact ja hwf (by rw [←hd,hst]; rfl) rfl
   | false =>
    rw [hp] at hst
    repeat first|refine QG ?_|refine QY ?_ (r:=by conv=>lhs;simp[QV,hp])
    show jy _ _ _ _ _ _ _;exact again ⟨Nat.sub_lt_sub_left hkt (Nat.lt_succ_self k),k+1,hkt,rfl,by rw [←hd,hst]; rfl,by simp [Fr.only,hw],rfl⟩
  ·have e:l.drop k=[]:=by rw [List.drop_eq_nil_iff]; omega
   rw [e] at hd
   repeat first|refine QG ?_|refine QY ?_ (r:=by conv=>lhs;simp[QV,hkt])
   exact ja hwf (by rw [←hd]; rfl) rfl
theorem AnyN_v (l:List (Ss.Ins)) (p:Ss.Ins→Bool) (fid:FuncId) (caps:List V) (hc:jQ Tryz.prog fid=true) (hl:l.length<2^63) (h : ∀ x∈l,VPure Tryz.prog fid ([jp x]++caps) (.bool (p x))) :
  VPure Tryz.prog 108 [vl (jp) l, .func fid caps] (.bool (l.any p)):=by
 intro S;refine QB (c:=jc Tryz.f108) Tryz.func108 Tryz.ntmps108 fun hwf=>?_
 rw [←Jx p l 0]
 repeat first|refine QG ?_|refine QY ?_
 refine QT ?_;refine QP ?_;refine jb rfl (IndexN_v l p fid caps hc hl h) ?_;refine QW ?_
 repeat first|refine QG ?_|refine QY ?_
 exact ja hwf rfl rfl
end Go.Vw
/-
  Regions that draw, with two allocations that stand in no order: a walk for each of the two orders.
-/
namespace Go.Vw
open Go.RowKit
def jv (ops:Array Oper) (j i:Nat):Array Oper:=ops.modify j fun o=>{ o with after:=o.after.push ⟨i, .data⟩ }
theorem qI (ops:Array Oper) (j i:Nat):(jv ops j i).size=ops.size:=by simp [jv]
theorem Jo (ops:Array Oper) {j i k:Nat} (h:k≠j):(jv ops j i)[k]? = ops[k]? := by
  simp only [jv,Array.getElem?_modify];rw [if_neg (Ne.symm h)]
theorem jaA (ops:Array Oper) {j i:Nat} {o:Oper} (h:ops[j]? = some o):(jv ops j i)[j]? = some { o with after:=o.after.push ⟨i, .data⟩ }:=by
  simp only [jv,Array.getElem?_modify,if_true,h,Option.map_some]
theorem ZG {ops:Array Oper} {i j k:Nat} {listed:Array Bool} (h:k∈Region.ready .any (jv ops j i) listed):k∈Region.ready .any ops listed:=by
  obtain ⟨h1,o,ho,hall⟩:=mem_ready.1 h
  by_cases e:k=j
  ·subst e
   cases hk:ops[k]? with
   | none =>
     have:(jv ops k i).size≤k:=by rw [qI]; exact Array.getElem?_eq_none_iff.1 hk
     rw [Array.getElem?_eq_none this] at ho; cases ho
   | some o' =>
     rw [jaA ops hk] at ho
     cases ho
     exact mem_ready.2 ⟨h1,o',hk,fun e he=>hall e (by simp [he])⟩
  ·rw [Jo ops e] at ho;exact mem_ready.2 ⟨h1,o,ho,hall⟩
theorem qr {ops:Array Oper} {i j k:Nat} {listed:Array Bool} (h:k∈Region.ready .any ops listed) (hk:k≠j∨listed.getD i false=true):k∈Region.ready .any (jv ops j i) listed:=by
  obtain ⟨h1,o,ho,hall⟩:=mem_ready.1 h
  by_cases e:k=j
  ·subst e;have hi:=hk.resolve_left (fun h=>h rfl);refine mem_ready.2 ⟨h1,_,jaA ops ho,fun e he hb => ?_⟩;simp only [Array.mem_push] at he;rcases he with he | rfl
   ·exact hall e he hb
   ·exact hi
  ·exact mem_ready.2 ⟨h1,o,by rw [Jo ops e]; exact ho,hall⟩
section
variable {P:Program} {Z:ZZ} {ops:Array Oper} {cs:List CO} {Q:Ff→Store→Prop}
theorem set_true_i {listed:Array Bool} {i k:Nat} (h:listed.getD i false=true):(listed.setIfInBounds k true).getD i false=true:=by
  by_cases e:k=i
  ·subst e;have:k<listed.size:=by
     rcases Nat.lt_or_ge k listed.size with h' | h'
     ·exact h'
     ·simp [Array.getElem?_eq_none h'] at h
   simp [this]
  ·rw [getD_set_ne false e]; exact h
theorem Kl {i j:Nat} : ∀ (n:Nat) (listed:Array Bool) (τ:Ff) (S:Store),listed.getD i false=true→anyZ P Z (jv ops j i) cs Q n listed τ S→anyZ P Z ops cs Q n listed τ S
  | 0,listed,τ,S,hi,h=>⟨List.eq_nil_iff_forall_not_mem.2 fun k hk=>(by have:=qr (i:=i) (j:=j) hk (.inr hi); rw [h.1] at this; cases this),h.2⟩
  | n+1,listed,τ,S,hi,h=>by
    refine ⟨fun h0=>h.1 (List.eq_nil_iff_forall_not_mem.2 fun k hk=>by have:=ZG hk; rw [h0] at this; cases this),fun k hk => ?_⟩;exact WB (fun τ S=>Kl n _ τ S (set_true_i hi)) (h.2 k (qr hk (.inr hi)))
theorem jaR {o:CO} {v v':V} {τ:Ff} {S S1 S1':Store} (hc:o.op.isCall=false) (h:KA P Z o v τ S S1) (h':KA P Z o v' τ S S1'):v=v'∧S1=S1':=by
  have rd : ∀ {Y:Store} {v v':V},zX P Y τ o.op v→zX P Y τ o.op v'→v=v':=by
    intro Y v v' h h'
    cases hop:o.op with
    | call f a=>rw [hop] at hc; simp [COp.isCall] at hc
    | callv f a=>rw [hop] at hc; simp [COp.isCall] at hc
    | _ =>
      rw [hop] at h h';simp only [zX] at h h';obtain ⟨Z1,e1⟩:=h;obtain ⟨Z2,e2⟩:=h';rw [e1] at e2;exact (Prod.mk.inj (Option.some.inj e2)).1
  rcases h with ⟨w1,h⟩ | ⟨w1,rfl,rfl⟩
  ·rcases h' with ⟨w2,h'⟩ | ⟨w2,_,_⟩
   ·rcases h with ⟨r1,rfl,k1⟩ | ⟨r1,k1,_⟩
    ·rcases h' with ⟨r2,rfl,k2⟩ | ⟨r2,k2,_⟩
     ·exact ⟨rd k1 k2,rfl⟩
     ·rw [r1] at r2; cases r2
    ·rcases h' with ⟨r2,rfl,k2⟩ | ⟨r2,k2,_⟩
     ·rw [r1] at r2; cases r2
     ·have wv : ∀ {v:V} {S1:Store},zl P (trnL Z.es o.dst) τ S o.op v S1→jg (evf τ) S o.op=some (v,S1):=by
        intro v S1 h
        cases hop:o.op with
        | call f a=>rw [hop] at hc; simp [COp.isCall] at hc
        | callv f a=>rw [hop] at hc; simp [COp.isCall] at hc
        | _=>rw [hop] at h; exact h
      have e1:=wv k1;have e2:=wv k2;rw [e1] at e2; cases e2; exact ⟨rfl,rfl⟩
   ·rw [w1] at w2; cases w2
  ·rcases h' with ⟨w2,h'⟩ | ⟨w2,rfl,rfl⟩
   ·rw [w1] at w2; cases w2
   ·exact ⟨rfl,rfl⟩
theorem anyZ_two {i j:Nat} (hij:i≠j) (hdet : ∀ (k:Nat) o,cs[k]? = some o→o.op.isCall=false) (hlen:cs.length=ops.size) : ∀ (n:Nat) (listed:Array Bool) (τ:Ff) (S:Store),listed.getD i true=false→listed.getD j true=false →
    anyZ P Z (jv ops j i) cs Q n listed τ S→anyZ P Z (jv ops i j) cs Q n listed τ S→anyZ P Z ops cs Q n listed τ S
  | 0,listed,τ,S,hi,hj,h1,h2=>⟨List.eq_nil_iff_forall_not_mem.2 fun k hk=>(by
      by_cases e:k=j
      ·have:=qr (i:=j) (j:=i) hk (.inl (by omega)); rw [h2.1] at this; cases this
      ·have:=qr (i:=i) (j:=j) hk (.inl e); rw [h1.1] at this; cases this),h1.2⟩
  | n+1,listed,τ,S,hi,hj,h1,h2=>by
    have lt : ∀ {k:Nat},listed.getD k true=false→(listed.setIfInBounds k true).getD k false=true:=by
      intro k hk;have:k<listed.size:=by
        rcases Nat.lt_or_ge k listed.size with h' | h'
        ·exact h'
        ·simp [Array.getElem?_eq_none h'] at hk
      simp [this]
    refine ⟨fun h0=>h1.1 (List.eq_nil_iff_forall_not_mem.2 fun k hk=>by have:=ZG hk; rw [h0] at this; cases this),fun k hk => ?_⟩
    by_cases ei:k=i
    ·subst ei;exact WB (fun τ S=>Kl n _ τ S (lt hi)) (h1.2 k (qr hk (.inl hij)))
    by_cases ej:k=j
    ·subst ej;exact WB (fun τ S=>Kl n _ τ S (lt hj)) (h2.2 k (qr hk (.inl ei)))
    have k1:=h1.2 k (qr hk (.inl ej));have k2:=h2.2 k (qr hk (.inl ei));obtain ⟨_,o',ho',_⟩:=mem_ready.1 hk;have hlt:k<cs.length:=by rw [hlen]; exact (Array.getElem?_eq_some_iff.1 ho').1
    have hok:cs[k]? = some cs[k]:=List.getElem?_eq_getElem hlt;simp only [atZ,hok] at k1 k2 ⊢;rw [qv] at k1 k2 ⊢;obtain ⟨v,S1,y1,n1⟩:=k1;obtain ⟨v',S1',y2,n2⟩:=k2;obtain ⟨rfl,rfl⟩:=jaR (hdet k _ hok) y1 y2;exact ⟨v,S1,y1,anyZ_two hij hdet hlen n _ _ _ (by rw [getD_set_ne true ei]; exact hi) (by rw [getD_set_ne true ej]; exact hj) n1 n2⟩
theorem zS {Q':Ff→Store→Prop} (hq : ∀ τ S,Q τ S→Q' τ S) : ∀ {l:List CO} {τ:Ff} {S:Store},JV P Z Q l τ S→JV P Z Q' l τ S
  | [],τ,S,h=>hq τ S h
  | o::r,τ,S,h=>by
    simp only [JV] at h ⊢;rw [qv] at h ⊢;obtain ⟨v,S1,h1,h2⟩:=h;exact ⟨v,S1,h1,zS hq h2⟩
def lexO (es ms:List Nat) (ops:Array Oper) (cs:List CO):List Nat→Array Bool→Bool
  | [],listed=>(Region.ready .any ops listed).isEmpty
  | k::ord,listed=>(Region.ready .any ops listed).contains k &&
      (match cs[k]? with
       | some oi=>(List.range cs.length).all fun j=>j==k||listed.getD j true||Zo ms k j||(match cs[j]? with
          | some oj=>oi.apart oj&&(isRd es oi||isRd es oj)
          | none=>true)
       | none=>false)&&lexO es ms ops cs ord (listed.setIfInBounds k true)
def YQ (cs:List CO) (ord:List Nat):List CO:=ord.filterMap fun k=>cs[k]?
theorem WC (hlen:cs.length=ops.size) : ∀ (ord:List Nat) (listed:Array Bool) (τ:Ff) (S:Store),qS ops listed→lexO Z.es (qC ops) ops cs ord listed=true→JV P Z Q (YQ cs ord) τ S→anyZ P Z ops cs Q ord.length listed τ S
  | [],_,_,_,_,hB,h=>⟨by simpa [lexO] using hB,h⟩
  | k::ord,listed,τ,S,hcl,hB,h=>by
    simp only [lexO,Bool.and_eq_true] at hB;obtain ⟨⟨hr,hf⟩,hB'⟩:=hB
    cases h0:cs[k]? with
    | none=>rw [h0] at hf; cases hf
    | some o =>
    have hp:YQ cs (k::ord)=o::YQ cs ord:=by simp [YQ,h0]
    rw [hp] at h;simp only [JV] at h;rw [qv] at h;obtain ⟨v,S1,hy,hK⟩:=h;have hr':k∈Region.ready .any ops listed:=by simpa using hr
    refine Ym h0 hlen ord.length listed τ S S1 hcl (fun j oj hj hne hun hno => ?_) hr' hy (WC hlen ord _ _ _ (zE hcl hr') hB' hK);simp only [h0,List.all_eq_true,List.mem_range] at hf;have h1:=hf j (List.getElem?_eq_some_iff.1 hj).1;have hnm:Zo (qC ops) k j=false:=by
      cases hm:Zo (qC ops) k j with
      | false=>rfl
      | true=>obtain ⟨n,hn⟩:=Jz hm; rw [hno n] at hn; cases hn
    simp only [hj,Bool.or_eq_true,beq_iff_eq,hne,false_or,hun,Bool.false_eq_true,hnm,Bool.and_eq_true] at h1;exact h1
end
section
variable {P:Program} {N b:Nat} {Q:Exit→Fr→Store→Prop} {σ:Fr} {S:Store}
theorem jbB {id:Nat} {ops:Array Oper} {cs:List CO} {Z:ZZ} {i j:Nat} {ord1 ord2:List Nat} (hm:P.follows .mixedOrders=true) (hc:qf P N ops=some cs) (hnc:cs.all (fun o => !o.op.isCall)=true) (hij:i≠j) (hi:i<ops.size) (hj:j<ops.size)
    (hB1:lexO Z.es (qC (jv ops j i)) (jv ops j i) cs ord1 (Array.replicate ops.size false)=true) (hB2:lexO Z.es (qC (jv ops i j)) (jv ops i j) cs ord2 (Array.replicate ops.size false)=true)
    (hn1:ord1.length=ops.size) (hn2:ord2.length=ops.size) (hE:zd (qC ops) cs Z.es=true) (hz:Z.ok S) (h0:Z.z0.Sub S)
    (H1:JV P Z (fun τ S => ∃ σ':Fr,σ'.look=τ∧Q .normal σ' S) (YQ cs ord1) σ.look S) (H2:JV P Z (fun τ S => ∃ σ':Fr,σ'.look=τ∧Q .normal σ' S) (YQ cs ord2) σ.look S):VWp P N b (.region id ops true) Q σ S:=by
  intro m β w a hS hF;obtain ⟨hlen,_⟩:=jap hc;refine wp_region_any hm ?_;have hcl : ∀ ops':Array Oper,ops'.size=ops.size→qS ops' (Array.replicate ops.size false):=by
    intro ops' he i o ho hi;have:i<ops'.size:=(Array.getElem?_eq_some_iff.1 ho).1;rw [he] at this;simp [this] at hi
  have a1:=WC (P:=P) (Z:=Z) (ops:=jv ops j i) (by rw [qI]; exact hlen) ord1 _ σ.look S (hcl _ (qI _ _ _)) hB1 H1;have a2:=WC (P:=P) (Z:=Z) (ops:=jv ops i j) (by rw [qI]; exact hlen) ord2 _ σ.look S (hcl _ (qI _ _ _)) hB2 H2;rw [hn1] at a1;rw [hn2] at a2;have:=anyZ_two hij (fun k o hk=>by
    simp only [List.all_eq_true] at hnc;have:=hnc o (List.mem_of_getElem? hk);simpa using this) hlen ops.size _ σ.look S (by simp [hi]) (by simp [hj]) a1 a2
  exact Yl hc hE ops.size _ σ S m β _ a this (hcl ops rfl) hz (fun _=>h0) hS.drew hF ((Ext.drew m β w).toB b)
theorem WI {c c2:Code} {cs:List CO} {Q2:Exit→Fr→Store→Prop} {σm:Fr} {Sm:Store} (Z:ZZ) (i j:Nat) (ord1 ord2:List Nat) (h:Code.kind c=2) (hm:P.follows .mixedOrders=true) (hc:qf P N (Code.ops c)=some cs) (hnc:cs.all (fun o => !o.op.isCall)=true) (hij:i≠j)
    (hi:decide (i<(Code.ops c).size)=true) (hj:decide (j<(Code.ops c).size)=true)
    (hB1:lexO Z.es (qC (jv (Code.ops c) j i)) (jv (Code.ops c) j i) cs ord1 (Array.replicate (Code.ops c).size false)=true) (hB2:lexO Z.es (qC (jv (Code.ops c) i j)) (jv (Code.ops c) i j) cs ord2 (Array.replicate (Code.ops c).size false)=true)
    (hn1:ord1.length=(Code.ops c).size) (hn2:ord2.length=(Code.ops c).size) (hes:Z.es=[]) (hz:Z.ok S) (h0:Z.z0.Sub S)
    {cs1 cs2:List CO} (hp1:YQ cs ord1=cs1) (hp2:YQ cs ord2=cs2)
    (H1:jB P (some Z) cs1 (fun σ S=>Reach N b σ S σm Sm) σ S) (H2:jB P (some Z) cs2 (fun σ S=>Reach N b σ S σm Sm) σ S) (H:VWp P N b c2 Q2 σm Sm):VWp P N b c (Ka (VWp P N b c2 Q2) Q) σ S:=by
  subst hp1;subst hp2
  cases c with
  | region id ops d =>
    cases d
    ·simp [Code.kind] at h
    ·refine jbB hm hc hnc hij (of_decide_eq_true hi) (of_decide_eq_true hj) hB1 hB2 hn1 hn2 (by rw [hes]; exact jam _ _) hz h0 ?_ ?_
     ·exact zS (fun τ S=>fun ⟨σ',e,hr⟩=>⟨σ',e,jF hr H⟩) (qP _ σ S H1)
     ·exact zS (fun τ S=>fun ⟨σ',e,hr⟩=>⟨σ',e,jF hr H⟩) (qP _ σ S H2)
  | _=>simp [Code.kind] at h
end
/-! ### .. behind a part that stands in the order of the text -/
section
variable {P:Program} {Z:ZZ} {ops:Array Oper} {cs:List CO} {Q:Ff→Store→Prop}
def ZX (es ms:List Nat) (ops:Array Oper) (cs:List CO):Nat→Nat→Array Bool→Bool
  | 0,_,_=>true
  | n+1,k,listed=>(Region.ready .any ops listed).contains k &&
      (match cs[k]? with
       | some oi=>(List.range cs.length).all fun j=>j==k||listed.getD j true||Zo ms k j||(match cs[j]? with
          | some oj=>oi.apart oj&&(isRd es oi||isRd es oj)
          | none=>true)
       | none=>false)&&ZX es ms ops cs n (k+1) (listed.setIfInBounds k true)
def zn:Nat→Nat→Array Bool→Array Bool
  | 0,_,l=>l
  | n+1,k,l=>zn n (k+1) (l.setIfInBounds k true)
theorem anyZ_pre (hlen:cs.length=ops.size) {fuel:Nat} : ∀ (l:List CO) (k:Nat) (listed:Array Bool) (τ:Ff) (S:Store),(∀ j<l.length,l[j]? = cs[k+j]?)→qS ops listed→ZX Z.es (qC ops) ops cs l.length k listed=true →
    JV P Z (fun τ S=>anyZ P Z ops cs Q fuel (zn l.length k listed) τ S) l τ S→anyZ P Z ops cs Q (fuel+l.length) listed τ S
  | [],_,_,_,_,_,_,_,h=>h
  | o::l,k,listed,τ,S,hl,hcl,hB,h=>by
    have h0:cs[k]? = some o:=by simpa using (hl 0 (by simp)).symm
    simp only [List.length_cons,ZX,Bool.and_eq_true,h0] at hB;obtain ⟨⟨hr,hf⟩,hB'⟩:=hB;simp only [JV] at h;rw [qv] at h;obtain ⟨v,S1,hy,hK⟩:=h;have hr':k∈Region.ready .any ops listed:=by simpa using hr
    refine Ym h0 hlen (fuel+l.length) listed τ S S1 hcl (fun j oj hj hne hun hno => ?_) hr' hy (anyZ_pre hlen l (k+1) _ _ _ (fun j hj=>by have:=hl (j+1) (by simp; omega); simpa [Nat.add_assoc,Nat.add_comm 1 j] using this) (zE hcl hr') hB' hK);simp only [List.all_eq_true,List.mem_range] at hf;have h1:=hf j (List.getElem?_eq_some_iff.1 hj).1;have hnm:Zo (qC ops) k j=false:=by
      cases hm:Zo (qC ops) k j with
      | false=>rfl
      | true=>obtain ⟨n,hn⟩:=Jz hm; rw [hno n] at hn; cases hn
    simp only [hj,Bool.or_eq_true,beq_iff_eq,hne,false_or,hun,Bool.false_eq_true,hnm,Bool.and_eq_true] at h1;exact h1
theorem YG (hlen:cs.length=ops.size) {es:List Nat} : ∀ (n k:Nat) (listed:Array Bool),qS ops listed→ZX es (qC ops) ops cs n k listed=true→qS ops (zn n k listed)
  | 0,_,_,h,_=>h
  | n+1,k,listed,h,hB=>by
    simp only [ZX,Bool.and_eq_true] at hB;exact YG hlen n (k+1) _ (zE h (by simpa using hB.1.1)) hB.2
theorem WA {listed:Array Bool} {i j:Nat} (h:qS ops listed) (hj:listed.getD j true=false):qS (jv ops j i) listed:=by
  intro k o ho hk
  by_cases e:k=j
  ·subst e; rw [hj] at hk; cases hk
  ·rw [Jo ops e] at ho;exact h k o ho hk
theorem anyZ_twoL {i j:Nat} (hij:i≠j) (hlen:cs.length=ops.size) : ∀ (n:Nat) (listed:Array Bool) (τ:Ff) (S:Store),(∀ (k:Nat) o,cs[k]? = some o→k≠i→k≠j→listed.getD k true=false→o.op.isCall=false)→listed.getD i true=false→listed.getD j true=false →
    anyZ P Z (jv ops j i) cs Q n listed τ S→anyZ P Z (jv ops i j) cs Q n listed τ S→anyZ P Z ops cs Q n listed τ S
  | 0,listed,τ,S,_,hi,hj,h1,h2=>⟨List.eq_nil_iff_forall_not_mem.2 fun k hk=>(by
      by_cases e:k=j
      ·have:=qr (i:=j) (j:=i) hk (.inl (by omega)); rw [h2.1] at this; cases this
      ·have:=qr (i:=i) (j:=j) hk (.inl e); rw [h1.1] at this; cases this),h1.2⟩
  | n+1,listed,τ,S,hdet,hi,hj,h1,h2=>by
    have lt : ∀ {k:Nat},listed.getD k true=false→(listed.setIfInBounds k true).getD k false=true:=by
      intro k hk;have:k<listed.size:=by
        rcases Nat.lt_or_ge k listed.size with h' | h'
        ·exact h'
        ·simp [Array.getElem?_eq_none h'] at hk
      simp [this]
    refine ⟨fun h0=>h1.1 (List.eq_nil_iff_forall_not_mem.2 fun k hk=>by have:=ZG hk; rw [h0] at this; cases this),fun k hk => ?_⟩
    by_cases ei:k=i
    ·subst ei;exact WB (fun τ S=>Kl n _ τ S (lt hi)) (h1.2 k (qr hk (.inl hij)))
    by_cases ej:k=j
    ·subst ej;exact WB (fun τ S=>Kl n _ τ S (lt hj)) (h2.2 k (qr hk (.inl ei)))
    have k1:=h1.2 k (qr hk (.inl ej));have k2:=h2.2 k (qr hk (.inl ei));obtain ⟨hun,o',ho',_⟩:=mem_ready.1 hk;have hlt:k<cs.length:=by rw [hlen]; exact (Array.getElem?_eq_some_iff.1 ho').1
    have hok:cs[k]? = some cs[k]:=List.getElem?_eq_getElem hlt;simp only [atZ,hok] at k1 k2 ⊢;rw [qv] at k1 k2 ⊢;obtain ⟨v,S1,y1,n1⟩:=k1;obtain ⟨v',S1',y2,n2⟩:=k2;obtain ⟨rfl,rfl⟩:=jaR (hdet k _ hok ei ej hun) y1 y2;refine ⟨v,S1,y1,anyZ_twoL hij hlen n _ _ _ (fun k' o hk' h3 h4 h5=>hdet k' o hk' h3 h4 ?_) (by rw [getD_set_ne true ei]; exact hi) (by rw [getD_set_ne true ej]; exact hj) n1 n2⟩
    by_cases e:k=k'
    ·subst e; exact hun
    ·rw [getD_set_ne true e] at h5; exact h5
end
section
variable {P:Program} {N b:Nat} {Q:Exit→Fr→Store→Prop} {σ:Fr} {S:Store}
def callsOk (cs:List CO) (i j n0:Nat):Bool:=(List.range cs.length).all fun k=>decide (k<n0)||k==i||k==j||(match cs[k]? with | some o => !o.op.isCall | none=>true)
theorem vw_drawSplit {c c2:Code} {cs:List CO} {Q2:Exit→Fr→Store→Prop} (Z:ZZ) (n0 i j:Nat) (ord1 ord2:List Nat) (h:Code.kind c=2) (hm:P.follows .mixedOrders=true) (hc:qf P N (Code.ops c)=some cs) (hnc:callsOk cs i j n0=true) (hij:i≠j)
    (hp:ZX Z.es (qC (Code.ops c)) (Code.ops c) cs n0 0 (Array.replicate (Code.ops c).size false)=true)
    (hi:(zn n0 0 (Array.replicate (Code.ops c).size false)).getD i true=false) (hj:(zn n0 0 (Array.replicate (Code.ops c).size false)).getD j true=false)
    (hu:(List.range n0).all (fun k=>(zn n0 0 (Array.replicate (Code.ops c).size false)).getD k true)=true)
    (hB1:lexO Z.es (qC (jv (Code.ops c) j i)) (jv (Code.ops c) j i) cs ord1 (zn n0 0 (Array.replicate (Code.ops c).size false))=true) (hB2:lexO Z.es (qC (jv (Code.ops c) i j)) (jv (Code.ops c) i j) cs ord2 (zn n0 0 (Array.replicate (Code.ops c).size false))=true)
    (hn0:decide (n0≤(Code.ops c).size)=true) (hn1:ord1.length+n0=(Code.ops c).size) (hn2:ord2.length+n0=(Code.ops c).size) (hE:zd (qC (Code.ops c)) cs Z.es=true) (hz:Z.ok S) (h0:Z.z0.Sub S)
    {cs0 cs1 cs2:List CO} (hp0:cs.take n0=cs0) (hp1:YQ cs ord1=cs1) (hp2:YQ cs ord2=cs2)
    (H:jB P (some Z) cs0 (fun σ S => ∃ σm Sm,VWp P N b c2 Q2 σm Sm∧jB P (some Z) cs1 (fun σ S=>Reach N b σ S σm Sm) σ S∧jB P (some Z) cs2 (fun σ S=>Reach N b σ S σm Sm) σ S) σ S):VWp P N b c (Ka (VWp P N b c2 Q2) Q) σ S:=by
  subst hp0;subst hp1;subst hp2
  cases c with
  | region id ops d =>
    cases d
    ·simp [Code.kind] at h
    ·intro m β w a hS hF;simp only [Code.ops] at *
     obtain ⟨hlen,_⟩:=jap hc;refine wp_region_any hm ?_;have hcl:qS ops (Array.replicate ops.size false):=by
       intro i o ho hi;have:i<ops.size:=(Array.getElem?_eq_some_iff.1 ho).1;simp [this] at hi
     have hle:n0≤cs.length:=by rw [hlen]; exact of_decide_eq_true hn0
     have hl0:(cs.take n0).length=n0:=by rw [List.length_take,Nat.min_eq_left hle]
     have hcl1:=YG hlen n0 0 _ hcl hp;have key:JV P Z (fun τ S=>anyZ P Z ops cs (fun τ S => ∃ σ':Fr,σ'.look=τ∧(Ka (VWp P N b c2 Q2) Q) .normal σ' S) ord1.length (zn n0 0 (Array.replicate ops.size false)) τ S) (cs.take n0) σ.look S:=by
       refine zS (fun τ S => ?_) (qP _ σ S H);rintro ⟨σ1,rfl,σm,Sm,hQ,H1,H2⟩;have a1:=WC (P:=P) (Z:=Z) (Q:=fun τ S => ∃ σ':Fr,σ'.look=τ∧(Ka (VWp P N b c2 Q2) Q) .normal σ' S) (ops:=jv ops j i) (by rw [qI]; exact hlen) ord1 _ σ1.look S (WA hcl1 hj) hB1 (zS (fun τ S=>fun ⟨σ',e,hr⟩=>⟨σ',e,jF hr hQ⟩) (qP _ σ1 S H1));have a2:=WC (P:=P) (Z:=Z) (Q:=fun τ S => ∃ σ':Fr,σ'.look=τ∧(Ka (VWp P N b c2 Q2) Q) .normal σ' S) (ops:=jv ops i j) (by rw [qI]; exact hlen) ord2 _ σ1.look S (WA hcl1 hi) hB2 (zS (fun τ S=>fun ⟨σ',e,hr⟩=>⟨σ',e,jF hr hQ⟩) (qP _ σ1 S H2));rw [show ord2.length=ord1.length by omega] at a2;refine anyZ_twoL hij hlen ord1.length _ σ1.look S (fun k o hk h3 h4 h5 => ?_) hi hj a1 a2;simp only [callsOk,List.all_eq_true,List.mem_range] at hnc;have hh:=hnc k (List.getElem?_eq_some_iff.1 hk).1
       have h6 : ¬ k<n0:=fun h6=>by
         simp only [List.all_eq_true,List.mem_range] at hu;rw [hu k h6] at h5; cases h5
       simpa [h6,h3,h4,hk] using hh
     have:=anyZ_pre (P:=P) (Z:=Z) hlen (cs.take n0) 0 (Array.replicate ops.size false) σ.look S (fun q hq=>by rw [Nat.zero_add,List.getElem?_take,if_pos (by omega)]) hcl (by rw [hl0]; exact hp) (by rw [hl0]; exact key);rw [hl0,hn1] at this;exact Yl hc hE ops.size _ σ S m β _ a this hcl hz (fun _=>h0) hS.drew hF ((Ext.drew m β w).toB b)
  | _=>simp [Code.kind] at h
end
theorem zA {N b:Nat} {σ σ':Fr} {S:Store} (ks:List Nat) (h:σ.only ks=σ'):Reach N b σ S σ' S:=by subst h; exact Reach.only ks
theorem zT {N:Nat} {σ σ1 σ':Fr} {B:Store} {u u':Upds} {l l':List (Option (Nat × List V))} (ks gs:List Nat) (hσ1:σ.only ks=σ1) (hw:B.Wf) (h1:gs.Nodup) (h2:(JI B.nx gs u&&Yf B.nx gs l gs&&idsF (gcP B.nx gs) σ1)=true)
    (hu:gcU B.nx gs u=u') (hl:gcL B.nx gs l gs=l') (hσ:renF (gcTo B.nx gs) σ1=σ'):Reach N B.nx σ (St B u l) σ' (St B u' l') :=
  (zA ks hσ1).trans (Reach.gc gs hw h1 h2 hu hl hσ)
end Go.Vw
