import Derived.Test.YtenhhokhkkfgbaaGreatC10
import Derived.Test.YtenhhokhkkfgbaaGreatC11
import Derived.Test.YtenhhokhkkfgbaaGreatProg
import Derived.OpenShut
/-
  Part of the proof (texts SRd, SSpec, DNeed, GDom, GDom2, GNat).
-/
set_option linter.unusedVariables false
set_option linter.unusedSimpArgs false
namespace Go.Vw
open Go.Proofs Go.RowKit Go.ChangeShapes Go.WideShapes
set_option maxRecDepth 100000
theorem few_of {l b:Nat} (hb:1≤b) (h:l*b≤140737488351232):l≤140737488355328:=by
 have:l*1≤l*b:=Nat.mul_le_mul_left _ hb
 omega
theorem i64_of {n:Int} (h:(Lit.int .i64 n).wf=true):Ss.I64 n:=bounds_i64 h
theorem rdInt:ReadsC Tryz.prog 3 (fun n:Int=>[vint n]) Ss.I64 :=
 (ReadsC.int Tryz.underlying3).map id (fun _=>rfl) (fun n h=>i64_of h)
theorem rdU64:ReadsC Tryz.prog 63 (fun n:Int=>[vu n]) (fun n=>0≤n∧n<18446744073709551616) :=
 (ReadsC.int Tryz.underlying63).map id (fun _=>rfl) (fun n h=>by have h1:=bounds_u64 h; simp only [id]; omega)
theorem rdBool:ReadsC Tryz.prog 4 (fun b:Bool=>[.bool b]) (fun _=>True):=ReadsC.bool Tryz.underlying4
theorem rdInts:ReadsC Tryz.prog 23 (fun l:List Int=>[vl vint l]) Ss.Ints :=
 (ReadsC.slice vint Tryz.underlying23 rdInt (of_decide_eq_true (by kernel_rfl)) (fun _ => .inr rfl)).map id (fun _=>rfl) (fun l h=>⟨few_of (of_decide_eq_true (by kernel_rfl)) h.1.2,h.2⟩)
theorem rdBools:ReadsC Tryz.prog 24 (fun l:List Bool=>[vl V.bool l]) (fun l=>l.length≤140737488355328) :=
 (ReadsC.slice V.bool Tryz.underlying24 rdBool (of_decide_eq_true (by kernel_rfl)) (fun _ => .inr rfl)).map id (fun _=>rfl) (fun l h=>few_of (of_decide_eq_true (by kernel_rfl)) h.1.2)
theorem rdSig:ReadsC Tryz.prog 28 (fun s:Ss.Sig=>[vl vint s.inn,vl vint s.out]) Ss.Sig.Fits :=
 (ReadsC.struct Tryz.underlying28 (by kernel_rfl) (ReadsF.cons (by kernel_rfl) rdInts (ReadsF.cons (by kernel_rfl) rdInts ReadsF.nil))).map (fun p=>(⟨p.1,p.2.1⟩:Ss.Sig)) (fun _=>rfl) (fun p h=>⟨h.1,h.2.1⟩)
theorem rdSigs:ReadsC Tryz.prog 22 (fun l:List Ss.Sig=>[vl encSig l]) (fun l=>l.length≤140737488355328 ∧ ∀ s∈l,s.Fits) :=
 (ReadsC.slice encSig Tryz.underlying22 rdSig (of_decide_eq_true (by kernel_rfl)) (fun _ => .inl rfl)).map id (fun _=>rfl) (fun l h=>⟨few_of (of_decide_eq_true (by kernel_rfl)) h.1.2,h.2⟩)
theorem rdIns:ReadsC Tryz.prog 65 (fun x:Ss.Ins=>[vint x.op,vu x.n,vl vint x.args,vl vint x.outs]) Ss.Ins.Fits :=
 (ReadsC.struct Tryz.underlying65 (by kernel_rfl) (ReadsF.cons (by kernel_rfl) rdInt (ReadsF.cons (by kernel_rfl) rdU64 (ReadsF.cons (by kernel_rfl) rdInts (ReadsF.cons (by kernel_rfl) rdInts ReadsF.nil))))).map (fun p=>(⟨p.1,p.2.1,p.2.2.1,p.2.2.2.1⟩:Ss.Ins)) (fun _=>rfl) (fun p h=>⟨h.1,h.2.1,h.2.2.1,h.2.2.2.1⟩)
theorem rdInss:ReadsC Tryz.prog 57 (fun l:List Ss.Ins=>[vl encIns l]) (fun l=>l.length≤140737488355328 ∧ ∀ s∈l,s.Fits) :=
 (ReadsC.slice encIns Tryz.underlying57 rdIns (of_decide_eq_true (by kernel_rfl)) (fun _ => .inl rfl)).map id (fun _=>rfl) (fun l h=>⟨few_of (of_decide_eq_true (by kernel_rfl)) h.1.2,h.2⟩)
theorem rdEdge:ReadsC Tryz.prog 67 (fun x:Ss.Edge=>[vint x.to,vl vint x.args]) Ss.Edge.Fits :=
 (ReadsC.struct Tryz.underlying67 (by kernel_rfl) (ReadsF.cons (by kernel_rfl) rdInt (ReadsF.cons (by kernel_rfl) rdInts ReadsF.nil))).map (fun p=>(⟨p.1,p.2.1⟩:Ss.Edge)) (fun _=>rfl) (fun p h=>⟨h.1,h.2.1⟩)
theorem rdEdges:ReadsC Tryz.prog 58 (fun l:List Ss.Edge=>[vl encEdge l]) (fun l=>l.length≤140737488355328 ∧ ∀ s∈l,s.Fits) :=
 (ReadsC.slice encEdge Tryz.underlying58 rdEdge (of_decide_eq_true (by kernel_rfl)) (fun _ => .inl rfl)).map id (fun _=>rfl) (fun l h=>⟨few_of (of_decide_eq_true (by kernel_rfl)) h.1.2,h.2⟩)
theorem rdTerm:ReadsC Tryz.prog 60 (fun t:Ss.Term=>[vint t.kind,vint t.arg,vl encEdge t.to,vl vint t.args]) Ss.Term.Fits :=
 (ReadsC.struct Tryz.underlying60 (by kernel_rfl) (ReadsF.cons (by kernel_rfl) rdInt (ReadsF.cons (by kernel_rfl) rdInt (ReadsF.cons (by kernel_rfl) rdEdges (ReadsF.cons (by kernel_rfl) rdInts ReadsF.nil))))).map (fun p=>(⟨p.1,p.2.1,p.2.2.1,p.2.2.2.1⟩:Ss.Term)) (fun _=>rfl) (fun p h=>⟨h.1,h.2.1,h.2.2.1,h.2.2.2.1⟩)
theorem rdBlock:ReadsC Tryz.prog 62 (fun b:Ss.Block=>[vl vint b.params,vl encIns b.code,vint b.term.kind,vint b.term.arg,vl encEdge b.term.to,vl vint b.term.args]) Ss.Block.Fits :=
 (ReadsC.struct Tryz.underlying62 (by kernel_rfl) (ReadsF.cons (by kernel_rfl) rdInts (ReadsF.cons (by kernel_rfl) rdInss (ReadsF.cons (by kernel_rfl) rdTerm ReadsF.nil)))).map (fun p=>(⟨p.1,p.2.1,p.2.2.1⟩:Ss.Block)) (fun _=>rfl) (fun p h=>⟨h.1,h.2.1,h.2.2.1⟩)
theorem rdBlocks:ReadsC Tryz.prog 29 (fun l:List Ss.Block=>[vl encBlock l]) (fun l=>l.length≤140737488355328 ∧ ∀ s∈l,s.Fits) :=
 (ReadsC.slice encBlock Tryz.underlying29 rdBlock (of_decide_eq_true (by kernel_rfl)) (fun _ => .inl rfl)).map id (fun _=>rfl) (fun l h=>⟨few_of (of_decide_eq_true (by kernel_rfl)) h.1.2,h.2⟩)
theorem rdFn:ReadsC Tryz.prog 31 (fun f:Ss.Fn=>[vl vint f.sig.inn,vl vint f.sig.out,vl vint f.types,vl encBlock f.blocks]) Ss.Fn.Fits :=
 (ReadsC.struct Tryz.underlying31 (by kernel_rfl) (ReadsF.cons (by kernel_rfl) rdSig (ReadsF.cons (by kernel_rfl) rdInts (ReadsF.cons (by kernel_rfl) rdBlocks ReadsF.nil)))).map (fun p=>(⟨p.1,p.2.1,p.2.2.1⟩:Ss.Fn)) (fun _=>rfl) (fun p h=>⟨h.1,h.2.1,h.2.2.1⟩)
theorem rdEnv:ReadsC Tryz.prog 26 (fun e:Ss.Env=>[vl encSig e.sigs,vint e.imports,vl vint e.globals,vl V.bool e.muts, .bool e.mem]) Ss.Env.Fits :=
 (ReadsC.struct Tryz.underlying26 (by kernel_rfl) (ReadsF.cons (by kernel_rfl) rdSigs (ReadsF.cons (by kernel_rfl) rdInt (ReadsF.cons (by kernel_rfl) rdInts (ReadsF.cons (by kernel_rfl) rdBools (ReadsF.cons (by kernel_rfl) rdBool ReadsF.nil)))))).map (fun p=>(⟨p.1,p.2.1,p.2.2.1,p.2.2.2.1,p.2.2.2.2.1⟩:Ss.Env)) (fun _=>rfl) (fun p h=>⟨h.1,h.2.1,h.2.2.1,h.2.2.2.1⟩)
end Go.Vw

/-
 Functions in SSA form: how long their lists are.
-/
namespace Ss
def shortL (ls:List (List Int)):Bool:=ls.all fun l=>decide (l.length≤4096)
def Ins.small (x:Ins):Bool:=decide (x.args.length≤4096)&&decide (x.outs.length≤4096)
def Edge.small (x:Edge):Bool:=decide (x.args.length≤4096)
def Block.small (b:Block):Bool:=decide (b.params.length≤4096)&&decide (b.term.to.length≤4096)&&decide (b.term.args.length≤4096)&&b.code.all Ins.small&&b.term.to.all Edge.small
def smallFrom (n:Nat):List Block→Bool
 | []=>true
 | b::bs=>decide (n+b.code.length≤4096)&&b.small&&smallFrom (n+b.code.length) bs
def Fn.heads (f:Fn):Bool:=decide (f.types.length≤4096)&&decide (f.blocks.length≤4096)&&decide (f.sig.inn.length≤4096)&&decide (f.sig.out.length≤4096)
def Fn.small (f:Fn):Bool:=f.heads&&smallFrom 0 f.blocks
def count (bs:List Block):Nat:=(bs.map fun b=>b.code.length).sum
theorem smallFrom_all : ∀ {bs:List Block} {n:Nat},smallFrom n bs=true→(∀ b∈bs,b.small=true)∧(n≤4096→n+count bs≤4096)
 | [],n,_=>⟨by simp,by simp [count]⟩
 | b::bs,n,h=>by
  simp only [smallFrom,Bool.and_eq_true,decide_eq_true_eq] at h
  obtain ⟨⟨h1,h2⟩,h3⟩:=h
  obtain ⟨k1,k2⟩:=smallFrom_all h3
  refine ⟨fun x hx => ?_,fun _ => ?_⟩
  ·rcases List.mem_cons.1 hx with rfl | hx
   ·exact h2
   ·exact k1 x hx
  ·have:=k2 h1
   simp only [count,List.map_cons,List.sum_cons] at this ⊢
   omega
theorem smallFrom_mk : ∀ {bs:List Block} {n:Nat},(∀ b∈bs,b.small=true)→n+count bs≤4096→smallFrom n bs=true
 | [],n,_,_=>rfl
 | b::bs,n,h,hn=>by
  simp only [count,List.map_cons,List.sum_cons] at hn
  simp only [smallFrom,Bool.and_eq_true,decide_eq_true_eq]
  exact ⟨⟨by omega,h b (by simp)⟩,smallFrom_mk (fun x hx=>h x (by simp [hx])) (by simp only [count]; omega)⟩
theorem small_iff (f:Fn):f.small=true↔f.heads=true∧(∀ b∈f.blocks,b.small=true)∧count f.blocks≤4096:=by
 simp only [Fn.small,Bool.and_eq_true]
 constructor
 ·rintro ⟨h1,h2⟩
  obtain ⟨k1,k2⟩:=smallFrom_all h2
  exact ⟨h1,k1,by simpa using k2 (by omega)⟩
 ·rintro ⟨h1,h2,h3⟩
  exact ⟨h1,smallFrom_mk h2 (by simpa using h3)⟩
theorem drop_all {α:Type} (p:α→Bool) {l:List α} {k:Nat} (h:k<l.length):(l.drop k).all p=(p l[k]&&(l.drop (k+1)).all p):=by
 rw [List.drop_eq_getElem_cons h,List.all_cons]
theorem drop_all_end {α:Type} (p:α→Bool) {l:List α} {k:Nat} (h : ¬ k<l.length):(l.drop k).all p=true:=by
 have:l.drop k=[]:=by rw [List.drop_eq_nil_iff]; omega
 rw [this]; rfl
theorem drop_small {n:Nat} {l:List Block} {k:Nat} (h:k<l.length):smallFrom n (l.drop k)=(decide (n+l[k].code.length≤4096)&&l[k].small&&smallFrom (n+l[k].code.length) (l.drop (k+1))):=by
 rw [List.drop_eq_getElem_cons h,smallFrom]
theorem drop_small_end {n:Nat} {l:List Block} {k:Nat} (h : ¬ k<l.length):smallFrom n (l.drop k)=true:=by
 have:l.drop k=[]:=by rw [List.drop_eq_nil_iff]; omega
 rw [this]; rfl
end Ss

namespace Ss
abbrev on (need:List Bool) (v:Int):Bool:=need.getD v.toNat false
def dfs (asks:List (List Int)):Nat→List Bool→List Int→List Bool
 | 0,need,_=>need
 | _+1,need,[]=>need
 | n+1,need,v::r=>if on need v then dfs asks (n+1) need r else dfs asks (n+1) (dfs asks n (need.set v.toNat true) (asks.getD v.toNat [])) r
termination_by n _ l=>(n,l.length)
def off (need:List Bool):Nat:=need.countP fun b => !b
theorem off_le {a b:List Bool} (hl:a.length=b.length) (h : ∀ i:Nat,a[i]? = some true→b[i]? = some true):off b≤off a:=by
 induction a generalizing b with
 | nil=>cases b with
  | nil=>exact Nat.le_refl _
  | cons=>simp at hl
 | cons x a ih =>
  cases b with
  | nil=>simp at hl
  | cons y b =>
   have h0:=h 0
   have:=ih (b:=b) (by simpa using hl) fun i hi=>by simpa using h (i+1) (by simpa using hi)
   simp only [List.getElem?_cons_zero,Option.some.injEq] at h0
   simp only [off,List.countP_cons] at this ⊢
   cases x<;>cases y<;>simp_all<;>omega
theorem off_set {a:List Bool} {i:Nat} (h:a[i]? = some false):off (a.set i true)+1=off a:=by
 induction a generalizing i with
 | nil=>simp at h
 | cons x a ih =>
  cases i with
  | zero =>
   simp only [List.getElem?_cons_zero,Option.some.injEq] at h
   subst h
   simp [off]
  | succ i =>
   have:=ih (i:=i) (by simpa using h)
   simp only [List.set_cons_succ,off,List.countP_cons] at this ⊢
   omega
theorem on_iff {need:List Bool} {v:Int}:on need v=true↔need[v.toNat]? = some true:=by
 rw [on,List.getD_eq_getElem?_getD]
 cases h:need[v.toNat]? with
 | none=>simp
 | some b=>simp
structure Marks (asks:List (List Int)) (need:List Bool) (l:List Int) (R:List Bool):Prop where
 len:R.length=need.length
 mono : ∀ i:Nat,need[i]? = some true→R[i]? = some true
 all : ∀ v∈l,on R v=true
 shut : ∀ i:Nat,R[i]? = some true→need[i]? = some true ∨ ∀ u∈asks.getD i [],on R u=true
 least : ∀ P:Nat→Prop,(∀ i:Nat,need[i]? = some true→P i)→(∀ v∈l,P v.toNat)→(∀ i:Nat,P i → ∀ u∈asks.getD i [],P u.toNat) → ∀ i:Nat,R[i]? = some true→P i
theorem dfs_marks {asks:List (List Int)} {N:Nat} (ha : ∀ l∈asks, ∀ u∈l,u.toNat<N) : ∀ (n:Nat) (need:List Bool) (l:List Int),need.length=N→(∀ v∈l,v.toNat<N)→off need<n→Marks asks need l (dfs asks n need l)
 | 0,need,l,_,_,h=>by omega
 | n+1,need,[],hN,_,h=>by
  rw [dfs]
  exact ⟨rfl,fun i h=>h,by simp,fun i h => .inl h,fun P h0 _ _ i hi=>h0 i hi⟩
 | n+1,need,v::r,hN,hl,h=>by
  rw [dfs]
  have hvN:=hl v (by simp)
  by_cases hv:on need v=true
  ·rw [if_pos hv]
   obtain ⟨m1,m2,m3,m4,m5⟩:=dfs_marks ha (n+1) need r hN (fun u hu=>hl u (by simp [hu])) h
   refine ⟨m1,m2,fun u hu => ?_,m4,fun P h0 h1 h2=>m5 P h0 (fun u hu=>h1 u (by simp [hu])) h2⟩
   rcases List.mem_cons.1 hu with rfl | hu
   ·exact on_iff.2 (m2 _ (on_iff.1 hv))
   ·exact m3 u hu
  ·rw [if_neg hv]
   have hf:need[v.toNat]? = some false:=by
    rw [on_iff] at hv
    rw [List.getElem?_eq_getElem (by omega)] at hv ⊢
    simpa using hv
   have ho:=off_set hf
   have hal : ∀ u∈asks.getD v.toNat [],u.toNat<N:=fun u hu=>by
    rw [List.getD_eq_getElem?_getD] at hu
    cases he:asks[v.toNat]? with
    | none=>rw [he] at hu; simp at hu
    | some l=>rw [he] at hu; exact ha l (List.mem_of_getElem? he) u hu
   obtain ⟨k1,k2,k3,k4,k5⟩:=dfs_marks ha n (need.set v.toNat true) (asks.getD v.toNat []) (by rw [List.length_set]; exact hN) hal (by omega)
   generalize dfs asks n (need.set v.toNat true) (asks.getD v.toNat [])=M at *
   have hml:M.length=need.length:=by rw [k1,List.length_set]
   have hnM : ∀ i:Nat,need[i]? = some true→M[i]? = some true:=fun i hi=>k2 i (by
    rw [List.getElem?_set]
    split
    ·rename_i e; subst e; rw [hf] at hi; cases hi
    ·exact hi)
   have hvM:M[v.toNat]? = some true:=k2 _ (List.getElem?_set_self (by omega))
   have hoM:off M≤off need:=off_le hml.symm hnM
   obtain ⟨m1,m2,m3,m4,m5⟩:=dfs_marks ha (n+1) M r (by omega) (fun u hu=>hl u (by simp [hu])) (by omega)
   refine ⟨by omega,fun i hi=>m2 i (hnM i hi),fun u hu => ?_,fun i hi => ?_,fun P h0 h1 h2=>m5 P ?_ (fun u hu=>h1 u (by simp [hu])) h2⟩
   ·rcases List.mem_cons.1 hu with rfl | hu
    ·exact on_iff.2 (m2 _ hvM)
    ·exact m3 u hu
   ·rcases m4 i hi with hM | hs
    ·rcases k4 i hM with hn | hs
     ·rw [List.getElem?_set] at hn
      split at hn
      ·rename_i e
       subst e
       exact .inr fun u hu=>on_iff.2 (m2 _ (on_iff.1 (k3 u hu)))
      ·exact .inl hn
     ·exact .inr fun u hu=>on_iff.2 (m2 _ (on_iff.1 (hs u hu)))
    ·exact .inr hs
   ·have hPv:P v.toNat:=h1 v (by simp)
    refine k5 P (fun i hi => ?_) (fun u hu=>h2 _ hPv u hu) h2
    rw [List.getElem?_set] at hi
    split at hi
    ·rename_i e; subst e; exact hPv
    ·exact h0 i hi
termination_by n _ l=>(n,l.length)
theorem marks_trans {asks:List (List Int)} {a b c:List Bool} {l m:List Int} (h:Marks asks a l b) (k:Marks asks b m c):Marks asks a (l++m) c:=by
 refine ⟨k.len.trans h.len,fun i hi=>k.mono i (h.mono i hi),fun v hv => ?_,fun i hi => ?_,fun P h0 h1 h2=>k.least P (h.least P h0 (fun v hv=>h1 v (by simp [hv])) h2) (fun v hv=>h1 v (by simp [hv])) h2⟩
 ·rcases List.mem_append.1 hv with hv | hv
  ·exact on_iff.2 (k.mono _ (on_iff.1 (h.all v hv)))
  ·exact k.all v hv
 ·rcases k.shut i hi with hb | hs
  ·rcases h.shut i hb with ha | hs
   ·exact .inl ha
   ·exact .inr fun u hu=>on_iff.2 (k.mono _ (on_iff.1 (hs u hu)))
  ·exact .inr hs
theorem marks_eq {asks:List (List Int)} {n:Nat} {l m:List Int} {R R':List Bool} (h:Marks asks (List.replicate n false) l R) (k:Marks asks (List.replicate n false) m R') (hlm : ∀ v,v∈l↔v∈m):R=R':=by
 have hf : ∀ i:Nat,(List.replicate n false)[i]? = some true→False:=fun i hi=>by
  have:=List.mem_of_getElem? hi
  rw [List.mem_replicate] at this
  cases this.2
 have key : ∀ {l m:List Int} {R R':List Bool},Marks asks (List.replicate n false) l R→Marks asks (List.replicate n false) m R'→(∀ v,v∈l→v∈m) → ∀ i:Nat,R[i]? = some true→R'[i]? = some true:=fun h k hlm =>
  h.least (fun i=>_=some true) (fun i hi=>(hf i hi).elim) (fun v hv=>on_iff.1 (k.all v (hlm v hv))) fun i hi u hu=>by
   rcases k.shut i hi with hn | hs
   ·exact (hf i hn).elim
   ·exact on_iff.1 (hs u hu)
 have hl:R.length=R'.length:=h.len.trans k.len.symm
 refine List.ext_getElem hl fun i h1 h2 => ?_
 have a:=key h k (fun v hv=>(hlm v).1 hv) i
 have b:=key k h (fun v hv=>(hlm v).2 hv) i
 rw [List.getElem?_eq_getElem h1,List.getElem?_eq_getElem h2] at a b
 simp only [Option.some.injEq] at a b
 exact Bool.eq_iff_iff.2 ⟨a,b⟩
end Ss

namespace Go.Vw
open Go.Proofs Go.RowKit
set_option maxRecDepth 10000
set_option maxHeartbeats 4000000
theorem RDominates_v (l:List Int) (a b:Int) (hl:l.length<2^63):VPure Tryz.prog 111 [vl vint l,vint a,vint b] (.bool (G.dominates l a b)):=by
 intro S
 refine vcalls_gives rfl ?_
 refine vcalls_body (c:=bodyOf Tryz.f111) Tryz.func111 rfl rfl (by simp [Tryz.ntmps111]) ?_
 rw [Tryz.ntmps111]
 repeat refine QS ?_
 refine QR (r:=by conv=>lhs;simp[-List.map_set,QV]) (k:=?_)
 refine QN ?_
 by_cases ha:G.okIx l a
 ·by_cases hb:G.okIx l b
  ·obtain ⟨ha1,ha2⟩:=ha
   obtain ⟨hb1,hb2⟩:=hb
   have e1 : ¬ a<0:=by omega
   have e2 : ¬ (l.length:Int)≤a:=by omega
   have e3 : ¬ b<0:=by omega
   have e4 : ¬ (l.length:Int)≤b:=by omega
   repeat refine QS ?_
   refine QR (r:=by conv=>lhs;simp[-List.map_set,QV,opLen_vl,e1,e2,e3,e4]) (k:=?_)
   refine QN ?_
   repeat refine QS ?_
   refine vw_condF rfl rfl rfl ?_
   repeat refine QS ?_
   refine vw_skipAt rfl ?_
   repeat refine QS ?_
   refine QR (r:=by conv=>lhs;simp[-List.map_set,QV]) (k:=?_)
   refine QN ?_
   repeat refine QS ?_
   refine vw_blockAt 0 rfl rfl ?_
   repeat refine QS ?_
   refine vw_loopAt [0,1,2,7] rfl (fun n σ S' => ∃ (k:Nat) (c:Int),k≤257∧n=257-k∧G.okIx l c∧G.dom1 l a (257-k) c=G.dom1 l a 257 b∧σ=[(0,vl vint l),(1,vint a),(2,vint c),(7,vnat k)]∧S'=S) 257 ?_ ?_
   ·exact ⟨0,b,by omega,rfl,⟨hb1,hb2⟩,rfl,by simp [Fr.only,Fr.look,vnat,vint],rfl⟩
   ·rintro n σ S' ⟨k,c,hk,rfl,hc,hd,rfl,rfl⟩
    have hfin:G.dominates l a b=G.dom1 l a 257 b:=by simp [G.dominates,G.okIx,ha1,ha2]
    obtain ⟨hc1,hc2⟩:=hc
    have hcn:c.toNat<l.length:=by omega
    repeat refine QS ?_
    refine QR (r:=by conv=>lhs;simp[-List.map_set,QV]) (k:=?_)
    refine QN ?_
    repeat refine QS ?_
    refine vw_condRun rfl rfl rfl (k≤256) (by first | (simp; done) | (simp; omega)) ?_ ?_
    ·intro hk6
     have hst:G.dom1 l a (257-k) c=if a=c then true else G.dom1 l a (256-k) (l[c.toNat]):=by
      rw [show 257-k=(256-k)+1 from by omega,G.dom1,if_pos ⟨hc1,hc2⟩]
      simp [hcn]
     repeat refine QS ?_
     refine vw_skipAt rfl ?_
     repeat refine QS ?_
     refine vw_blockAt 1 rfl rfl ?_
     repeat refine QS ?_
     refine QR (r:=by conv=>lhs;simp[-List.map_set,QV]) (k:=?_)
     refine QN ?_
     repeat refine QS ?_
     refine vw_condRun rfl rfl rfl (a=c) (by first | (simp; done) | (simp; omega)) ?_ ?_
     ·intro hac
      repeat refine QS ?_
      refine QR (r:=by conv=>lhs;simp[-List.map_set,QV]) (k:=?_)
      refine QN ?_
      repeat refine QS ?_
      refine vw_retAt rfl ?_
      rw [hfin, ←hd,hst,if_pos hac]
      exact Gives.same (Agree.refl S')
     ·intro hac
      rw [if_neg hac] at hst
      repeat refine QS ?_
      refine vw_skipAt rfl ?_
      repeat refine QS ?_
      refine QR (r:=by conv=>lhs;simp[-List.map_set,QV,opIndex_vlz,hc1,hcn]) (k:=?_)
      refine QN ?_
      have fls : ¬ G.okIx l l[c.toNat]→G.dom1 l a (256-k) l[c.toNat]=false:=by
       intro h
       cases 256-k<;>simp [G.dom1,h]
      by_cases hx:l[c.toNat]<0
      ·repeat refine QS ?_
       refine QR (r:=by conv=>lhs;simp[-List.map_set,QV,opLen_vl,hx]) (k:=?_)
       refine QN ?_
       repeat refine QS ?_
       refine vw_condT rfl rfl rfl ?_
       repeat refine QS ?_
       refine QR (r:=by conv=>lhs;simp[-List.map_set,QV]) (k:=?_)
       refine QN ?_
       repeat refine QS ?_
       refine vw_retAt rfl ?_
       rw [hfin, ←hd,hst,fls (by simp [G.okIx]; omega)]
       exact Gives.same (Agree.refl S')
      ·by_cases hy:(l.length:Int)≤l[c.toNat]
       ·repeat refine QS ?_
        refine QR (r:=by conv=>lhs;simp[-List.map_set,QV,opLen_vl,hx,hy]) (k:=?_)
        refine QN ?_
        repeat refine QS ?_
        refine vw_condT rfl rfl rfl ?_
        repeat refine QS ?_
        refine QR (r:=by conv=>lhs;simp[-List.map_set,QV]) (k:=?_)
        refine QN ?_
        repeat refine QS ?_
        refine vw_retAt rfl ?_
        rw [hfin, ←hd,hst,fls (by simp [G.okIx]; omega)]
        exact Gives.same (Agree.refl S')
       ·repeat refine QS ?_
        refine QR (r:=by conv=>lhs;simp[-List.map_set,QV,opLen_vl,hx,hy]) (k:=?_)
        refine QN ?_
        repeat refine QS ?_
        refine vw_condF rfl rfl rfl ?_
        repeat refine QS ?_
        refine vw_skipAt rfl ?_
        have hw:IntKind.i64.wrap ((k:Int)+1)=(k:Int)+1:=wrap_i64 (by omega) (by omega)
        repeat refine QS ?_
        refine QR (r:=by conv=>lhs;simp[-List.map_set,QV,hw]) (k:=?_)
        refine QN ?_
        exact again ⟨Nat.sub_lt_sub_left (by omega) (Nat.lt_succ_self k),k+1,l[c.toNat],by omega,rfl,⟨by omega,by omega⟩,by rw [←hd,hst]; congr 1; omega,by simp [Fr.only,Fr.look,vnat,vint],rfl⟩
    ·intro hk6
     repeat refine QS ?_
     refine vw_exitAt 0 rfl rfl ?_
     repeat refine QS ?_
     refine QR (r:=by conv=>lhs;simp[-List.map_set,QV]) (k:=?_)
     refine QN ?_
     repeat refine QS ?_
     refine vw_retAt rfl ?_
     rw [hfin, ←hd,show 257-k=0 from by omega]
     exact Gives.same (Agree.refl S')
  ·have hfin:G.dominates l a b=false:=by simp [G.dominates,G.dom1,hb]
   obtain ⟨ha1,ha2⟩:=ha
   have e1 : ¬ a<0:=by omega
   have e2 : ¬ (l.length:Int)≤a:=by omega
   rw [hfin]
   by_cases e3:b<0
   ·repeat refine QS ?_
    refine QR (r:=by conv=>lhs;simp[-List.map_set,QV,opLen_vl,e1,e2,e3]) (k:=?_)
    refine QN ?_
    repeat refine QS ?_
    refine vw_condT rfl rfl rfl ?_
    repeat refine QS ?_
    refine QR (r:=by conv=>lhs;simp[-List.map_set,QV]) (k:=?_)
    refine QN ?_
    repeat refine QS ?_
    refine vw_retAt rfl ?_
    exact Gives.same (Agree.refl S)
   ·have e4:(l.length:Int)≤b:=by simp [G.okIx] at hb; omega
    repeat refine QS ?_
    refine QR (r:=by conv=>lhs;simp[-List.map_set,QV,opLen_vl,e1,e2,e3,e4]) (k:=?_)
    refine QN ?_
    repeat refine QS ?_
    refine vw_condT rfl rfl rfl ?_
    repeat refine QS ?_
    refine QR (r:=by conv=>lhs;simp[-List.map_set,QV]) (k:=?_)
    refine QN ?_
    repeat refine QS ?_
    refine vw_retAt rfl ?_
    exact Gives.same (Agree.refl S)
 ·have hfin:G.dominates l a b=false:=by simp [G.dominates,ha]
  rw [hfin]
  by_cases e1:a<0
  ·repeat refine QS ?_
   refine QR (r:=by conv=>lhs;simp[-List.map_set,QV,opLen_vl,e1]) (k:=?_)
   refine QN ?_
   repeat refine QS ?_
   refine vw_condT rfl rfl rfl ?_
   repeat refine QS ?_
   refine QR (r:=by conv=>lhs;simp[-List.map_set,QV]) (k:=?_)
   refine QN ?_
   repeat refine QS ?_
   refine vw_retAt rfl ?_
   exact Gives.same (Agree.refl S)
  ·have e2:(l.length:Int)≤a:=by simp [G.okIx] at ha; omega
   repeat refine QS ?_
   refine QR (r:=by conv=>lhs;simp[-List.map_set,QV,opLen_vl,e1,e2]) (k:=?_)
   refine QN ?_
   repeat refine QS ?_
   refine vw_condT rfl rfl rfl ?_
   repeat refine QS ?_
   refine QR (r:=by conv=>lhs;simp[-List.map_set,QV]) (k:=?_)
   refine QN ?_
   repeat refine QS ?_
   refine vw_retAt rfl ?_
   exact Gives.same (Agree.refl S)
end Go.Vw

namespace Go.Vw
open Go.Proofs Go.RowKit
set_option maxRecDepth 10000
set_option maxHeartbeats 4000000
theorem there_v (l:List Int) (n:Int):VPure Tryz.prog 140 [vint n, .ref (vl vint l)] (.bool (decide (G.okIx l n))):=by
 intro S
 refine vcalls_gives rfl ?_
 refine vcalls_body (c:=bodyOf Tryz.f140) Tryz.func140 rfl rfl (by simp [Tryz.ntmps140]) ?_
 rw [Tryz.ntmps140]
 repeat refine QS ?_
 refine QR (r:=by conv=>lhs;simp[-List.map_set,QV]) (k:=?_)
 refine QN ?_
 by_cases h0:0≤n
 ·repeat refine QS ?_
  refine QR (r:=by conv=>lhs;simp[-List.map_set,QV,opLen_vl,h0]) (k:=?_)
  refine QN ?_
  repeat refine QS ?_
  refine vw_retAt rfl ?_
  have:decide (G.okIx l n)=decide (n<(l.length:Int)):=by simp [G.okIx,h0]
  rw [this]
  exact Gives.same (Agree.refl S)
 ·repeat refine QS ?_
  refine QR (r:=by conv=>lhs;simp[-List.map_set,QV,opLen_vl,h0]) (k:=?_)
  refine QN ?_
  repeat refine QS ?_
  refine vw_retAt rfl ?_
  have:decide (G.okIx l n)=false:=by simp [G.okIx,h0]
  rw [this]
  exact Gives.same (Agree.refl S)
theorem Dominates_v (l:List Int) (a b:Int) (hl:l.length<2^63):VPure Tryz.prog 130 [vl vint l,vint a,vint b] (.bool (G.dominates l a b)):=by
 intro S
 refine vcalls_gives rfl ?_
 refine vcalls_body (c:=bodyOf Tryz.f130) Tryz.func130 rfl rfl (by simp [Tryz.ntmps130]) ?_
 rw [Tryz.ntmps130]
 repeat refine QS ?_
 refine QR (r:=by conv=>lhs;simp[-List.map_set,QV]) (k:=?_)
 refine QN ?_
 refine vw_ghost' 3 rfl (Ghost.box (get_add _ _) (closed1_vl _ _)) (by conv=>lhs; simp [Fr.set]) ?_
 have hag:Agree S ((S.add (1,[vl vint l])).del S.nx):=((Agree.refl S).add _).del (Nat.le_refl _)
 generalize (S.add (1,[vl vint l])).del S.nx=S1 at hag ⊢
 repeat refine QS ?_
 refine QR (r:=by conv=>lhs;simp[-List.map_set,QV]) (k:=?_)
 refine QN ?_
 repeat refine QS ?_
 refine QR (r:=by conv=>lhs;simp[-List.map_set,QV]) (k:=?_)
 refine vcallv_use rfl rfl rfl (there_v l a) ?_
 refine QM (by conv=>lhs;simp[-List.map_set,QV]) ?_
 refine QN ?_
 by_cases ha:G.okIx l a
 ·have hfin:G.dominates l a b=G.dom1 l a 257 b:=by simp [G.dominates,ha]
  rw [hfin]
  refine vw_condF rfl rfl (by simp [ev,Fr.look,ha]) ?_
  repeat refine QS ?_
  refine vw_skipAt rfl ?_
  repeat refine QS ?_
  refine QR (r:=by conv=>lhs;simp[-List.map_set,QV]) (k:=?_)
  refine QN ?_
  repeat refine QS ?_
  refine vw_blockAt 0 rfl rfl ?_
  repeat refine QS ?_
  refine vw_loopAt [0,1,2,3,7,8] rfl (fun n σ S' => ∃ (k:Nat) (c:Int),k≤257∧n=257-k∧G.dom1 l a (257-k) c=G.dom1 l a 257 b∧σ=[(0,vl vint l),(1,vint a),(2,vint c),(3, .ref (vl vint l)),(7, .func 140 [.ref (vl vint l)]),(8,vnat k)]∧S'=S1) 257 ?_ ?_
  ·exact ⟨0,b,by omega,rfl,rfl,by simp [Fr.only,Fr.look,vnat,vint],rfl⟩
  ·rintro n σ S' ⟨k,c,hk,rfl,hd,rfl,rfl⟩
   by_cases hk6:k≤256
   ·have hst:G.dom1 l a (257-k) c=if G.okIx l c then (if a=c then true else G.dom1 l a (256-k) (l.getD c.toNat 0)) else false:=by
     rw [show 257-k=(256-k)+1 from by omega,G.dom1]
    have h7:(k:Int)≤256:=by omega
    repeat refine QS ?_
    refine QR (r:=by conv=>lhs;simp[-List.map_set,QV,h7]) (k:=?_)
    refine vcallv_use rfl rfl rfl (there_v l c) ?_
    refine QM (by conv=>lhs;simp[-List.map_set,QV]) ?_
    refine QN ?_
    by_cases hc:G.okIx l c
    ·refine vw_condT rfl rfl (by simp [ev,Fr.look,hc]) ?_
     rw [if_pos hc] at hst
     obtain ⟨hc1,hc2⟩:=hc
     have hcn:c.toNat<l.length:=by omega
     repeat refine QS ?_
     refine vw_skipAt rfl ?_
     repeat refine QS ?_
     refine vw_blockAt 1 rfl rfl ?_
     repeat refine QS ?_
     refine QR (r:=by conv=>lhs;simp[-List.map_set,QV]) (k:=?_)
     refine QN ?_
     repeat refine QS ?_
     refine vw_condRun rfl rfl rfl (a=c) (by first | (simp; done) | (simp; omega)) ?_ ?_
     ·intro hac
      repeat refine QS ?_
      refine QR (r:=by conv=>lhs;simp[-List.map_set,QV]) (k:=?_)
      refine QN ?_
      repeat refine QS ?_
      refine vw_retAt rfl ?_
      rw [←hd,hst,if_pos hac]
      exact Gives.same hag
     ·intro hac
      rw [if_neg hac] at hst
      have hw:IntKind.i64.wrap ((k:Int)+1)=(k:Int)+1:=wrap_i64 (by omega) (by omega)
      repeat refine QS ?_
      refine vw_skipAt rfl ?_
      repeat refine QS ?_
      refine QR (r:=by conv=>lhs;simp[-List.map_set,QV,opIndex_vlz,hc1,hcn]) (k:=?_)
      refine QN ?_
      repeat refine QS ?_
      refine QR (r:=by conv=>lhs;simp[-List.map_set,QV,hw]) (k:=?_)
      refine QN ?_
      exact again ⟨Nat.sub_lt_sub_left (by omega) (Nat.lt_succ_self k),k+1,l[c.toNat],by omega,rfl,by rw [←hd,hst,show 257-(k+1)=256-k from by omega]; simp [hcn],by simp [Fr.only,Fr.look,vnat,vint],rfl⟩
    ·refine vw_condF rfl rfl (by simp [ev,Fr.look,hc]) ?_
     repeat refine QS ?_
     refine vw_exitAt 0 rfl rfl ?_
     repeat refine QS ?_
     refine QR (r:=by conv=>lhs;simp[-List.map_set,QV]) (k:=?_)
     refine QN ?_
     repeat refine QS ?_
     refine vw_retAt rfl ?_
     rw [←hd,hst,if_neg hc]
     exact Gives.same hag
   ·have h7 : ¬ (k:Int)≤256:=by omega
    repeat refine QS ?_
    refine QR (r:=by conv=>lhs;simp[-List.map_set,QV,h7]) (k:=?_)
    refine QN ?_
    repeat refine QS ?_
    refine vw_condF rfl rfl rfl ?_
    repeat refine QS ?_
    refine vw_exitAt 0 rfl rfl ?_
    repeat refine QS ?_
    refine QR (r:=by conv=>lhs;simp[-List.map_set,QV]) (k:=?_)
    refine QN ?_
    repeat refine QS ?_
    refine vw_retAt rfl ?_
    rw [←hd,show 257-k=0 from by omega]
    exact Gives.same hag
 ·have hfin:G.dominates l a b=false:=by simp [G.dominates,ha]
  rw [hfin]
  refine vw_condT rfl rfl (by simp [ev,Fr.look,ha]) ?_
  repeat refine QS ?_
  refine QR (r:=by conv=>lhs;simp[-List.map_set,QV]) (k:=?_)
  refine QN ?_
  repeat refine QS ?_
  refine vw_retAt rfl ?_
  exact Gives.same hag
end Go.Vw

/-
 Graphs that may be: lists of lists of numbers of nodes.
-/
namespace Go.Vw.G
open Go.Vw
structure Ok (g:List (List Nat)):Prop where
 pos:1≤g.length
 max:g.length≤256
 row : ∀ l∈g,l.length≤128
 elt : ∀ l∈g, ∀ n∈l,n<g.length
def nats (g:List (List Int)):List (List Nat):=g.map (·.map Int.toNat)
theorem nats_length (g:List (List Int)):(nats g).length=g.length:=by simp [nats]
theorem rowOk_iff {n:Nat} {l:List Int}:rowOk n l=true↔l.length≤128 ∧ ∀ x∈l,0≤x∧x<n:=by
 simp only [rowOk,Bool.and_eq_true,decide_eq_true_eq,Bool.not_eq_true',List.any_eq_false,wild,Bool.or_eq_true,not_or,decide_eq_true_eq]
 constructor
 ·rintro ⟨h1,h2⟩; exact ⟨h1,fun x hx=>by have:=h2 x hx; omega⟩
 ·rintro ⟨h1,h2⟩; exact ⟨h1,fun x hx=>by have:=h2 x hx; omega⟩
theorem right_ok {g:List (List Int)} (h:right g=true):Ok (nats g):=by
 simp only [right,Bool.and_eq_true,decide_eq_true_eq,List.all_eq_true,rowOk_iff] at h
 obtain ⟨⟨h1,h2⟩,h3⟩:=h
 refine ⟨by rw [nats_length]; exact h1,by rw [nats_length]; exact h2, ?_, ?_⟩
 ·intro l hl
  obtain ⟨r,hr,rfl⟩:=List.mem_map.1 hl
  rw [List.length_map]; exact (h3 r hr).1
 ·intro l hl n hn
  obtain ⟨r,hr,rfl⟩:=List.mem_map.1 hl
  obtain ⟨x,hx,rfl⟩:=List.mem_map.1 hn
  have:=(h3 r hr).2 x hx
  rw [nats_length]; omega
theorem right_enc {g:List (List Int)} (h:right g=true):vl (vl vint) g=vl (vl vnat) (nats g):=by
 simp only [right,Bool.and_eq_true,decide_eq_true_eq,List.all_eq_true,rowOk_iff] at h
 obtain ⟨_,h3⟩:=h
 unfold vl nats
 simp only [V.list.injEq,List.map_map]
 refine List.map_congr_left fun r hr => ?_
 simp only [Function.comp,List.map_map,V.list.injEq]
 refine List.map_congr_left fun x hx => ?_
 have:=(h3 r hr).2 x hx
 simp only [Function.comp,vint,vnat,V.int.injEq,true_and]
 omega
abbrev WS:=List Bool × List Nat
def walk (g:List (List Nat)):Nat→Nat→WS→Option WS
 | 0,_,_=>none
 | f+1,n,s=>((g.getD n []).foldlM (fun (s:WS) k=>if s.1.getD k false then some s else walk g f k s) ((s.1.set n true,s.2):WS)).map fun (s:WS)=>((s.1,s.2++[n]):WS)
def kids (g:List (List Nat)) (f:Nat) (l:List Nat) (s:WS):Option WS:=l.foldlM (fun (s:WS) k=>if s.1.getD k false then some s else walk g f k s) s
theorem walk_succ (g:List (List Nat)) (f n:Nat) (s:WS):walk g (f+1) n s=(kids g f (g.getD n []) (s.1.set n true,s.2)).map fun s=>(s.1,s.2++[n]):=rfl
theorem kids_nil (g:List (List Nat)) (f:Nat) (s:WS):kids g f [] s=some s:=rfl
theorem kids_cons (g:List (List Nat)) (f k:Nat) (l:List Nat) (s:WS):kids g f (k::l) s=if s.1.getD k false then kids g f l s else (walk g f k s).bind (kids g f l):=by
 simp only [kids,List.foldlM_cons]
 cases s.1.getD k false
 ·simp; rfl
 ·simp
theorem kids_len {g:List (List Nat)} {f:Nat} (ih : ∀ n s s',walk g f n s=some s'→s.2.length≤s'.2.length∧s'.1.length=s.1.length) : ∀ (l:List Nat) (s s':WS),kids g f l s=some s'→s.2.length≤s'.2.length∧s'.1.length=s.1.length
 | [],s,s',h=>by cases h; exact ⟨Nat.le_refl _,rfl⟩
 | k::l,s,s',h=>by
  rw [kids_cons] at h
  split at h
  ·exact kids_len ih l s s' h
  ·obtain ⟨t,h1,h2⟩:=Option.bind_eq_some_iff.1 h
   have a:=ih _ _ _ h1
   have b:=kids_len ih l t s' h2
   omega
theorem walk_len (g:List (List Nat)) : ∀ (f n:Nat) (s s':WS),walk g f n s=some s'→s.2.length≤s'.2.length∧s'.1.length=s.1.length
 | 0,n,s,s',h=>by cases h
 | f+1,n,s,s',h=>by
  rw [walk_succ] at h
  obtain ⟨t,h1,rfl⟩:=Option.map_eq_some_iff.1 h
  have:=kids_len (walk_len g f) _ _ _ h1
  simp at this ⊢
  omega
end Go.Vw.G
