import Derived.Test.YtkfllaokjaldnaaGreatC12
import Derived.Test.YtkfllaokjaldnaaGreatC13
/-
  Part of the proof (texts SSucc, VDeep, VNil, SNum).
-/
set_option linter.unusedVariables false
set_option linter.unusedSimpArgs false
namespace Ss
def rowOf (b:Block):List Int:=b.term.to.map Edge.to
def succs (bs:List Block):List (List Int):=bs.map rowOf
end Ss
namespace Go.Vw
open Go.Proofs Go.RowKit
set_option maxRecDepth 10000
set_option maxHeartbeats 4000000
theorem count_mem : ∀ {bs:List Ss.Block} {b:Ss.Block},b∈bs→b.code.length≤Ss.count bs
 | x::bs,b,h=>by
  simp only [Ss.count,List.map_cons,List.sum_cons];rcases List.mem_cons.1 h with rfl | h
  ·omega
  ·have:=count_mem h;simp only [Ss.count] at this;omega
theorem qd {f:Ss.Fn} (h:f.small=true):f.types.length≤4096∧f.blocks.length≤4096∧(∀ b∈f.blocks,b.params.length≤4096∧b.term.to.length≤4096∧b.term.args.length≤4096∧b.code.length≤4096)∧Ss.count f.blocks≤4096:=by
 obtain ⟨h1,h2,h3⟩:=(Ss.small_iff f).1 h;simp only [Ss.Fn.heads,Bool.and_eq_true,decide_eq_true_eq] at h1;refine ⟨h1.1.1.1,h1.1.1.2,fun b hb => ?_,h3⟩;have:=h2 b hb;simp only [Ss.Block.small,Bool.and_eq_true,decide_eq_true_eq] at this;refine ⟨this.1.1.1.1,this.1.1.1.2,this.1.1.2, ?_⟩;exact Nat.le_trans (count_mem hb) h3
theorem Succ_v (f:Ss.Fn) (hf:f.Fits):VPure Tryz.prog 26 [qD f] (vl (vl vint) (if f.small then Ss.succs f.blocks else [])):=by
 intro S;have cs:=jbQ f hf;have hsb := @qd f;generalize f.small=sm at *
 obtain ⟨⟨fi,fo⟩,ts,bs⟩:=f;have cs':VPure Tryz.prog 64 [.agg [vl vint fi,vl vint fo,vl vint ts,vl jd bs]] (.bool sm):=cs
 by_cases hs:sm=true
 case neg =>
  rw [if_neg hs];have hs':sm=false:=by simpa using hs
  refine jb (c:=jg Tryz.f26) Tryz.func26 rfl rfl (by simp [Tryz.ntmps26]) ?_;rw [Tryz.ntmps26];intro hwf
  repeat first|refine QG ?_|refine QY ?_
  repeat refine QS ?_
  refine QP ?_;refine jc (cs') (by rfl) ?_;refine QM (by conv=>lhs;simp[-List.map_set,QV,hs']) ?_;refine QN ?_
  repeat first|refine QG ?_|refine QY ?_
  exact ji (l:=[_]) hwf (Ghost.toB (Ghost.nils_list _) _) rfl
 rw [if_pos hs];obtain ⟨_,hbl,hbf,_⟩:=hsb hs;simp only at hbl hbf ⊢;refine jb (c:=jg Tryz.f26) Tryz.func26 rfl rfl (by simp [Tryz.ntmps26]) ?_;rw [Tryz.ntmps26];intro hwf
 repeat first|refine QG ?_|refine QY ?_
 repeat refine QS ?_
 refine QP ?_;refine jc (cs') (by rfl) ?_;refine QM (by conv=>lhs;simp[-List.map_set,QV,hs]) ?_;refine QN ?_
 repeat refine QS ?_
 refine jI rfl rfl rfl ?_
 repeat refine QS ?_
 refine jD rfl ?_
 repeat refine QS ?_
 refine QY ?_;refine qW 3 1 rfl (by conv=>lhs; simp [Fr.set]) ?_
 repeat first|refine QG ?_|refine QY ?_
 refine jE [3,13,14,15] (by conv=>lhs; simp [Fr.only,Fr.look]) ?_;refine zp [1] hwf (by decide) (by simp [-List.map_set]) (by conv=>lhs; simp [-List.map_set]) (by conv=>lhs; simp [-List.map_set]) (by conv=>lhs; simp [-List.map_set]) ?_
 repeat refine QS ?_
 refine je [3,13,14,15] rfl (fun c σ S' => ∃ (k:Nat) (out:List (List Int)),k≤bs.length∧c=bs.length-k∧out.length=k∧out=(bs.take k).map Ss.rowOf∧σ=[(3, .slice (lid S.nx 0) 0 k),(13,vl jd bs),(14,vnat bs.length),(15,vnat k)]∧S'=St S [] [some (1,out.map (vl vint))]) bs.length ?_ ?_
 ·exact ⟨0,[],by omega,rfl,rfl,by simp,by simp [Fr.only],by simp⟩
 ·rintro c σ T ⟨k,out,hk,rfl,hol,ho,rfl,rfl⟩
  by_cases hkt:k<bs.length
  ·have hw:=jo hkt (by omega);obtain ⟨_,htl,_,_⟩:=hbf _ (List.getElem_mem hkt);obtain ⟨⟨ps,code,⟨tk,ta,to,az⟩⟩,hx⟩ : ∃ b,bs[k]=b:=⟨_,rfl⟩
   rw [hx] at htl;simp only at htl;have htk:bs.take (k+1)=bs.take k++[⟨ps,code,⟨tk,ta,to,az⟩⟩]:=by rw [List.take_add_one,List.getElem?_eq_getElem hkt,hx]; rfl
   repeat refine QS ?_
   refine QY ?_ (r:=by conv=>lhs;simp[-List.map_set,QV,hkt])
   repeat refine QS ?_
   refine jH rfl rfl rfl ?_
   repeat refine QS ?_
   refine jD rfl ?_
   repeat refine QS ?_
   refine jL 1 rfl rfl ?_
   repeat refine QS ?_
   refine QY ?_ (r:=by conv=>lhs;simp[-List.map_set,QV,hkt,hx])
   repeat refine QS ?_
   refine QY ?_;refine qW 6 1 rfl (by conv=>lhs; simp [Fr.set]) ?_
   repeat first|refine QG ?_|refine QY ?_
   refine jE [3,6,13,14,15,21,22,23] (by conv=>lhs; simp [Fr.only,Fr.look]) ?_;refine zp [0,2] hwf (by decide) (by simp [-List.map_set]) (by conv=>lhs; simp [-List.map_set]) (by conv=>lhs; simp [-List.map_set]) (by conv=>lhs; simp [-List.map_set]) ?_
   repeat refine QS ?_
   refine je [3,6,13,14,15,21,22,23] rfl (fun c σ S' => ∃ (j:Nat) (r:List Int),j≤to.length∧c=to.length-j∧r.length=j∧r=(to.take j).map Ss.Edge.to∧σ=[(3, .slice (lid S.nx 0) 0 k),(6, .slice (lid S.nx 1) 0 j),(13,vl jd bs),(14,vnat bs.length),(15,vnat k),(21,vl jk to),(22,vnat to.length),(23,vnat j)]∧S'=St S [] [some (1,out.map (vl vint)),some (1,r.map vint)]) to.length ?_ ?_
   ·exact ⟨0,[],by omega,rfl,rfl,by simp,by simp [Fr.only],by simp⟩
   ·rintro c σ T ⟨j,r,hj,rfl,hrl,hr,rfl,rfl⟩
    by_cases hjt:j<to.length
    ·have hwj:=jo hjt (by omega);have hb:(j+1)*8≤140737488355328:=by omega
     have hb':j+1≤140737488355328:=by omega
     obtain ⟨⟨xt,xa⟩,hx2⟩ : ∃ b,to[j]=b:=⟨_,rfl⟩
     have htj:to.take (j+1)=to.take j++[⟨xt,xa⟩]:=by rw [List.take_add_one,List.getElem?_eq_getElem hjt,hx2]; rfl
     repeat first|refine QG ?_|refine QY ?_ (r:=by conv=>lhs;simp[-List.map_set,QV,hjt,hx2,hb,hb',hrl])
     refine QA [0,4] (h:=⟨?_,j+1,r++[xt],hjt,rfl,by simp [hrl],by rw [htj,List.map_append,hr]; rfl,by simp [hwj],by simp⟩);omega
    ·have hje:j=to.length:=by omega
     subst hje;rw [List.take_length] at hr;have hb:(k+1)*24≤140737488355328:=by omega
     have hb':k+1≤140737488355328:=by omega
     repeat refine QS ?_
     refine QY ?_ (r:=by conv=>lhs;simp[-List.map_set,QV,hjt])
     repeat refine QS ?_
     refine jI rfl rfl rfl ?_
     repeat refine QS ?_
     refine jP 2 rfl rfl ?_;refine jz 6 rfl ((frz1 (k:=1) (len:=to.length) (by simp) (by rfl) (jG vint (fun _=>rfl) _) (by simpa using hrl))) (by conv=>lhs; simp [Fr.set]) ?_;simp only [List.set_cons_succ,List.set_cons_zero]
     repeat first|refine QG ?_|refine QY ?_ (r:=by conv=>lhs;simp[-List.map_set,QV,hb,hb',hol])
     refine QA [3] (h:=⟨?_,k+1,out++[r],hkt,rfl,by simp [hol],by rw [htk,List.map_append, ←ho,hr]; rfl,by simp [hw],by simp [vl]⟩);omega
  ·have hke:k=bs.length:=by omega
   subst hke;rw [List.take_length] at ho
   repeat first|refine QG ?_|refine QY ?_ (r:=by conv=>lhs;simp[-List.map_set,QV,hkt])
   rw [Ss.succs, ←ho];exact ji hwf ((frz1 (by simp) (by rfl) (jG (vl vint) (fun _=>rfl) _) (by simpa using hol)).toB _) rfl
end Go.Vw

/-
 What is owned in depth: values of one's own that read as immutable ones; stores that become the base of others.
-/
namespace Go.Vw
open Go.RowKit
section
variable {P:Program} {N b b':Nat} {Q:Exit→Fr→Store→Prop} {σ σ':Fr} {S S':Store}
theorem ExtB.weak {m m':Imm} {β β':Objs} {w w':World} (h:b≤b') (k:ExtB b' m β w m' β' w'):ExtB b m β w m' β' w' :=
 ⟨k.imm,fun o ho=>k.step o (Nat.lt_of_lt_of_le ho h),k.size,k.keep,k.os,k.tape,k.output⟩
theorem Yh {c:Code} (h:b≤b') (k:VWp P N b' c Q σ S):VWp P N b c Q σ S :=
 fun m β w a hS hF=>wp_mono (k m β w a hS hF) fun e a' w' ⟨σ',S',m',β',q,r1,r2,r3⟩=>⟨σ',S',m',β',q,r1,r2,r3.weak h⟩
theorem Reach.weak (h:b≤b') (k:Reach N b' σ S σ' S'):Reach N b σ S σ' S':=fun m β w a hS hF=>by
 obtain ⟨m',β',h1,h2,h3⟩:=k m β w a hS hF;exact ⟨m',β',h1,h2,h3.weak h⟩
theorem KP {I:Nat→Fr→Store→Prop} {ks:List Nat} {n:Nat} (h:b≤b') (k:jx N b' I ks n σ S):jx N b I ks n σ S:=by
 obtain ⟨n',h1,σc,Sc,h2,h3⟩:=k;exact ⟨n',h1,σc,Sc,h2.weak h,h3⟩
end
theorem qy (b j k:Nat):lid (lid b j) k=lid b (j+k):=by simp [lid]; omega
theorem JC {B:Store} {u:Upds} {l m:List (Option (Nat × List V))}:St B u (l++m)=St (St B u l) [] m:=by
 refine Store.ext' (funext fun o => ?_) ?_
 ·have e:(St B u l).nx=B.nx+l.length:=by rw [jQ,lid]
  rw [Jj,Jj,e,Jj];simp only [uGet]
  by_cases h1:o<B.nx
  ·rw [if_pos h1,if_pos (by omega),if_pos h1]
  ·rw [if_neg h1]
   by_cases h2:o<B.nx+l.length
   ·rw [if_pos h2,if_neg h1,List.getElem?_append_left (by omega)]
   ·rw [if_neg h2,List.getElem?_append_right (by omega)]
    congr 2; omega
 ·rw [jQ,jQ,jQ,qy]; simp
theorem St_sink1 {B:Store} {u:Upds} {c:Option (Nat × List V)} {m:List (Option (Nat × List V))}:St B u (c::m)=St (St B u [c]) [] m:=JC (l:=[c])
mutual
theorem ids_mono {p q:Nat→Bool} (h : ∀ o,p o=true→q o=true) : ∀ x:V,x.ids p=true→x.ids q=true
 | .agg xs,hx=>by simp only [V.ids] at hx ⊢; exact WO h xs hx
 | .tuple xs,hx=>by simp only [V.ids] at hx ⊢; exact WO h xs hx
 | .func _ xs,hx=>by simp only [V.ids] at hx ⊢; exact WO h xs hx
 | .slice o _ _,hx=>by simp only [V.ids] at hx ⊢; exact h o hx
 | .ptr o _,hx=>by simp only [V.ids] at hx ⊢; exact h o hx
 | .map o,hx=>by simp only [V.ids] at hx ⊢; exact h o hx
 | .junk,_=>by simp [V.ids]
 | .bool _,_ | .int _ _,_ | .str _,_ | .nils,_ | .nilp,_ | .nilf,_ | .nilm,_ | .list _,_ | .ref _,_=>by simp [V.ids]
theorem WO {p q:Nat→Bool} (h : ∀ o,p o=true→q o=true) : ∀ xs:List V,V.idsL p xs=true→V.idsL q xs=true
 | [],_=>by simp [V.idsL]
 | x::xs,hx=>by
  simp only [V.idsL,Bool.and_eq_true] at hx ⊢;exact ⟨ids_mono h x hx.1,WO h xs hx.2⟩
end
theorem St_wf {B:Store} (hw:B.Wf) {l:List (Option (Nat × List V))} (h:l.all (fun c=>match c with | some c=>V.idsL (fun o=>decide (o<lid B.nx l.length)) c.2 | none=>true)=true):(St B [] l).Wf:=by
 refine ⟨fun o ho => ?_,fun o c hc => ?_⟩
 ·rw [jQ] at ho;simp only [lid] at ho;rw [Jj,if_neg (by omega),List.getElem?_eq_none (by omega)]; rfl
 ·rw [Jj] at hc;rw [jQ]
  by_cases h1:o<B.nx
  ·rw [if_pos h1] at hc;have:=hw.ids o c hc;simp only [zf,List.all_eq_true] at this ⊢;intro x hx;have h2:=this x hx;have hle:B.nx≤lid B.nx l.length:=by rw [lid]; omega
   exact ids_mono (fun o ho=>by rw [decide_eq_true_eq] at ho ⊢; exact Nat.lt_of_lt_of_le ho hle) x h2
  ·rw [if_neg h1] at hc;have hm:some c∈l:=by
    cases hl:l[o-B.nx]? with
    | none=>rw [hl] at hc; cases hc
    | some d=>rw [hl] at hc; simp only [Option.join_some] at hc; subst hc; exact List.mem_of_getElem? hl
   simp only [List.all_eq_true] at h;exact h _ hm
/-! ### Ownership -/
inductive Ty
 | c
 | s (tys:List Ty)
def reps (n:Nat) (tys:List Ty):List Ty:=(List.replicate n tys).flatten
theorem reps_zero (tys:List Ty):reps 0 tys=[]:=rfl
theorem zK (n:Nat) (tys:List Ty):reps (n+1) tys=tys++reps n tys:=by simp [reps,List.replicate_succ]
theorem WB (n:Nat) (tys:List Ty):reps (n+1) tys=reps n tys++tys:=by simp [reps,List.replicate_succ',List.flatten_append]
theorem jcc (n m:Nat) (tys:List Ty):reps (n+m) tys=reps n tys++reps m tys:=by
 induction n with
 | zero=>simp [reps]
 | succ n ih=>rw [Nat.add_right_comm,zK,zK,ih,List.append_assoc]
theorem zL (n:Nat) (tys:List Ty):(reps n tys).length=n*tys.length:=by
 induction n with
 | zero=>simp [reps]
 | succ n ih=>rw [zK,List.length_append,ih,Nat.succ_mul]; omega
inductive OwL (S:Store):List Ty→List V→List V→List Nat→Prop
 | nil:OwL S [] [] [] []
 | c {ts:List Ty} {rs xs:List V} {j:List Nat} {x:V} (h:x.closed1=true) (t:OwL S ts rs xs j):OwL S (.c::ts) (x::rs) (x::xs) j
 | s {tys ts:List Ty} {rs xs cells ys:List V} {i j:List Nat} {o:Nat} (h:S.get o=some (tys.length,cells)) (hs : ∀ y∈ys,y.cells.length=tys.length∧y.closed=true) (d:OwL S (reps ys.length tys) cells (ys.flatMap V.cells) i) (t:OwL S ts rs xs j) :
   OwL S (.s tys::ts) (.slice o 0 ys.length::rs) (.list ys::xs) (o::(i++j))
theorem OwL.len {S:Store} {ts:List Ty} {rs xs:List V} {ids:List Nat} (h:OwL S ts rs xs ids):rs.length=ts.length∧xs.length=ts.length:=by
 induction h with
 | nil=>exact ⟨rfl,rfl⟩
 | c _ _ ih=>simp [ih]
 | s _ _ _ _ _ ih=>simp [ih]
theorem OwL.mono {S S':Store} {ts:List Ty} {rs xs:List V} {ids:List Nat} (h:OwL S ts rs xs ids):(∀ o∈ids,S'.get o=S.get o)→OwL S' ts rs xs ids:=by
 induction h with
 | nil=>exact fun _ => .nil
 | c h _ ih=>exact fun hk => .c h (ih hk)
 | s h hs _ _ ih1 ih2=>exact fun hk => .s ((hk _ (by simp)).trans h) hs (ih1 fun o ho=>hk o (by simp [ho])) (ih2 fun o ho=>hk o (by simp [ho]))
theorem OwL.append {S:Store} {ts us:List Ty} {rs xs ps qs:List V} {i j:List Nat} (h:OwL S ts rs xs i) (k:OwL S us ps qs j):OwL S (ts++us) (rs++ps) (xs++qs) (i++j):=by
 induction h with
 | nil=>exact k
 | c h _ ih=>exact .c h ih
 | s h hs d _ _ ih=>simpa [List.append_assoc] using OwL.s h hs d ih
theorem OwL.split {S:Store} {us:List Ty} : ∀ {ts:List Ty} {rs xs:List V} {ids:List Nat},OwL S (ts++us) rs xs ids → ∃ r1 r2 x1 x2 i1 i2,rs=r1++r2∧xs=x1++x2∧ids=i1++i2∧OwL S ts r1 x1 i1∧OwL S us r2 x2 i2
 | [],rs,xs,ids,h=>⟨[],rs,[],xs,[],ids,rfl,rfl,rfl, .nil,h⟩
 | t::ts,rs,xs,ids,h=>by
  cases h with
  | c hc k =>
   obtain ⟨r1,r2,x1,x2,i1,i2,rfl,rfl,rfl,k1,k2⟩:=OwL.split k;exact ⟨_::r1,r2,_::x1,x2,i1,i2,rfl,rfl,rfl, .c hc k1,k2⟩
  | s ho hs d k =>
   obtain ⟨r1,r2,x1,x2,i1,i2,rfl,rfl,rfl,k1,k2⟩:=OwL.split k;exact ⟨_::r1,r2,_::x1,x2,_::(_++i1),i2,rfl,rfl,by simp, .s ho hs d k1,k2⟩
theorem OwL.closed {S:Store} {ts:List Ty} {rs xs:List V} {ids:List Nat} (h:OwL S ts rs xs ids) : ∀ x∈xs,x.closed1=true:=by
 induction h with
 | nil=>simp
 | c h _ ih=>intro x hx; rcases List.mem_cons.1 hx with rfl | hx; exact h; exact ih x hx
 | s _ _ _ _ _ ih=>intro x hx; rcases List.mem_cons.1 hx with rfl | hx; rfl; exact ih x hx
theorem OwL.alive {S:Store} {ts:List Ty} {rs xs:List V} {ids:List Nat} (h:OwL S ts rs xs ids) : ∀ o∈ids,(S.get o).isSome=true:=by
 induction h with
 | nil=>simp
 | c h _ ih=>exact ih
 | s h _ _ _ ih1 ih2 =>
  intro o ho;rcases List.mem_cons.1 ho with rfl | ho
  ·rw [h]; rfl
  ·rcases List.mem_append.1 ho with ho | ho
   ·exact ih1 o ho
   ·exact ih2 o ho
theorem OwL.cells {S:Store} {ts:List Ty} {rs xs:List V} {ids:List Nat} (h:OwL S ts rs xs ids) : ∀ r∈rs,r.closed1=true ∨ ∃ o n,r = .slice o 0 n:=by
 induction h with
 | nil=>simp
 | c h _ ih=>intro x hx; rcases List.mem_cons.1 hx with rfl | hx; exact .inl h; exact ih x hx
 | s _ _ _ _ _ ih=>intro x hx; rcases List.mem_cons.1 hx with rfl | hx; exact .inr ⟨_,_,rfl⟩; exact ih x hx
theorem OwL.all_c {S:Store} : ∀ {xs:List V},(∀ x∈xs,x.closed1=true)→OwL S (List.replicate xs.length .c) xs xs []
 | [],_ => .nil
 | x::xs,h => .c (h x (by simp)) (OwL.all_c fun y hy=>h y (by simp [hy]))
theorem repL_cons {m:Imm} {β:Objs} {x:V} {xs:List V} {vs:List Value} (h:RepL m β (x::xs) vs) : ∃ v r,vs=v::r∧Rep m β x v∧RepL m β xs r:=by
 cases vs with
 | nil=>have:=h.1; simp at this
 | cons v r=>exact ⟨v,r,rfl,h.2 0 x v rfl rfl,by have:=h.1; simpa using this,fun i y u hy hu=>h.2 (i+1) y u (by simpa using hy) (by simpa using hu)⟩
theorem jcr {S:Store} {o:Nat} {i:List Nat} {c:Nat × List V}:((S.dels i).upd o c).del o=S.dels (o::i):=by
 refine Store.ext' (funext fun o' => ?_) (by simp only [Store.del,Store.upd]; rw [jaH,jaH]);rw [zR,qp,Wn,Wn]
 by_cases h:o'=o<;>simp [h]
theorem dels_app (S:Store) (i j:List Nat):S.dels (i++j)=(S.dels i).dels j:=by simp [Store.dels,List.foldl_append]
theorem OwL.freeze {S0:Store} {ts:List Ty} {rs xs:List V} {ids:List Nat} (h:OwL S0 ts rs xs ids):ids.Nodup → ∀ S:Store,(∀ o∈ids,S.get o=S0.get o)→GhostArgs rs S xs (S.dels ids):=by
 induction h with
 | nil=>exact fun _ S _ m β w vs hS hr=>⟨m,β,hS,Ext.refl _ _ _,hr⟩
 | @c ts rs xs j x h _ ih =>
  intro hn S hk m β w vs hS hr;obtain ⟨v,r,rfl,h1,h2⟩:=repL_cons hr;obtain ⟨m',β',k1,k2,k3⟩:=ih hn S hk m β w r hS h2;exact ⟨m',β',k1,k2,k3.cons (k2.rep h1)⟩
 | @s tys ts rs xs cells ys i j o h hs d t ih1 ih2 =>
  intro hn S hk m β w vs hS hr;obtain ⟨v,r,rfl,h1,h2⟩:=repL_cons hr;obtain ⟨hno,hnij⟩:=List.nodup_cons.1 hn;obtain ⟨hni,hnj,hd⟩:=List.nodup_append.1 hnij;have hoi:o∉i:=fun h=>hno (by simp [h])
  have hoj:o∉j:=fun h=>hno (by simp [h])
  have hget:S.get o=some (tys.length,cells):=(hk o (by simp)).trans h
  -- the object's cells become immutable
  have step1 : ∃ m1 β1,Holds ((S.dels i).upd o (tys.length,ys.flatMap V.cells)) m1 β1 w∧Ext m β w m1 β1 w:=by
   have hl:=hS.live o _ hget;have hlen:cells.length=(ys.flatMap V.cells).length:=by rw [d.len.1,d.len.2]
   have hgi:(S.dels i).get o=some (tys.length,cells):=by rw [Wn,if_neg hoi]; exact hget
   cases hβ:β o with
   | fresh=>rw [hβ] at hl; exact hl.elim
   | dead=>rw [hβ] at hl; exact hl.elim
   | void =>
    rw [hβ] at hl;simp only [Live] at hl;subst hl;obtain ⟨m1,β1,k1,k2,_⟩:=ih1 hni S (fun o ho=>hk o (by simp [ho])) m β w [] hS (RepL.nil _ _);have e:ys.flatMap V.cells=[]:=List.eq_nil_of_length_eq_zero (by rw [←hlen]; rfl);rw [e];refine ⟨m1,β1, ?_,k2⟩;have:(S.dels i).upd o (tys.length,[])=S.dels i:=by
     refine Store.ext' (funext fun o' => ?_) rfl;rw [qp];split
     ·rename_i e'; subst e'; exact hgi.symm
     ·rfl
    rw [this]; exact k1
   | mp b' =>
    rw [hβ] at hl;obtain ⟨es,clock,e1,e2,e3⟩:=hl;have hz:cells=[]:=by
     cases cells with
     | nil=>rfl
     | cons c0 cr =>
      exfalso
      have hi2:0<es.size:=by simp only [List.length_cons] at e2; omega
      obtain ⟨k,v,e4,_⟩:=e3 0 c0 es[0] rfl (Array.getElem?_eq_getElem hi2);subst e4;rcases d.cells _ (List.mem_cons_self) with h | ⟨_,_,h⟩
      ·simp [V.closed1] at h
      ·cases h
    subst hz;obtain ⟨m1,β1,k1,k2,_⟩:=ih1 hni S (fun o ho=>hk o (by simp [ho])) m β w [] hS (RepL.nil _ _);have e:ys.flatMap V.cells=[]:=List.eq_nil_of_length_eq_zero (by rw [←hlen]; rfl);rw [e];refine ⟨m1,β1, ?_,k2⟩;have:(S.dels i).upd o (tys.length,[])=S.dels i:=by
     refine Store.ext' (funext fun o' => ?_) rfl;rw [qp];split
     ·rename_i e'; subst e'; exact hgi.symm
     ·rfl
    rw [this]; exact k1
   | lies b base s n =>
    rw [hβ] at hl;obtain ⟨h0,arr,T,e1,e2,e3,e4⟩:=hl;simp only at e3 e4;have hvs:RepL m β cells ((List.range cells.length).map fun q=>arr.getD (base+q) undef):=by
     refine ⟨by simp,fun q x u hx hu => ?_⟩;obtain ⟨u',f1,f2,_⟩:=e4 q x hx;have hq:q<cells.length:=(List.getElem?_eq_some_iff.1 hx).1;simp only [List.getElem?_map,List.getElem?_range hq,Option.map_some,Option.some.injEq] at hu;subst hu;have:arr.getD (base+q) undef=u':=by rw [Array.getD_eq_getD_getElem?,f1]; rfl
     rw [this]; exact f2
    obtain ⟨m1,β1,k1,k2,k3⟩:=ih1 hni S (fun o ho=>hk o (by simp [ho])) m β w _ hS hvs;have hb':β1 o = .lies b base s n:=by
     rcases k2.step o (by rw [hβ]; exact Loc.noConfusion) with h' | h'
     ·rw [h',hβ]
     ·have:=k1.live o _ hgi;rw [h'] at this; exact this.elim
    refine ⟨m1,β1, ?_,k2⟩;refine k1.reseen hgi hb' e1 _ hlen.symm fun q x u hx hu => ?_
    have hq:q<cells.length:=by rw [hlen]; exact (List.getElem?_eq_some_iff.1 hx).1
    refine k3.2 q x u hx ?_;simp only [List.getElem?_map,List.getElem?_range hq,Option.map_some,Option.some.injEq];rw [Array.getD_eq_getD_getElem?,hu]; rfl
  obtain ⟨m1,β1,k1,k2⟩:=step1
  -- the slice becomes a list
  have hg:Ghost (.slice o 0 ys.length) ((S.dels i).upd o (tys.length,ys.flatMap V.cells)) (.list ys) (S.dels (o::i)):=by
   rw [←jcr (c:=(tys.length,ys.flatMap V.cells))]
   let enc:{y // y∈ys}→V:=fun y=>y.1
   have e1:jh enc ys.attach=ys.flatMap V.cells:=by
    have:ys.attach.map enc=ys:=List.attach_map_subtype_val ys
    calc jh enc ys.attach=(ys.attach.map enc).flatMap V.cells:=by simp [jh,List.flatMap_map]
     _=_:=by rw [this]
   have e2:vl enc ys.attach = .list ys:=by
    show V.list _=_;rw [List.attach_map_subtype_val]
   have:=frzS (enc:=enc) (s:=tys.length) (fun y=>(hs y.1 y.2).1) (fun y=>(hs y.1 y.2).2) (S:=(S.dels i).upd o (tys.length,ys.flatMap V.cells)) (o:=o) ys.attach (by rw [e1]; exact Jh);rw [e2,List.length_attach] at this;exact this
  obtain ⟨m2,β2,q1,q2,q3⟩:=hg m1 β1 w v k1 (k2.rep h1);have hkj : ∀ o'∈j,(S.dels (o::i)).get o'=S0.get o':=by
   intro o' ho';have hm : ¬ o'∈o::i:=by
    intro hm;rcases List.mem_cons.1 hm with rfl | hm
    ·exact hoj ho'
    ·exact hd o' hm o' ho' rfl
   rw [Wn,if_neg hm];exact hk o' (by simp [ho'])
  obtain ⟨m3,β3,p1,p2,p3⟩:=ih2 hnj (S.dels (o::i)) hkj m2 β2 w r q1 ⟨h2.1,fun a x u hx hu=>q2.rep (k2.rep (h2.2 a x u hx hu))⟩;refine ⟨m3,β3, ?_,(k2.trans q2).trans p2,p3.cons (p2.rep q3)⟩;rw [show o::(i++j)=(o::i)++j from rfl,dels_app];exact p1
theorem WC (n s:Nat):reps n (List.replicate s .c)=List.replicate (n*s) .c:=by
 induction n with
 | zero=>simp [reps]
 | succ n ih=>rw [zK,ih,List.replicate_append_replicate,Nat.succ_mul,Nat.add_comm]
theorem qT {α:Type} (enc:α→V) (ls:List α):(ls.map enc).flatMap V.cells=jh enc ls:=by simp [jh,List.flatMap_map]
theorem OwL.flat {α:Type} {enc:α→V} {s:Nat} (hs : ∀ a,(enc a).cells.length=s) (hc : ∀ a,(enc a).closed=true) {S:Store} (ls:List α):OwL S (reps ls.length (List.replicate s .c)) (jh enc ls) (jh enc ls) []:=by
 have h:=OwL.all_c (S:=S) (xs:=jh enc ls) (by simpa using YY hc ls)
 rwa [zP hs, ←WC] at h
theorem OwL.slice {α:Type} {enc:α→V} {s:Nat} (hs : ∀ a,(enc a).cells.length=s) (hc : ∀ a,(enc a).closed=true) {S:Store} {o:Nat} (ls:List α) (hg:S.get o=some (s,jh enc ls)) {ts:List Ty} {rs xs:List V} {j:List Nat} (t:OwL S ts rs xs j) :
  OwL S (.s (List.replicate s .c)::ts) (.slice o 0 ls.length::rs) (vl enc ls::xs) (o::j):=by
 have:=OwL.s (S:=S) (o:=o) (tys:=List.replicate s .c) (cells:=jh enc ls) (ys:=ls.map enc) (i:=[]) (by rw [List.length_replicate]; exact hg)
  (fun y hy=>by obtain ⟨a,_,rfl⟩:=List.mem_map.1 hy; exact ⟨by rw [hs,List.length_replicate],hc a⟩) (by rw [List.length_map,qT]; exact OwL.flat hs hc ls) t
 rw [List.length_map] at this;exact this
theorem OwL.old {S:Store} {n:Nat} {ts:List Ty} {rs xs:List V} {ids:List Nat} (h:OwL S ts rs xs ids) (hn : ∀ o∈ids,o<n) (ks:List Nat):V.idsL (gcP n ks) rs=true∧V.renL (gcTo n ks) rs=rs:=by
 induction h with
 | nil=>exact ⟨by simp [V.idsL],by simp [V.renL]⟩
 | @c ts rs xs j x h _ ih =>
  obtain ⟨h1,h2⟩:=ih hn;have e1:x.ids (gcP n ks)=true:=by cases x<;>first | (simp [V.ids]; done) | (simp [V.closed1] at h)
  have e2:x.ren (gcTo n ks)=x:=by cases x<;>first | (simp [V.ren]; done) | (simp [V.closed1] at h)
  exact ⟨by simp [V.idsL,e1,h1],by simp [V.renL,e2,h2]⟩
 | @s tys ts rs xs cells ys i j o h hs d t ih1 ih2 =>
  obtain ⟨h1,h2⟩:=ih2 fun o ho=>hn o (by simp [ho])
  have ho:=hn o (by simp);exact ⟨by simp [V.idsL,V.ids,zO ks ho,h1],by simp [V.renL,V.ren,zh ks ho,h2]⟩
theorem closed1_ids {x:V} (h:x.closed1=true) (p:Nat→Bool):x.ids p=true:=by cases x<;>first | (simp [V.ids]; done) | (simp [V.closed1] at h)
theorem OwL.ids_lt {S:Store} {p:Nat→Bool} {ts:List Ty} {rs xs:List V} {ids:List Nat} (h:OwL S ts rs xs ids) (hn : ∀ o∈ids,p o=true):V.idsL p rs=true:=by
 induction h with
 | nil=>simp [V.idsL]
 | c h _ ih=>simp [V.idsL,closed1_ids h,ih hn]
 | @s tys ts rs xs cells ys i j o h hs d t ih1 ih2=>simp [V.idsL,V.ids,hn o (by simp),ih2 fun o ho=>hn o (by simp [ho])]
theorem jbN {P:Program} {z:Option ZZ} {r:List CO} {K:Fr→Store→Prop} {σ:Fr} {T:Store} (h:T.Wf) (k:jW P z r K σ (St T [] [])):jW P z r K σ T:=by rwa [qM h] at k
theorem YP {P:Program} {N b:Nat} {Q:Exit→Fr→Store→Prop} {σ:Fr} {T:Store} {c:Code} (h:T.Wf) (k:VWp P N b c Q σ (St T [] [])):VWp P N b c Q σ T:=by rwa [qM h] at k
theorem lid_lt (b j k:Nat):(lid b j<lid b k)=(j<k):=by simp [lid]
theorem upd_wf {S:Store} (h:S.Wf) {o:Nat} {c:Nat × List V} (ho:o<S.nx) (hc:V.idsL (fun o=>decide (o<S.nx)) c.2=true):(S.upd o c).Wf:=by
 refine ⟨fun o' ho' => ?_,fun o' c' hc' => ?_⟩
 ·have h1:S.nx≤o':=ho';rw [qp,if_neg (by omega)]; exact h.gone o' h1
 ·rw [qp] at hc';split at hc'
  ·cases hc'; exact hc
  ·exact h.ids o' c' hc'
theorem done_gc {S:Store} {l l':List (Option (Nat × List V))} {r r':V} {R:V→Store→Prop} (ks:List Nat) (hw:S.Wf) (h1:ks.Nodup) (h2:(Zl S.nx ks l ks&&r.ids (gcP S.nx ks))=true) (hl:gcL S.nx ks l ks=l') (hr:r.ren (gcTo S.nx ks)=r') (hR:R r' (St S [] l')):Zn S.nx R r (St S [] l):=by
 obtain ⟨h3,h4⟩:=Bool.and_eq_true_iff.1 h2;have h:=gc_ren (u:=[]) hw h1 rfl h3;subst hl;subst hr;exact ⟨_,_,GhostB.ren h (JX (fun o ho=>gc_back o ho) r h4).symm,hR⟩
theorem zt {S:Store} : ∀ {n:Nat} {rs xs:List V} {ids:List Nat},OwL S (List.replicate n .c) rs xs ids→rs=xs∧ids=[]
 | 0,rs,xs,ids,h=>by
  generalize hr:List.replicate 0 Ty.c=ts at h
  cases h with
  | nil=>exact ⟨rfl,rfl⟩
  | c _ _=>cases hr
  | s _ _ _ _=>cases hr
 | n+1,rs,xs,ids,h=>by
  rw [List.replicate_succ] at h
  cases h with
  | c h t =>
   obtain ⟨rfl,rfl⟩:=zt t;exact ⟨rfl,rfl⟩
theorem ghost_agg {rs xs:List V} {S S':Store} (h:GhostArgs rs S xs S'):Ghost (.agg rs) S (.agg xs) S':=by
 intro m β w v hS hr;obtain ⟨vs,rfl,hl,hr,hone⟩:=hr.inv_agg;obtain ⟨m',β',h1,h2,h3⟩:=h m β w vs hS ⟨hl,hr⟩;exact ⟨m',β',h1,h2, .agg xs vs h3.1 h3.2 hone⟩
end Go.Vw

/-
 Is a slice nil? Only where it is empty.
-/
namespace Go.Vw
open Go.RowKit
section
variable {P:Program} {N b:Nat} {Q:Exit→Fr→Store→Prop} {σ:Fr} {S:Store}
theorem list_addr {m:Imm} {β:Objs} {l:List V} {v:Value} (h:Rep m β (.list l) v) : ∃ ad len cap,v = .slice ad len cap∧(ad=none→l=[]):=by
 have:=h.inv_list;generalize hl:V.list l=x at this
 cases this with
 | list0 a cap hc=>cases hl; exact ⟨a,0,cap,rfl,fun _=>rfl⟩
 | list xs vs b off cap s arr T fz hm hl' hc hcm hs hr hcells=>cases hl; exact ⟨some ⟨b,off,none⟩,_,cap,rfl,fun h=>by cases h⟩
 | _=>cases hl
theorem equal_nil {t e:TypeId} (ht:P.underlying t=some (.slice e)) (ad:Option Addr) (len cap:Nat) (w:World):(Op.equal t (.slice ad len cap) (.slice none 0 0)).run P w = .ok ad.isNone w:=by
 have hd:Op.maxDepth=9999+1:=rfl;unfold Op.equal;rw [hd];unfold Op.equalIn
 cases ad<;>simp [run_underlying ht]
theorem vw_isnil {c:Code} {o1 o2:Oper} {d1 d2 s:Nat} {t t' e:TypeId} {y u:Operand} {l:List V} (h:Code.kind c=1) (hops:(Code.ops c).toList=[o1,o2]) (h1:Wr P N (Code.ops c) o1=some ⟨some d1,none, .move (.tmp s)⟩) (hg1:o1.guard=none)
  (hop:o2.op = .binOp .eql t y u t') (hg:o2.guard=none) (hd:o2.dst=some d2) (hlt:decide (d2<N)=true) (hy:jy y=some (.tmp d1)) (hu:u = .const (.slice none 0 0)) (ht:P.underlying t=some (.slice e)) (hv:σ.look s = .list l)
  (H : ∀ b:Bool,(b=true→l=[])→Q .normal ((σ.set d1 (.list l)).set d2 (.bool b)) S):VWp P N b c Q σ S:=by
 cases c with
 | region id ops dr =>
  cases dr
  ·intro m β w a hS hF;refine wp_region_list ?_;simp only [Code.ops] at hops h1;rw [hops];simp only [wpList];have hw1:Region.wanted o1 (yielded ops a.tmps)=true:=by simp [Region.wanted,hg1]
   rw [if_pos hw1];refine .inl ?_;obtain ⟨c1,c2,c3,c4⟩:=Zd h1;simp only at c2;refine ZJ (N:=N) (b:=b) (m0:=m) (β0:=β) (w0:=w) (k:=fun x S'=>x = .list l∧S'=S) c1 c4 (by simp [vop,js,ev,hv]) hS hF (ExtB.refl _ _ _ _) ?_;rintro x S' m' β' w' a' ⟨rfl,rfl⟩ k2 k3 k4;rw [←c2] at k3;have hw2:Region.wanted o2 (yielded ops a'.tmps)=true:=by simp [Region.wanted,hg]
   rw [if_pos hw2];refine .inl ?_;have hF':FrameRep N m' β' (σ.set d1 (.list l)) a':=k3;have hr:=jU hF' hy;have hl:ev (σ.set d1 (.list l)) (.tmp d1) = .list l:=by simp [ev,Fr.look_set]
   rw [hl] at hr;obtain ⟨ad,len,cap,e1,e2⟩:=list_addr hr;have e3:a'.eval u = .slice none 0 0:=by rw [hu]; rfl
   have hgd:(eqGuard .eql t y u (.slice ad len cap) (.slice none 0 0)).run P w' = .ok () w':=rfl;have hrun:(execOp a'.eval o2).run P w' = .ok (.value (.bool ad.isNone)) w':=by
    simp [execOp,hop,e1,e3,hgd,binOp,equal_nil ht]
   unfold Oper.wp;rw [hrun];refine ⟨_,S',m',β',H ad.isNone (fun hn=>e2 (by simpa using hn)),k2, ?_,k4⟩;have:=hF'.put o2.dst (fun t ht=>by rw [hd] at ht; cases ht; exact of_decide_eq_true hlt) (x := .bool ad.isNone) (v := .bool ad.isNone) (.imm (.bool _));rw [hd] at this ⊢;exact this
  ·simp [Code.kind] at h
 | _=>simp [Code.kind] at h
end
section
variable {P:Program} {N b:Nat} {Q:Exit→Fr→Store→Prop} {σ:Fr} {S:Store}
theorem JV {c c2:Code} {cs:List CO} {Q2:Exit→Fr→Store→Prop} (zc zs:Store) (es:List Nat) (n0 i j:Nat) (ord1 ord2:List Nat) (h:Code.kind c=2) (hm:P.follows .mixedOrders=true) (hc:qE P N (Code.ops c)=some cs) (hnc:callsOk cs i j n0=true) (hij:i≠j)
  (hp:jaq es (zj (Code.ops c)) (Code.ops c) cs n0 0 (Array.replicate (Code.ops c).size false)=true)
  (hi:(zJ n0 0 (Array.replicate (Code.ops c).size false)).getD i true=false) (hj:(zJ n0 0 (Array.replicate (Code.ops c).size false)).getD j true=false)
  (hu:(List.range n0).all (fun k=>(zJ n0 0 (Array.replicate (Code.ops c).size false)).getD k true)=true)
  (hB1:lexO es (zj (jF (Code.ops c) j i)) (jF (Code.ops c) j i) cs ord1 (zJ n0 0 (Array.replicate (Code.ops c).size false))=true) (hB2:lexO es (zj (jF (Code.ops c) i j)) (jF (Code.ops c) i j) cs ord2 (zJ n0 0 (Array.replicate (Code.ops c).size false))=true)
  (hn0:decide (n0≤(Code.ops c).size)=true) (hn1:ord1.length+n0=(Code.ops c).size) (hn2:ord2.length+n0=(Code.ops c).size) (hE:zY (zj (Code.ops c)) cs es=true) (hz:(ZZ.mk S zc zs es).ok S)
  {cs0 cs1 cs2:List CO} (hp0:cs.take n0=cs0) (hp1:Zk cs ord1=cs1) (hp2:Zk cs ord2=cs2)
  (H:jW P (some (ZZ.mk S zc zs es)) cs0 (fun σ1 S1 => ∃ σm Sm,VWp P N b c2 Q2 σm Sm∧jW P (some (ZZ.mk S zc zs es)) cs1 (fun σ S=>Reach N b σ S σm Sm) σ1 S1∧jW P (some (ZZ.mk S zc zs es)) cs2 (fun σ S=>Reach N b σ S σm Sm) σ1 S1) σ S):VWp P N b c (Ks (VWp P N b c2 Q2) Q) σ S :=
 vw_drawSplit (ZZ.mk S zc zs es) n0 i j ord1 ord2 h hm hc hnc hij hp hi hj hu hB1 hB2 hn0 hn1 hn2 hE hz S.sub_refl hp0 hp1 hp2 H
end
end Go.Vw

namespace Ss
structure Grp where
 first:Int
 many:Int
 kind:Int
 ty:Int
deriving DecidableEq,Inhabited
def groups:List Grp:=[⟨69,1,0,127⟩,⟨70,10,1,127⟩,⟨80,1,0,126⟩,⟨81,10,1,126⟩,⟨103,3,2,127⟩,⟨106,15,3,127⟩,⟨121,3,2,126⟩,⟨124,15,3,126⟩,⟨167,1,4,126⟩,⟨172,2,5,127⟩,⟨192,2,6,127⟩,⟨194,3,6,126⟩]
def Grp.has (op:Int) (g:Grp):Bool:=decide (g.first≤op)&&decide (op-g.first<g.many)
def findIn (op:Int):List Grp→Option Grp
 | []=>none
 | g::gs=>if g.has op then some g else findIn op gs
def find (op:Int):Option Grp:=findIn op groups
theorem YD {op:Int} {g:Grp} : ∀ {gs:List Grp},findIn op gs=some g→g∈gs∧g.has op=true
 | [],h=>by simp [findIn] at h
 | x::xs,h=>by
  simp only [findIn] at h;split at h
  ·rename_i hx; cases h; exact ⟨by simp,hx⟩
  ·obtain ⟨h1,h2⟩:=YD h; exact ⟨by simp [h1],h2⟩
def division (k:Int):Bool:=decide (3≤k)&&decide (k≤6)
def total (op:Int):Bool:=match find op with
 | some g => !(decide (g.kind=3)&&division (op-g.first))
 | none=>false
def pure (op:Int):Bool:=decide (op=256)||decide (op=27)||total op
def Grp.ins (g:Grp):List Int:=if g.kind=1∨g.kind=3 then [g.ty,g.ty] else [g.ty]
def Grp.out (g:Grp):Int:=if g.kind=0∨g.kind=1∨g.kind=4 then 127 else if g.kind=5 then 126 else g.ty
def numSig (op:Int):List Int × Int × Bool:=match find op with
 | some g=>(g.ins,g.out,true)
 | none=>([],0,false)
end Ss
namespace Go.Vw
open Go.Proofs Go.RowKit
set_option maxRecDepth 10000
set_option maxHeartbeats 2000000
def Zc (g:Ss.Grp):V := .agg [vint g.first,vint g.many,vint g.kind,vint g.ty]
theorem encGrp_eq (g:Ss.Grp):Zc g = .agg [vint g.first,vint g.many,vint g.kind,vint g.ty]:=nr rfl
theorem encGrp_nc (g:Ss.Grp):(Zc g).ncells=4:=nr rfl
theorem jcq (g:Ss.Grp):(Zc g).closed=true:=rfl
attribute [simp] encGrp_eq encGrp_nc
theorem groups_v:VPure Tryz.prog 140 [] (vl Zc Ss.groups):=by
 intro S;refine jb (c:=jg Tryz.f140) Tryz.func140 rfl rfl (by simp [Tryz.ntmps140]) ?_;rw [Tryz.ntmps140];intro hwf;have hr:rep0 [V.int .i64 0, .int .i64 0, .int .i64 0, .int .i64 0] 12=[.int .i64 0, .int .i64 0, .int .i64 0, .int .i64 0, .int .i64 0, .int .i64 0, .int .i64 0, .int .i64 0, .int .i64 0, .int .i64 0, .int .i64 0, .int .i64 0, .int .i64 0, .int .i64 0, .int .i64 0, .int .i64 0, .int .i64 0, .int .i64 0, .int .i64 0, .int .i64 0, .int .i64 0, .int .i64 0, .int .i64 0, .int .i64 0, .int .i64 0, .int .i64 0, .int .i64 0, .int .i64 0, .int .i64 0, .int .i64 0, .int .i64 0, .int .i64 0, .int .i64 0, .int .i64 0, .int .i64 0, .int .i64 0, .int .i64 0, .int .i64 0, .int .i64 0, .int .i64 0, .int .i64 0, .int .i64 0, .int .i64 0, .int .i64 0, .int .i64 0, .int .i64 0, .int .i64 0, .int .i64 0]:=rfl
 repeat first|refine QG ?_|refine QY ?_ (r:=by conv=>lhs;simp[-List.map_set,QV,hr])
 exact ji (l:=[none]) hwf (Ghost.toB (frzSt (k:=0) (enc:=Zc) (s:=4) (fun _=>rfl) jcq Ss.groups (by simp) (by rfl)) _) rfl
def findV (op:Int):Option Ss.Grp→V
 | some g => .tuple [Zc g,vint (op-g.first), .bool true]
 | none => .tuple [Zc ⟨0,0,0,0⟩,vint 0, .bool false]
theorem find_v (op:Int) (ho:Ss.I64 op):VPure Tryz.prog 117 [vint op] (findV op (Ss.find op)):=by
 intro S;have hgs : ∀ g∈Ss.groups,0≤g.first∧g.first≤1000∧0≤g.many∧g.many≤1000:=by decide
 have hlen:Ss.groups.length=12:=rfl;have cg:=groups_v;unfold Ss.find;generalize Ss.groups=gs at *
 obtain ⟨ho1,ho2⟩:=ho;refine qw (c:=jg Tryz.f117) Tryz.func117 rfl (by conv=>lhs; reduce) (by simp [Tryz.ntmps117]) ?_;rw [Tryz.ntmps117];intro hwf
 repeat first|refine QG ?_|refine QY ?_
 repeat refine QS ?_
 refine QP ?_;refine jc (cg) (by rfl) ?_;refine QW ?_
 repeat first|refine QG ?_|refine QY ?_
 repeat refine QS ?_
 refine je [0,2,7,8,9] rfl (fun c σ S' => ∃ (k:Nat),k≤gs.length∧c=gs.length-k∧Ss.findIn op (gs.drop k)=Ss.findIn op gs∧σ=[(0,vint op),(2, .ptr (lid S.nx 0) 0),(7,vl Zc gs),(8,vnat gs.length),(9,vnat k)]∧S'=St S [] [some (4,[.int .i64 0, .int .i64 0, .int .i64 0, .int .i64 0])]) gs.length ?_ ?_
 ·exact ⟨0,by omega,rfl,rfl,by simp [Fr.only],rfl⟩
 ·rintro c σ T ⟨k,hk,rfl,hd,rfl,rfl⟩
  by_cases hkt:k<gs.length
  ·have hw:=jo hkt (by omega);have hst:Ss.findIn op (gs.drop k)=if gs[k].has op then some gs[k] else Ss.findIn op (gs.drop (k+1)):=by rw [List.drop_eq_getElem_cons hkt,Ss.findIn]
   have hgk:=hgs _ (List.getElem_mem hkt);obtain ⟨⟨g1,g2,g3,g4⟩,hx⟩ : ∃ g,gs[k]=g:=⟨_,rfl⟩
   rw [hx] at hst hgk;simp only at hgk
   by_cases h1:g1≤op
   ·have hws:IntKind.i64.wrap (op-g1)=op-g1:=wrap_i64 (by omega) (by omega)
    by_cases h2:op-g1<g2
    ·have hst':Ss.findIn op gs=some ⟨g1,g2,g3,g4⟩:=by rw [←hd,hst]; simp [Ss.Grp.has,h1,h2]
     rw [hst']
     repeat first|refine QG ?_|refine QY ?_ (r:=by conv=>lhs;simp[-List.map_set,QV,hkt,hx,h1,h2,hws])
     repeat refine QS ?_
     refine jN (St S [] [none,some (4,[.int .i64 g1, .int .i64 g2, .int .i64 g3, .int .i64 g4])]) (St S [] [none,some (4,[.int .i64 g1, .int .i64 g2, .int .i64 g3, .int .i64 g4])]) [] rfl (by kernel_rfl) (by conv=>lhs; reduce) (by conv=>lhs; reduce) (by kernel_rfl) (by kernel_rfl) (jv (by simp [subU,shpU,subL,shpL])) (by conv=>lhs; simp [-List.map_set,QV,hws]) ?_;refine jf rfl (by conv=>lhs;simp[-List.map_set,QV]) (jv (by simp [subU,shpU,subL,shpL])) ?_;refine QM (by conv=>lhs;simp[-List.map_set,QV,hws]) ?_;refine QN ?_
     repeat first|refine QG ?_|refine QY ?_
     exact jaY (by simp; rfl) (ja hwf (by simp [findV]) rfl)
    ·rw [show Ss.Grp.has op ⟨g1,g2,g3,g4⟩=false by simp [Ss.Grp.has,h1,h2]] at hst
     repeat first|refine QG ?_|refine QY ?_ (r:=by conv=>lhs;simp[-List.map_set,QV,hkt,hx,h1,h2,hws])
     refine QA [0] (h:=⟨?_,k+1,hkt,rfl,by rw [←hd,hst]; rfl,by simp [hw],rfl⟩);omega
   ·rw [show Ss.Grp.has op ⟨g1,g2,g3,g4⟩=false by simp [Ss.Grp.has,h1]] at hst
    repeat first|refine QG ?_|refine QY ?_ (r:=by conv=>lhs;simp[-List.map_set,QV,hkt,hx,h1])
    refine QA [0] (h:=⟨?_,k+1,hkt,rfl,by rw [←hd,hst]; rfl,by simp [hw],rfl⟩);omega
  ·have e:gs.drop k=[]:=by rw [List.drop_eq_nil_iff]; omega
   rw [e] at hd;have hd':Ss.findIn op gs=none:=by rw [←hd]; rfl
   rw [hd']
   repeat first|refine QG ?_|refine QY ?_ (r:=by conv=>lhs;simp[-List.map_set,QV,hkt])
   exact jaY (by simp; rfl) (ja hwf (by simp [findV]) rfl)
end Go.Vw
