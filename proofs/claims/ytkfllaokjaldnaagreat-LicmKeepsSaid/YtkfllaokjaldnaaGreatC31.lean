import Derived.Test.YtkfllaokjaldnaaGreatC29
import Derived.Test.YtkfllaokjaldnaaGreatC28
import Derived.Test.YtkfllaokjaldnaaGreatC30
import Derived.Test.YtkfllaokjaldnaaGreatC25
import Derived.Test.YtkfllaokjaldnaaGreatC26
/-
  Part of the proof (texts LRunP, LAliveP, LThaw, DRowV, DInv).
-/
set_option linter.unusedVariables false
set_option linter.unusedSimpArgs false
namespace Ss
open Go.Vw.G
def tabOf (hm:List Int) (v:Int):Int:=hm.getD v.toNat 0
theorem licTo_more {e:Env} {f:Fn} (h:check e f=true) {k:Nat} (hk:wt f<k) (j:Nat):Kx (k+j) f=Kx k f:=by
 have add : ∀ (k:Nat) (f:Fn),Kx (k+j) f=Kx j (Kx k f):=by
  intro k
  induction k with
  | zero=>intro f; rw [Nat.zero_add]; rfl
  | succ k ih =>
   intro f;rw [show k+1+j=k+j+1 by omega]
   cases hf:first f.blocks (qD f) (lps f.blocks) with
   | none=>rw [JH _ hf,JH _ hf,JH _ hf]
   | some m =>
    obtain ⟨p,n,i⟩:=m;rw [WF _ hf,WF _ hf,ih]
 rw [add,JH _ (lic_end k f h hk)]
theorem licF_step {e:Env} {f:Fn} (h:check e f=true) {p n i:Nat} (hf:first f.blocks (qD f) (lps f.blocks)=some (p,n,i)):licF (moved f p n i)=licF f:=by
 obtain ⟨h1,h2,h3⟩:=jbA h hf;unfold licF;rw [WF _ hf];obtain ⟨j,hj⟩ : ∃ j,wt f=wt (moved f p n i)+1+j:=⟨wt f-(wt (moved f p n i)+1),by omega⟩
 rw [hj];exact (licTo_more h1 (Nat.lt_succ_self _) j).symm
structure LOk (e:Env) (f g:Fn) (hm:List Int):Prop where
 chk:check e g=true
 fits:g.Fits
 fin:licF g=licF f
 sig:g.sig=f.sig
 types:g.types=f.types
 succs:Ss.succs g.blocks=Ss.succs f.blocks
 len:hm.length=f.types.length
 home : ∀ v∈allL g.blocks,tabOf hm v=qD g v
theorem LOk.first {e:Env} {f g:Fn} {hm:List Int} (h:LOk e f g hm):Ss.first g.blocks (tabOf hm) (lps f.blocks)=Ss.first g.blocks (qD g) (lps g.blocks):=by
 have e1:lps g.blocks=lps f.blocks:=by unfold lps; rw [h.succs]
 rw [e1];refine jaj (fun n x hx a ha => ?_) _;have hb:g.blocks.getD n default∈g.blocks∨g.blocks.getD n default=default:=by
  rw [List.getD_eq_getElem?_getD]
  cases hn:g.blocks[n]? with
  | none=>exact .inr rfl
  | some b=>exact .inl (List.mem_of_getElem? hn)
 rcases hb with hb | hb
 ·exact h.home a (arg_made h.chk _ hb x hx a ha)
 ·rw [hb] at hx
  cases hx
theorem LOk.start {e:Env} {f:Fn} (h:check e f=true) (hf:f.Fits):LOk e f f (homesI f):=⟨h,hf,rfl,rfl,rfl,rfl,homesI_len f,fun v hv=>homes_home h v hv⟩
theorem LOk.end {e:Env} {f g:Fn} {hm:List Int} (h:LOk e f g hm) (hf:Ss.first g.blocks (tabOf hm) (lps f.blocks)=none):g=licF f:=by
 rw [h.first] at hf;have:=JH (wt g+1) hf;rw [←h.fin]; exact this.symm
theorem LOk.step {e:Env} {f g:Fn} {hm:List Int} (h:LOk e f g hm) {p n i:Nat} (hf:Ss.first g.blocks (tabOf hm) (lps f.blocks)=some (p,n,i)) :
  ∃ (hp:p<g.blocks.length) (hn:n<g.blocks.length) (hi:i<g.blocks[n].code.length) (o:Nat),p≠n∧g.blocks[n].code[i].outs=[(o:Int)]∧o<hm.length∧moveAt g.blocks p n i=(g.blocks.set n (cutAt g.blocks[n] i)).set p (endWith g.blocks[p] g.blocks[n].code[i])∧LOk e f (moved g p n i) (hm.set o (p:Int))∧wt (moved g p n i)<wt g:=by
 rw [h.first] at hf;obtain ⟨bp,bn,x,hm',hx,hc,hr⟩:=Zi h.chk hf;obtain ⟨s1,s2,s3⟩:=jbA h.chk hf;have hd:=check_dok h.chk;obtain ⟨hp,ep⟩:=List.getElem?_eq_some_iff.1 hm'.hp;obtain ⟨hn,en⟩:=List.getElem?_eq_some_iff.1 hm'.hn;obtain ⟨hi,ei⟩:=List.getElem?_eq_some_iff.1 hm'.hi;have hbm:bn∈g.blocks:=List.mem_of_getElem? hm'.hn;have hxm:x∈bn.code:=List.mem_of_getElem? hm'.hi;obtain ⟨o,ho⟩:=hd.one bn hbm x hxm hx;have hoi:=hd.outs bn hbm x hxm o (by rw [ho]; simp);rw [h.types] at hoi;have heq:=hm'.eq;subst en;subst ep;subst ei;refine ⟨hp,hn,hi,o.toNat,hm'.ne,by rw [ho]; congr 1; have:=hoi.1; omega,by rw [h.len]; have:=hoi.1; have:=hoi.2; omega,heq, ?_,s3⟩;refine ⟨s1,step_fits h.chk h.fits hf,(licF_step h.chk hf).trans h.fin,h.sig,h.types,s2.trans h.succs,by rw [List.length_set]; exact h.len,fun v hv => ?_⟩;have hv2:v∈allL g.blocks:=hm'.all.mem_iff.1 hv;have hvi:=all_in hd v hv2;rw [h.types] at hvi
 rw [move_home h.chk hm' s1 v hv2,ho];unfold tabOf
 by_cases e1:v=o
 ·subst e1;rw [if_pos (by simp),List.getD_eq_getElem?_getD,List.getElem?_set_self (by rw [h.len]; have:=hvi.1; have:=hvi.2; omega)]; rfl
 ·rw [if_neg (by simpa using e1),List.getD_eq_getElem?_getD,List.getElem?_set_ne (by have:=hvi.1; have:=hoi.1; omega), ←List.getD_eq_getElem?_getD];exact h.home v hv2
end Ss

namespace Ss
open Go.Vw.G
def smallL:Fn:=⟨⟨[127,127],[]⟩,[127,127,127],[⟨[0,1],[⟨258,0,[],[]⟩],⟨1,0,[⟨1,[]⟩],[]⟩⟩,⟨[],[⟨258,0,[],[]⟩,⟨106,0,[0,1],[2]⟩],⟨1,0,[⟨1,[]⟩],[]⟩⟩]⟩
def smallL':Fn:=⟨⟨[127,127],[]⟩,[127,127,127],[⟨[0,1],[⟨258,0,[],[]⟩,⟨106,0,[0,1],[2]⟩],⟨1,0,[⟨1,[]⟩],[]⟩⟩,⟨[],[⟨258,0,[],[]⟩],⟨1,0,[⟨1,[]⟩],[]⟩⟩]⟩
def envL:Env:=⟨[],0,[],[],false⟩
theorem ZB:defsOf smallL=some [⟨true,0, -1⟩,⟨true,0, -1⟩,⟨true,1,1⟩]:=by decide
theorem smallL_defs':defsOf smallL'=some [⟨true,0, -1⟩,⟨true,0, -1⟩,⟨true,0,1⟩]:=by decide
theorem Kr:succs smallL.blocks=[[1],[1]]:=by decide
theorem jbC:succs smallL'.blocks=[[1],[1]]:=by decide
theorem smallL_near:nearI [[1],[1]]=[-1,0]:=by decide
theorem smallL_rings:rings smallL.blocks [[1],[1]]=false:=by
 simp [rings,smallL,tickB,ringM,ringW,List.range_succ]
theorem smallL_shape:shapeOk smallL=true:=by
 have h1:Go.Vw.G.right [[1],[1]]=true:=by decide
 have h2:Go.Vw.G.ordI [[1],[1]]=[0,1]:=by decide
 have h3:Go.Vw.G.nats [[1],[1]]=[[1],[1]]:=rfl;simp only [shapeOk,Kr,h1,h2,h3,smallL_rings]
 decide
theorem Ks:check envL smallL=true:=by
 have h1:checkHead envL smallL=true:=by decide
 have hn:numSig 106=([127,127],127,true):=by decide
 have hf : ∀ n o,form envL 106 n o=⟨[127,127],[127],0,true⟩:=fun n o=>by
  have e0:form envL 106 n o=formNum envL 106:=by simp [form]
  rw [e0,formNum,hn]
 have hf2 : ∀ n o,form envL 258 n o=⟨[],[],0,true⟩:=fun n o=>by simp [form]
 simp only [check,h1,ZB,smallL_shape,Bool.true_and];rw [Kr,smallL_near];simp [smallL,checkBlocks,checkCode,insOk,hf,hf2,insOut,typesOf,asks,Go.Vw.eqF,termOk,termHead,termTail,branches,askOk,edgeOk]
 decide
theorem smallL_froms:froms [[1],[1]]=[[],[0,1]]:=by decide
theorem ZA:loopsTo (rNear [[1],[1]]) (froms [[1],[1]]) 2 2=[(1,[1])]:=by
 have hr:rNear [[1],[1]]=[-1,0]:=by decide
 have hb:backs [-1,0] 1 [0,1]=[1]:=by decide
 have hB : ∀ n,Bk [[],[0,1]] 1 [1] n→n=1:=by
  intro n h
  induction h with
  | start hn=>simpa using hn
  | step _ hn _ ih=>exact absurd ih hn
 have hl:loopIn [[],[0,1]] 1 [1] 2=[false,true]:=by
  have h0 : ¬ (0=1∨Bk [[],[0,1]] 1 [1] 0):=by
   rintro (h | h)
   ·omega
   ·have:=hB 0 h; omega
  have h1 : ¬ Bk [[],[0,1]] 1 [1] 0:=fun h=>h0 (.inr h)
  simp [loopIn,List.range_succ,h1]
 have hb0:backs [-1,0] 0 ([[],[0,1]].getD 0 [])=[]:=rfl;have hb1:backs [-1,0] 1 ([[],[0,1]].getD 1 [])=[1]:=hb;rw [hr,smallL_froms,loopsTo,hb1,loopsTo,hb0,loopsTo,hl];simp [picked]
theorem smallL_lps:lps smallL.blocks=[(1,[1])]:=by
 have h3:nats [[1],[1]]=[[1],[1]]:=rfl;rw [lps,Kr,h3]; exact ZA
theorem smallL_lps':lps smallL'.blocks=[(1,[1])]:=by
 have h3:nats [[1],[1]]=[[1],[1]]:=rfl;rw [lps,jbC,h3]; exact ZA
theorem smallL_small:smallL.small=true:=check_small Ks
theorem smallL_porch:porchF smallL 1 [1]=some 0:=by
 rw [porchF,if_pos smallL_small]; decide
theorem smallL_first:first smallL.blocks (qD smallL) (lps smallL.blocks)=some (0,1,1):=by
 rw [smallL_lps];have e:qD smallL=fun v=>(([⟨true,0, -1⟩,⟨true,0, -1⟩,⟨true,1,1⟩]:List Def).getD v.toNat default).block:=by funext v; rw [qD,ZB]; rfl
 rw [e]; decide
theorem jbD:first smallL'.blocks (qD smallL') (lps smallL'.blocks)=none:=by
 rw [smallL_lps'];have e:qD smallL'=fun v=>(([⟨true,0, -1⟩,⟨true,0, -1⟩,⟨true,0,1⟩]:List Def).getD v.toNat default).block:=by funext v; rw [qD,smallL_defs']; rfl
 rw [e]; decide
theorem smallL_lic:licF smallL=smallL':=by
 have h:=licF_step Ks smallL_first;have e:moved smallL 0 1 1=smallL':=by decide
 rw [e] at h;rw [←h];exact JH _ jbD
theorem smallL_out:licOut envL smallL=(smallL',0):=by rw [licOut_t Ks,smallL_lic]
theorem smallL_fits:smallL.Fits:=by
 simp [smallL,Fn.Fits,Sig.Fits,Ints,Block.Fits,Ins.Fits,Term.Fits,Edge.Fits,I64]
theorem envL_fits:envL.Fits:=by
 simp [envL,Env.Fits,Ints,I64]
end Ss

namespace Go.Vw
open Go.RowKit
def flat1:V→Bool
 | .bool _ | .int _ _ | .nils | .slice _ _ _=>true
 | _=>false
def flatV:V→Bool
 | .tuple xs=>xs.all flat1
 | x=>flat1 x
def Wx (n:Nat):V→V
 | .slice o off len => .slice (n+o) off len
 | x=>x
def jaT (n:Nat):V→V
 | .tuple xs => .tuple (xs.map (Wx n))
 | x=>Wx n x
def plus (S T:Store):Store:=⟨fun o=>if o<S.nx then S.get o else (T.get (o-S.nx)).map fun c=>(c.1,c.2.map (Wx S.nx)),S.nx+T.nx⟩
def joinB (n:Nat) (β β2:Objs):Objs:=fun o=>if o<n then β o else β2 (o-n)
theorem Yi {m m2:Imm} {β β2:Objs} {n:Nat} {x:V} {v:Value} (hf:flat1 x=true) (h:Rep m2 β2 x v):Rep m (joinB n β β2) (Wx n x) v:=by
 have hj : ∀ o,joinB n β β2 (n+o)=β2 o:=fun o=>by
  unfold joinB; rw [if_neg (by omega),Nat.add_sub_cancel_left]
 cases h with
 | imm h=>cases h with
  | bool b=>exact .imm (.bool b)
  | int k i=>exact .imm (.int k i)
  | nils a=>exact .imm (.nils a)
  | str | nilp | nilf | nilm | agg | list0 | list | ref=>simp [flat1] at hf
 | sliceDead o off len v h h1=>exact .sliceDead _ off len v ((hj o).trans h) h1
 | sliceVoid o off a h=>exact .sliceVoid _ off a ((hj o).trans h)
 | slice o off len b base s n' cap a h hc hcm ha=>exact .slice _ off len b base s n' cap a ((hj o).trans h) hc hcm ha
 | agg | tuple | func | ptrDead | ptr | mapDead | map | junk=>simp [flat1] at hf
theorem rep_shift {m m2:Imm} {β β2:Objs} {n:Nat} {x:V} {v:Value} (hf:flatV x=true) (h:Rep m2 β2 x v):Rep m (joinB n β β2) (jaT n x) v:=by
 by_cases ht : ∃ xs,x = .tuple xs
 ·obtain ⟨xs,rfl⟩:=ht;simp only [flatV,List.all_eq_true] at hf
  cases h with
  | imm h=>cases h
  | tuple xs vs hl hr =>
   refine .tuple _ vs (by simpa using hl) fun i y u hy hu => ?_
   simp only [List.getElem?_map,Option.map_eq_some_iff] at hy;obtain ⟨z,hz,rfl⟩:=hy;exact Yi (hf z (List.mem_of_getElem? hz)) (hr i z u hz hu)
 ·have e1:flatV x=flat1 x:=by cases x<;>first | rfl | exact absurd ⟨_,rfl⟩ ht
  have e2:jaT n x=Wx n x:=by cases x<;>first | rfl | exact absurd ⟨_,rfl⟩ ht
  rw [e2];exact Yi (e1▸hf) h
theorem VCalls.thaw {P:Program} {f:FuncId} {xs xs':List V} {S S':Store} {Q:V→Store→Prop} (h:VCalls P f xs' ⟨fun _=>none,0⟩ Q) (hg:GhostArgs xs S xs' S') (hcl : ∀ x∈xs',x.closed=true)
  (hfl : ∀ r T,Q r T→flatV r=true ∧ ∀ o c,T.get o=some c → ∀ x∈c.2,flat1 x=true):VCalls P f xs S fun r T => ∃ r0 T0,Q r0 T0∧r=jaT S.nx r0∧T=plus S T0:=by
 intro m β w vs hS hr;obtain ⟨m1,β1,h1,h2,h3⟩:=hg m β w vs hS hr;have h0:Holds ⟨fun _=>none,0⟩ m1 (fun _ => .fresh) w :=
  ⟨h1.imm,fun o b hb=>by simp [Loc.block?] at hb,fun o o' b hb=>by simp [Loc.block?] at hb,fun o=>by simp,fun o _=>rfl,fun o ho=>absurd ho (Nat.not_lt_zero _),fun o c hc=>by cases hc⟩
 have hr0:RepL m1 (fun _ => .fresh) xs' vs:=⟨h3.1,fun i x v hx hv => .imm ((h3.2 i x v hx hv).closed (hcl x (List.mem_of_getElem? hx)))⟩
 refine (h m1 _ w vs h0 hr0).mono ?_;rintro e w' ⟨v,x,T0,m2,β2,he,hQ,k1,k2,k3⟩;obtain ⟨hf1,hf2⟩:=hfl x T0 hQ;have hheap : ∀ b,b<w.heap.size→w'.heap[b]? = w.heap[b]? := by
  intro b hb
  cases hm:m1 b with
  | some ob=>rw [h1.imm b ob hm,k2.imm b ob (k3.imm b ob hm)]
  | none=>exact (k3.keep b hb hm fun o=>by simp [Loc.block?]).1
 have hnob : ∀ b,b<w.heap.size → ∀ o,(β2 o).block? ≠ some b:=by
  intro b hb o
  cases hm:m1 b with
  | some ob =>
   intro hc;have:=k2.apart o b hc;rw [k3.imm b ob hm] at this; cases this
  | none=>exact (k3.keep b hb hm fun o=>by simp [Loc.block?]).2.2 o
 have hlt : ∀ {b:Nat} {ob:Obj},w.heap[b]? = some ob→b<w.heap.size:=by
  intro b ob hb;rcases Nat.lt_or_ge b w.heap.size with h | h
  ·exact h
  ·rw [Array.getElem?_eq_none h] at hb; cases hb
 have hsome : ∀ {b:Nat} {ob:Obj},w.heap[b]? = some ob→w'.heap[b]? = some ob:=fun {b ob} hb=>by rw [hheap b (hlt hb),hb]
 have hblk : ∀ o b,(β o).block? = some b→b<w.heap.size:=by
  intro o b hb;have hon:o<S.nx:=by
   rcases Nat.lt_or_ge o S.nx with h | h
   ·exact h
   ·rw [(hS.fresh o).2 h] at hb; cases hb
  cases hg:S.get o with
  | none=>rw [hS.dead o hon hg] at hb; cases hb
  | some c =>
   have hl:=hS.live o c hg
   cases hβ:β o with
   | fresh=>rw [hβ] at hb; cases hb
   | dead=>rw [hβ] at hb; cases hb
   | void=>rw [hβ] at hb; cases hb
   | lies b' base s n =>
    rw [hβ] at hl hb
    cases hb
    obtain ⟨_,arr,T,e1,_⟩:=hl;exact hlt e1
   | mp b' =>
    rw [hβ] at hl hb
    cases hb
    obtain ⟨es,clock,e1,_⟩:=hl;exact hlt e1
 have jl : ∀ {o},o<S.nx→joinB S.nx β β2 o=β o:=fun h=>if_pos h
 have jr : ∀ {o}, ¬ o<S.nx→joinB S.nx β β2 o=β2 (o-S.nx):=fun h=>if_neg h
 have hstep:Step β (joinB S.nx β β2):=fun o ho=>by
  have hon:o<S.nx:=by
   rcases Nat.lt_or_ge o S.nx with h | h
   ·exact h
   ·exact absurd ((hS.fresh o).2 h) ho
  exact .inl (jl hon)
 refine ⟨v,jaT S.nx x,plus S T0,m,joinB S.nx β β2,he,⟨x,T0,hQ,rfl,rfl⟩,rep_shift hf1 k1,⟨fun b o hb=>hsome (hS.imm b o hb),fun o b hb => ?_,fun o o' b hb hb' => ?_,fun o => ?_,fun o ho => ?_,fun o ho hn => ?_,fun o c hc => ?_⟩,⟨fun _ _ h=>h,hstep,k3.size,fun b hb hm hβ=>⟨hheap b hb,hm,fun o => ?_⟩,k3.os.trans (by rfl),k3.tape,k3.output⟩⟩
 ·by_cases hon:o<S.nx
  ·rw [jl hon] at hb; exact hS.apart o b hb
  ·rw [jr hon] at hb;have h5:=k2.apart _ b hb
   cases hm:m b with
   | none=>rfl
   | some ob=>rw [k3.imm b ob (h2.imm b ob hm)] at h5; cases h5
 ·by_cases hon:o<S.nx
  ·rw [jl hon] at hb
   by_cases hon':o'<S.nx
   ·rw [jl hon'] at hb'; exact hS.inj o o' b hb hb'
   ·rw [jr hon'] at hb'; exact absurd hb' (hnob b (hblk o b hb) _)
  ·rw [jr hon] at hb
   by_cases hon':o'<S.nx
   ·rw [jl hon'] at hb'; exact absurd hb (hnob b (hblk o' b hb') _)
   ·rw [jr hon'] at hb';have:=k2.inj _ _ b hb hb';omega
 ·show _↔S.nx+T0.nx≤o
  by_cases hon:o<S.nx
  ·rw [jl hon,hS.fresh]; omega
  ·rw [jr hon,k2.fresh]; omega
 ·have ho':S.nx+T0.nx≤o:=ho;show (if o<S.nx then S.get o else (T0.get (o-S.nx)).map _)=none;rw [if_neg (by omega),k2.gone _ (by omega)]; rfl
 ·have ho':o<S.nx+T0.nx:=ho;have hn':(if o<S.nx then S.get o else (T0.get (o-S.nx)).map fun c=>(c.1,c.2.map (Wx S.nx)))=none:=hn
  by_cases hon:o<S.nx
  ·rw [if_pos hon] at hn';rw [jl hon]; exact hS.dead o hon hn'
  ·rw [if_neg hon,Option.map_eq_none_iff] at hn';rw [jr hon]; exact k2.dead _ (by omega) hn'
 ·have hc':(if o<S.nx then S.get o else (T0.get (o-S.nx)).map fun c=>(c.1,c.2.map (Wx S.nx)))=some c:=hc
  by_cases hon:o<S.nx
  ·rw [if_pos hon] at hc';rw [jl hon];have hl:=hS.live o c hc'
   cases hβ:β o with
   | fresh=>rw [hβ] at hl; exact hl.elim
   | dead=>rw [hβ] at hl; exact hl.elim
   | void=>rw [hβ] at hl; exact hl
   | lies b base s n =>
    rw [hβ] at hl;obtain ⟨e0,arr,T,e1,e2,e3,e4⟩:=hl;refine ⟨e0,arr,T,hsome e1,e2,e3,fun i x hx => ?_⟩;obtain ⟨v,a1,a2,a3⟩:=e4 i x hx;exact ⟨v,a1,a2.mono (fun _ _ h=>h) hstep,a3⟩
   | mp b =>
    rw [hβ] at hl;obtain ⟨es,clock,e1,e2,e3⟩:=hl;refine ⟨es,clock,hsome e1,e2,fun i x en hx hen => ?_⟩;obtain ⟨k,v,a1,a2,a3⟩:=e3 i x en hx hen;exact ⟨k,v,a1,a2,a3.mono (fun _ _ h=>h) hstep⟩
  ·rw [if_neg hon] at hc';rw [jr hon];obtain ⟨c0,hc0,rfl⟩:=Option.map_eq_some_iff.1 hc';have hl:=k2.live _ c0 hc0;have hfc:=hf2 _ c0 hc0
   cases hβ:β2 (o-S.nx) with
   | fresh=>rw [hβ] at hl; exact hl.elim
   | dead=>rw [hβ] at hl; exact hl.elim
   | void =>
    rw [hβ] at hl;have hl':c0.2=[]:=hl;show c0.2.map _=[]
    rw [hl']; rfl
   | lies b base s n =>
    rw [hβ] at hl;obtain ⟨e0,arr,T,e1,e2,e3,e4⟩:=hl;refine ⟨e0,arr,T,e1,e2,by simpa using e3,fun i x hx => ?_⟩;simp only [List.getElem?_map,Option.map_eq_some_iff] at hx;obtain ⟨y,hy,rfl⟩:=hx;obtain ⟨v,a1,a2,a3⟩:=e4 i y hy;exact ⟨v,a1,Yi (hfc y (List.mem_of_getElem? hy)) a2,a3⟩
   | mp b =>
    rw [hβ] at hl;obtain ⟨es,clock,e1,e2,e3⟩:=hl;have:c0.2=[]:=by
     cases hcl:c0.2 with
     | nil=>rfl
     | cons y r =>
      rw [hcl] at e2;have hlt:0<es.size:=by rw [←e2]; simp
      obtain ⟨k,v,a1,_⟩:=e3 0 y es[0] (by rw [hcl]; rfl) (by simp [hlt]);have:=hfc y (by rw [hcl]; simp);rw [a1] at this;simp [flat1] at this
    refine ⟨es,clock,e1,by simpa using e2,fun i x en hx _ => ?_⟩;rw [this] at hx;simp at hx
 ·by_cases hon:o<S.nx
  ·rw [jl hon]; exact hβ o
  ·rw [jr hon]; exact hnob b hb _
end Go.Vw

namespace Go.Vw
open Go.Proofs Go.RowKit
set_option maxRecDepth 10000
/-! A table of lists, each one's own. -/
abbrev rowD:List Ty:=[.s [.c]]
theorem row_row {T:Store} {l:List Int} {r:List V} {ii:List Nat} (h:OwL T rowD r (vl vint l).cells ii) : ∃ o,r=[.slice o 0 l.length]∧ii=[o]∧T.get o=some (1,l.map vint):=by
 rw [WT] at h;generalize hA:vl vint l=A at h
 cases h with
 | @s _ _ _ _ ca ys i j op ho hs d h=>cases h with
  | nil =>
   have e1:ys=l.map vint:=by
    have:V.list (l.map vint)=V.list ys:=hA;exact (V.list.inj this).symm
   subst e1;have c1:=Jo (n:=(l.map vint).length*1) (by rw [←jaZ]; exact d);rw [zw,qH] at c1;refine ⟨op,by simp, ?_, ?_⟩
   ·rw [c1.2]; rfl
   ·rw [ho,c1.1]; rfl
theorem row_mk {T:Store} {l:List Int} {o:Nat} (h:T.get o=some (1,l.map vint)):OwL T rowD [.slice o 0 l.length] (vl vint l).cells [o]:=by
 rw [WT];exact OwL.slice (enc:=vint) (fun _=>rfl) (fun _=>rfl) l (by rw [qH]; exact h) .nil
def Tab (T:Store) (N oa:Nat) (t:List (List Int)):Prop := ∃ (rs:List (List V)) (ids:List Nat),T.get oa=some (1,rs.flatten)∧Rows T rowD (vl vint) t rs ids∧ids.Nodup ∧ ∀ o∈ids,N≤o
theorem Tab.mono {T T':Store} {N oa:Nat} {t:List (List Int)} (h:Tab T N oa t) (h0:T'.get oa=T.get oa) (h1 : ∀ o,N≤o→(T.get o).isSome=true→T'.get o=T.get o):Tab T' N oa t:=by
 obtain ⟨rs,ids,g,hr,hn,hi⟩:=h;exact ⟨rs,ids,h0.trans g,hr.mono fun o ho=>h1 o (hi o ho) (hr.owl.alive o ho),hn,hi⟩
theorem rows1_flat {T:Store} {t:List (List Int)} {rs:List (List V)} {ids:List Nat} (h:Rows T rowD (vl vint) t rs ids):rs.flatten.length=t.length:=by
 have h1:=h.len;rw [zn (m:=1) fun r hr=>h1.2 r hr,h1.1]; omega
theorem Tab.at {T:Store} {N oa:Nat} {t:List (List Int)} (h:Tab T N oa t) {v:Nat} (hv:v<t.length) : ∃ (cells:List V) (o:Nat),T.get oa=some (1,cells)∧cells.length=t.length∧cells[v]? = some (.slice o 0 t[v].length)∧T.get o=some (1,t[v].map vint)∧N≤o ∧
  ∀ (T':Store) (o':Nat) (l':List Int),N≤o'→(T.get o'=none∨o'=o)→(∀ x,N≤x→x≠o→(T.get x).isSome=true→T'.get x=T.get x)→T'.get o'=some (1,l'.map vint)→T'.get oa=some (1,cells.set v (.slice o' 0 l'.length))→Tab T' N oa (t.set v l'):=by
 obtain ⟨rs,ids,g,hr,hn,hi⟩:=h;obtain ⟨r1,r,r2,i1,ii,i2,rfl,hl,rfl,hrow,hput⟩:=hr.at (List.getElem?_eq_getElem hv);obtain ⟨o,rfl,rfl,ho⟩:=row_row hrow;have hlen:=hr.len;have h1 : ∀ s∈r1,s.length=1:=fun s hs=>hlen.2 s (by simp [hs])
 have hg:=Zh (m:=1) (r1:=r1) (r:=[.slice o 0 t[v].length]) (r2:=r2) (q:=0) (w := .slice o 0 t[v].length) h1 hl rfl;have alive:=hr.owl.alive;refine ⟨_,o,g,rows1_flat hr,by simpa using hg,ho,hi o (by simp),fun T' o' l' hN ho' hk hg' hga => ?_⟩;have hs:=Zg (m:=1) (r1:=r1) (r:=[.slice o 0 t[v].length]) (r2:=r2) (q:=0) (w := .slice o' 0 l'.length) h1 hl (by simp);simp only [Nat.mul_one,Nat.add_zero,List.set_cons_zero] at hs;rw [hs] at hga;have hno : ∀ x∈i1++i2,x≠o:=by
  rintro x hx rfl;have hc:=List.nodup_iff_count.1 hn x;have hc1:1≤(i1++i2).count x:=List.count_pos_iff.2 hx;simp only [List.count_append,List.count_cons,beq_self_eq_true,if_true,List.count_nil] at hc hc1;omega
 refine ⟨_,i1++([o']++i2),hga,hput T' [.slice o' 0 l'.length] l' [o'] (fun x hx => ?_) (row_mk hg'), ?_,fun x hx => ?_⟩
 ·have hxm:x∈i1++([o]++i2):=by
   rcases List.mem_append.1 hx with h | h<;>simp [h]
  exact hk x (hi x hxm) (hno x hx) (alive x hxm)
 ·rcases ho' with ho' | rfl
  ·have hnm : ∀ x∈i1++i2,x≠o':=by
    rintro x hx rfl;have:=alive x (by rcases List.mem_append.1 hx with h | h<;>simp [h]);rw [ho'] at this; cases this
   refine List.nodup_iff_count.2 fun x => ?_
   have hc:=List.nodup_iff_count.1 hn x;simp only [List.count_append,List.count_cons,List.count_nil] at hc ⊢
   by_cases e:o'=x
   ·have hz:(i1++i2).count x=0:=List.count_eq_zero.2 fun hm=>hnm x hm e.symm
    simp only [List.count_append] at hz;have:(if (o'==x)=true then 1 else 0)≤1:=by split<;>omega
    omega
   ·have:(o'==x)=false:=by simpa using e
    rw [this];have h0:(if (o==x)=true then 1 else 0)≥0:=Nat.zero_le _;simp only [Bool.false_eq_true,if_false];omega
  ·exact hn
 ·simp only [List.mem_append,List.mem_singleton] at hx;rcases hx with h | h | h
  ·exact hi x (by simp [h])
  ·omega
  ·exact hi x (by simp [h])
end Go.Vw

namespace Go.Vw
open Go.Proofs Go.RowKit
set_option maxRecDepth 10000
/-! Blocks of one's own, of which one is turned at a time. -/
structure BInv (S H:Store) (hs:List Nat) (ob:Nat) (bs:List Ss.Block) (T:Store) (rs:List (List V)) (ids:List Nat):Prop where
 old:Agree S T
 hd : ∀ o∈hs,T.get o=H.get o
 al : ∀ o∈hs,(H.get o).isSome=true
 cb:T.get ob=some (6,rs.flatten)
 own:Rows T blkD jd bs rs ids
 nd:(hs++ob::ids).Nodup
 lt : ∀ o∈hs++ob::ids,S.nx≤o
theorem some_lt {T:Store} (hw:T.Wf) {o:Nat} (h:(T.get o).isSome=true):o<T.nx:=by
 cases hg:T.get o with
 | none=>rw [hg] at h; cases h
 | some c=>exact qd hw hg
theorem BInv.all_lt {S H:Store} {hs:List Nat} {ob:Nat} {bs:List Ss.Block} {T:Store} {rs:List (List V)} {ids:List Nat} (h:BInv S H hs ob bs T rs ids) (hw:T.Wf) : ∀ o∈hs++ob::ids,o<T.nx:=fun o ho=>by
 refine some_lt hw ?_;rcases List.mem_append.1 ho with ho | ho
 ·rw [h.hd o ho]; exact h.al o ho
 ·rcases List.mem_cons.1 ho with rfl | ho
  ·rw [h.cb]; rfl
  ·exact h.own.owl.alive o ho
theorem BInv.at {S H:Store} {hs:List Nat} {ob:Nat} {bs:List Ss.Block} {T:Store} {rs:List (List V)} {ids:List Nat} (h:BInv S H hs ob bs T rs ids) (hw:T.Wf) {i:Nat} (hi:i<bs.length) :
  ∃ (r1:List (List V)) (r2:List (List V)) (i1 i2:List Nat) (op oc oe:Nat) (rc:List (List V)) (ce:List V) (ip ic ie:List Nat),rs=r1++[.slice op 0 bs[i].params.length, .slice oc 0 bs[i].code.length,vint bs[i].term.kind,vint bs[i].term.arg, .slice oe 0 bs[i].term.to.length,vl vint bs[i].term.args]::r2∧(∀ s∈r1,s.length=6)∧r1.length=i ∧
   T.get op=some (1,bs[i].params.map vint)∧T.get oc=some (4,rc.flatten)∧Rows T insD jq bs[i].code rc ic∧T.get oe=some (2,ce)∧OwL T (reps bs[i].term.to.length KS) ce (jo jk bs[i].term.to) ie ∧
   ids=i1++((op::oc::(ic++oe::ie))++i2)∧(hs++ob::(op::oc::(ic++oe::ie))).Nodup ∧
   ∀ (T':Store) (r':List V) (b':Ss.Block) (ii':List Nat),T.nx≤T'.nx→(∀ o,o<T.nx→o≠ob→o∉op::oc::(ic++oe::ie)→T'.get o=T.get o)→T'.get ob=some (6,(r1++r'::r2).flatten)→OwL T' blkD r' (jd b').cells ii'→ii'.Nodup→(∀ o∈ii',o∈op::oc::(ic++oe::ie)∨T.nx≤o) →
    BInv S H hs ob (bs.set i b') T' (r1++r'::r2) (i1++(ii'++i2)):=by
 have hlt:=h.all_lt hw;obtain ⟨old,hd,al,cb,own,nd,lt⟩:=h;obtain ⟨r1,r,r2,i1,ii,i2,rfl,hl,rfl,hb,hput⟩:=own.at (List.getElem?_eq_getElem hi);have hr6:=own.len.2;obtain ⟨op,oc,oe,rc,ce,ip,ic,ie,rfl,rfl,hop,hoc,hrc,hoe,hie⟩:=block_row hb;have sub:List.Sublist (op::oc::(ic++oe::ie)) (i1++((op::oc::(ic++oe::ie))++i2)):=(List.sublist_append_left _ _).trans (List.sublist_append_right _ _);refine ⟨r1,r2,i1,i2,op,oc,oe,rc,ce,ip,ic,ie,rfl,fun s hs=>hr6 s (by simp [hs]),hl,hop,hoc,hrc,hoe,hie,rfl,List.Sublist.nodup ((List.Sublist.refl hs).append (sub.cons_cons ob)) nd, ?_⟩;intro T' r' b' ii' hnx hk hcb how hnd hin;generalize op::oc::(ic++oe::ie)=ii at *
 have cnt : ∀ o,(hs++ob::(i1++(ii++i2))).count o≤1:=fun o=>List.nodup_iff_count.1 nd o
 simp only [List.count_append,List.count_cons] at cnt;have pos : ∀ {o:Nat} {l:List Nat},o∈l→1≤l.count o:=fun h=>List.count_pos_iff.2 h
 have nob : ∀ o,o∈hs∨o∈i1∨o∈ii∨o∈i2→o≠ob:=by
  rintro o ho rfl;have c:=cnt o;simp only [beq_self_eq_true,if_true] at c;rcases ho with ho | ho | ho | ho<;>(have:=pos ho; omega)
 have nii : ∀ o,o∈hs∨o∈i1∨o∈i2→o∉ii:=by
  intro o ho hm;have c:=cnt o;have:=pos hm;rcases ho with ho | ho | ho<;>(have:=pos ho; omega)
 have keep : ∀ o,o∈hs∨o∈i1∨o∈i2→T'.get o=T.get o:=fun o ho=>by
  refine hk o (hlt o ?_) (nob o ?_) (nii o ho)
  ·rcases ho with ho | ho | ho<;>simp [ho]
  ·rcases ho with ho | ho | ho<;>simp [ho]
 refine ⟨⟨Nat.le_trans old.1 hnx,fun o ho => ?_⟩,fun o ho=>(keep o (.inl ho)).trans (hd o ho),al,hcb,hput T' r' b' ii' (fun o ho=>keep o ?_) how, ?_,fun o ho => ?_⟩
 ·rw [hk o (Nat.lt_of_lt_of_le ho old.1) ?_ ?_]
  ·exact old.2 o ho
  ·rintro rfl;have:=lt o (by simp); omega
  ·intro hm;have:=lt o (by simp [hm]); omega
 ·rcases List.mem_append.1 ho with ho | ho
  ·exact .inr (.inl ho)
  ·exact .inr (.inr ho)
 ·refine List.nodup_iff_count.2 fun o => ?_
  simp only [List.count_append,List.count_cons];have c:=cnt o
  by_cases hm:o∈ii'
  ·have h1:=List.nodup_iff_count.1 hnd o;rcases hin o hm with hm2 | hge
   ·have:=pos hm2; omega
   ·have z1:hs.count o=0:=List.count_eq_zero.2 fun h=>by have:=hlt o (by simp [h]); omega
    have z2:i1.count o=0:=List.count_eq_zero.2 fun h=>by have:=hlt o (by simp [h]); omega
    have z3:i2.count o=0:=List.count_eq_zero.2 fun h=>by have:=hlt o (by simp [h]); omega
    have z4:(if (ob==o)=true then 1 else 0)=0:=by
     have:=hlt ob (by simp);rw [if_neg];simp only [beq_iff_eq]; omega
    omega
  ·have:ii'.count o=0:=List.count_eq_zero.2 hm;omega
 ·simp only [List.mem_append,List.mem_cons] at ho;rcases ho with ho | ho | ho | ho | ho
  ·exact lt o (by simp [ho])
  ·exact lt o (by simp [ho])
  ·exact lt o (by simp [ho])
  ·rcases hin o ho with h | h
   ·exact lt o (by simp [h])
   ·have:=old.1; omega
  ·exact lt o (by simp [ho])
end Go.Vw
